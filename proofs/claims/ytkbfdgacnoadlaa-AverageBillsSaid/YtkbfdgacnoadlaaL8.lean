/- Law AverageBills, its walk. -/
import Derived.Test.YtkbfdgacnoadlaaA17
import Derived.Test.YtkbfdgacnoadlaaL5
import Derived.Test.YtkbfdgacnoadlaaOrd
import Derived.Test.YtkbfdgacnoadlaaBillsMath
import Derived.Test.YtkbfdgacnoadlaaAdjRef
import Derived.Deep.DeepCutAuto
import Derived.Lib.QuietBelow
namespace Go.Proofs.Ytkbfdgacnoadlaa
open Go.RowKit

/-- the rows behind so many rounds of the first loop -/
structure BL1 (w wr : World) (u o tn : Value) (l : List Ps) (U : List Nat) (k : Nat) : Prop where
  hu : wr.ownsRow w.heap.size 46 3 u k (passesV (turnedP l (U.take k)))
  ho : wr.ownsRow w.heap.size 46 3 o 0 (passesV [])
  ht : wr.ownsRow w.heap.size 3 1 tn l.length (ints (nats U))
  uo : Apart u o
  ut : Apart u tn
  below : Below w.heap.size w wr
/-- the rows behind so many rounds of the second loop -/
structure BL2 (w wr : World) (u o : Value) (l : List Ps) (U : List Nat) (who k : Nat) : Prop where
  hu : wr.ownsRow w.heap.size 46 3 u l.length (passesV (turnedP l U))
  ho : wr.ownsRow w.heap.size 46 3 o (ofWho who (l.take k)).length (passesV (ofWho who (l.take k)))
  ou : Apart o u
  below : Below w.heap.size w wr
theorem slice_ne {g k : Nat} (h : g ≠ k) : (Value.slice (some ⟨g, 0, none⟩) 0 0).ownBlock ≠ some k := by
  simp [Value.ownBlock]
  exact h
theorem own_new2 (w : World) (o : Obj) (e : TypeId) (size : Nat) : ((w.alloc o).alloc (.cells #[] e)).ownsRow w.heap.size e size (.slice (some ⟨w.heap.size + 1, 0, none⟩) 0 0) 0 [] := by
  have := own_new (w.alloc o) w.heap.size e size 0 #[] (by simp) (by simp) (Nat.zero_le _)
  simpa using this
theorem own_zero {w : World} {base e size n : Nat} {v : Value} {xs : List Value} (h : w.ownsRow base e size v (0 + n) ([] ++ xs)) : w.ownsRow base e size v n xs := by simpa using h
theorem size_alloc_le {w : World} {n : Nat} {o : Obj} (h : n ≤ w.heap.size) : n ≤ (w.alloc o).heap.size := by
  simp
  omega
theorem rd_more {w : World} {base e : Nat} {v : Value} {l : List Ps} {x : Ps} {cs : Array Value} (h : w.ownsRow base e 3 v (l.length + 1) (passesV l ++ cs.toList)) (hx : passV x = cs.toList) : Rd w w.heap.size 3 v (l ++ [x]).length (passesV (l ++ [x])) := by
  have := Rd.of_own h
  rw [List.length_append, List.length_singleton, passesV_snoc, hx]
  exact this
theorem own_ne_old {w : World} {base e size n g : Nat} {v : Value} {xs : List Value} (h : w.ownsRow base e size v n xs) (hg : g < base) : v.ownBlock ≠ some g := fun e => by
  have := (h.lt g e).1
  omega
def MorePost (w : World) (out : List Int) (s21 s23 : Value) (wx : World) : Prop := ∃ A k, s21 = .slice A 4 k ∧ s23 = .int .i64 0 ∧ wx.ownsRow w.heap.size 3 1 s21 4 (ints out) ∧ Below w.heap.size w wx
theorem at0_nonneg' {l : List Int} {m : Int} (h : ∀ x ∈ l, 0 ≤ x ∧ x ≤ m) (i : Nat) (hm : 0 ≤ m := by omega) : 0 ≤ at0 l i ∧ at0 l i ≤ m := by
  by_cases hi : i < l.length
  · rw [← at0_get hi]
    exact h _ (List.getElem_mem hi)
  · simp [at0, hi]
    exact hm

set_option maxHeartbeats 8000000 in
set_option maxRecDepth 100000 in
theorem bills_law (t : Tf) (l : List Ps) (by' : List Int) (vl vb : Value) (w : World) (B : Nat) (hr : Rd w B 3 vl l.length (passesV l)) (hs : Rd w B 1 vb by'.length (u8s by')) (hB : B ≤ w.heap.size) (hby : ∀ z ∈ by', 0 ≤ z ∧ z ≤ 255) (hbl : by'.length ≤ 9223372036854775807) :
    Calls Try.prog 8 #[.agg (tfV t), vl, vb] w fun e w' => e = .returned (.bool true) ∧ Below w.heap.size w w' := by
  obtain ⟨A, cl, rfl, hnc⟩ := hr.shape
  obtain ⟨A', cb, rfl, hnb⟩ := hs.shape
  by_cases h1 : l.length < 1
  · have h1' : decide ((l.length : Int) < 1) = true := by simp; omega
    unfold tfV
    go_enter Try.func8, Try.ntmps8
    go_wp2_with fail
    refine (known_any _).mono ?_
    rintro e w1 ⟨rfl, hb⟩
    go_wp2_with fail
    go_ret
    exact ⟨rfl, ((Below.refl _ _).alloc (Nat.le_refl _) _).trans (hb.mono (by simp))⟩
  have h1' : decide ((l.length : Int) < 1) = false := by simp; omega
  by_cases h250 : 250 < l.length
  · have h250' : decide (250 < (l.length : Int)) = true := by simp; omega
    unfold tfV
    go_enter Try.func8, Try.ntmps8
    go_wp2_with fail
    refine (known_any _).mono ?_
    rintro e w1 ⟨rfl, hb⟩
    go_wp2_with fail
    go_ret
    exact ⟨rfl, ((Below.refl _ _).alloc (Nat.le_refl _) _).trans (hb.mono (by simp))⟩
  have h250' : decide (250 < (l.length : Int)) = false := by simp; omega
  have cany := fun (m : List Ps) (hm : m.length ≤ 1048576) (W : World) (u : Value) (h : Rd W W.heap.size 3 u m.length (passesV m)) => pdues_any t 4 m u W _ h (Nat.le_refl _) hm
  have hbad := dues_bad (t := t) (l := l)
  have hok := dues_ok (t := t) (l := l)
  have hof := fun (m : List Ps) => dues_of (t := t) (l := m)
  obtain ⟨T, eT⟩ : ∃ T, T = t := ⟨_, rfl⟩
  obtain ⟨tb, tt, tl, tp, tof, tm⟩ := t
  unfold DuesPost at cany
  have cany' : ∀ (m : List Ps), m.length ≤ 1048576 → ∀ (W : World) (u : Value), Rd W W.heap.size 3 u m.length (passesV m) → Calls Try.prog 21 #[.agg #[.int .i64 tb, .int .i64 tt, .int .i64 tl, .int .i64 tp, .int .i64 tof, .int .i64 tm], .int .i64 4, u] W fun e w' =>
      ∃ v', e = .returned (.tuple #[v', .int .i64 (duesSpec T 4 m).2.1, .int .i64 (duesSpec T 4 m).2.2]) ∧ w'.ownsRow W.heap.size 3 1 v' (duesSpec T 4 m).1.length (ints (duesSpec T 4 m).1) ∧ Below W.heap.size W w' := by
    rw [eT]
    exact cany
  rw [← eT] at hbad hok hof
  have hmost : tm = T.most := by rw [eT]
  have hpass : tp = T.passes := by rw [eT]
  have Hmost := Lib.hid hmost
  have Hpass := Lib.hid hpass
  have Hbad := Lib.hid hbad
  have Hok := Lib.hid hok
  have Hof := Lib.hid hof
  have Cany := Lib.hid cany'
  clear cany cany' hbad hok hof eT hmost hpass
  have hq0 := Blk.new w 41 #[.int .i64 tb, .int .i64 tt, .int .i64 tl, .int .i64 tp, .int .i64 tof, .int .i64 tm]
  have hr0 := hr.alloc hB (.cells #[.int .i64 tb, .int .i64 tt, .int .i64 tl, .int .i64 tp, .int .i64 tof, .int .i64 tm] 41)
  have hs0 := hs.alloc hB (.cells #[.int .i64 tb, .int .i64 tt, .int .i64 tl, .int .i64 tp, .int .i64 tof, .int .i64 tm] 41)
  have b0 : Below w.heap.size w (w.alloc (.cells #[.int .i64 tb, .int .i64 tt, .int .i64 tl, .int .i64 tp, .int .i64 tof, .int .i64 tm] 41)) := (Below.refl _ _).alloc (Nat.le_refl _) _
  unfold tfV
  go_enter Try.func8, Try.ntmps8
  go_wp2_with fail
  generalize w.alloc (.cells #[.int .i64 tb, .int .i64 tt, .int .i64 tl, .int .i64 tp, .int .i64 tof, .int .i64 tm] 41) = w0 at hq0 hr0 hs0 b0 ⊢
  obtain ⟨q0, q1, q2, q3, q4, q5⟩ := tfc hq0
  have hq0l := hq0.lt
  have hB0 : B ≤ w0.heap.size := Nat.le_trans hB b0.size
  clear h1' h250'
  go_region_held3 (fun w' => w'.cell? ⟨w.heap.size, 0, none⟩ = some (.int .i64 tb) ∧ w'.cell? ⟨w.heap.size, 1, none⟩ = some (.int .i64 tt) ∧ w'.cell? ⟨w.heap.size, 2, none⟩ = some (.int .i64 tl) ∧ w'.cell? ⟨w.heap.size, 3, none⟩ = some (.int .i64 tp) ∧ w'.cell? ⟨w.heap.size, 4, none⟩ = some (.int .i64 tof) ∧ w'.cell? ⟨w.heap.size, 5, none⟩ = some (.int .i64 tm))
    (first
      | (go_split_ands
         refine ⟨?_, ?_, ?_, ?_, ?_, ?_⟩ <;> first | assumption | exact (hb2.cell (p := ⟨w.heap.size, _, none⟩) (show w.heap.size < w1.heap.size by omega)).trans (by assumption) | exact far_cell hg1 (by assumption) (by simp [Value.ownBlock]; omega))
      | go_keep)
    (first
      | (go_at_call 21; refine (Cany.out l (by omega) _ _ hr1).mono ?_; rintro e w2 ⟨v2, rfl, ho2, hb2⟩)
      | ((refine step_push pass_elem (by rfl) (.tmp 36) (.tmp 37) (by rfl) (by rfl) (own_new w0 w0.heap.size 46 3 0 #[] (Nat.le_refl _) rfl (Nat.zero_le _)).drew B _ l.length (passesV l) (by rfl) ((hr0.alloc hB0 _).drew) (passesV_one l) (by simp only [maxLen]; omega) (by omega) (by simp) ?_; intro v1 w1 hown1 hg1 hat1; have hr1 : Rd w1 w1.heap.size 3 v1 l.length (passesV l) := (by simpa using Rd.of_own hown1); have hs1 : w0.heap.size ≤ w1.heap.size := (by have := hg1.size; simp at this; omega); have hb1 : Below w0.heap.size w0 w1 := Below.push2 ((Below.refl _ _).alloc (Nat.le_refl _) _).drew ((own_new w0 w0.heap.size 46 3 0 #[] (Nat.le_refl _) rfl (Nat.zero_le _)).drew) hg1 (Nat.le_refl _) (by simp))))
  have hb02 : Below w0.heap.size w0 w2 := hb1.trans (hb2.mono hs1)
  have b2 : Below w.heap.size w w2 := b0.trans (hb02.mono b0.size)
  have hq2 := hq0.below hb02 hq0.lt
  have hr2 := hr0.below (hb02.mono hB0)
  have hs2 := hs0.below (hb02.mono hB0)
  have hB2 : B ≤ w2.heap.size := Nat.le_trans hB0 hb02.size
  clear hown1 hg1 hat1 hr1 hs1 hb1 hb2 hb02 hq0 hr0 hs0 b0 hB0 q0 q1 q2 q3 q4 q5 hq0l
  by_cases he : (duesSpec T 4 l).2.2 = 0
  rotate_left
  · have hl0 := Hbad.out he
    rw [hl0] at ho2
    have he' : ((duesSpec T 4 l).2.2 != 0) = true := by simpa using he
    have rv := Rd.of_own ho2
    obtain ⟨A2, k2, rfl, hn2⟩ := rv.shape
    obtain ⟨E, eE⟩ : ∃ E, E = (duesSpec T 4 l).2.2 := ⟨_, rfl⟩
    rw [← eE] at he' ⊢
    clear he eE rv ho2 hl0
    go_wp2_with fail
    refine (known_any _).mono ?_
    rintro e w3 ⟨rfl, hb3⟩
    go_wp2_with fail
    go_ret
    exact ⟨rfl, b2.trans (hb3.mono b2.size)⟩
  obtain ⟨ht, hlen, hall⟩ := Hok.out he
  have hspec := Hof.out l ht hlen hall
  have hcan : ∀ (m : List Ps), m.length ≤ 300 → (∀ x ∈ m, passErr 4 x = 0) → ∀ (W : World) (u : Value), Rd W W.heap.size 3 u m.length (passesV m) → Calls Try.prog 21 #[.agg #[.int .i64 tb, .int .i64 tt, .int .i64 tl, .int .i64 tp, .int .i64 tof, .int .i64 tm], .int .i64 4, u] W fun e w' =>
      ∃ v', e = .returned (.tuple #[v', .int .i64 0, .int .i64 0]) ∧ w'.ownsRow W.heap.size 3 1 v' 4 (ints (duesTo T m 4)) ∧ Below W.heap.size W w' := by
    intro m hm hok W u h
    have hc := Cany.out m (by omega) W u h
    rw [Hof.out m ht hm hok] at hc
    simp only [duesTo_len] at hc
    exact hc
  have Hcan := Lib.hid hcan
  have Ht := Lib.hid ht
  have Hall := Lib.hid hall
  rw [hspec] at ho2 ⊢
  simp only [duesTo_len] at ho2 ⊢
  have rv2 := Rd.of_own ho2
  obtain ⟨A2, k2, rfl, hn2⟩ := rv2.shape
  clear he hspec hcan ht hall Hbad Hok Hof Cany ho2
  have hp0 := part_any by' 0 (.slice A' by'.length cb) by'.length ((w2.alloc (.cells #[] 46)).alloc (.cells #[] 46)) B ((hs2.alloc hB2 _).alloc (by simp; omega) _) hbl (by omega)
  rw [show (((0 : Nat)) : Int) = 0 from rfl] at hp0
  have at0b : ∀ j, 0 ≤ at0 by' j ∧ at0 by' j ≤ 255 := fun j => at0_nonneg' hby j
  have hpb := at0b (0 % by'.length)
  obtain ⟨p, ep⟩ : ∃ p, p = at0 by' (0 % by'.length) := ⟨_, rfl⟩
  rw [← ep] at hp0 hpb
  obtain ⟨hp1, hp2⟩ := hpb
  obtain ⟨who, hwho⟩ : ∃ q : Nat, p % 4 = q := ⟨(p % 4).toNat, by omega⟩
  have hw4 : who < 4 := by omega
  have Hp0 := Lib.hid hp0
  have Hab := Lib.hid at0b
  have hoth0 : ((w2.alloc (.cells #[] 46)).alloc (.cells #[] 46)).ownsRow w2.heap.size 46 3 (.slice (some ⟨w2.heap.size, 0, none⟩) 0 0) 0 (passesV []) := (own_new w2 w2.heap.size 46 3 0 #[] (Nat.le_refl _) rfl (Nat.zero_le _)).alloc _
  have hown0 : ((w2.alloc (.cells #[] 46)).alloc (.cells #[] 46)).ownsRow w2.heap.size 46 3 (.slice (some ⟨w2.heap.size + 1, 0, none⟩) 0 0) 0 (passesV []) := by
    have := own_new (w2.alloc (.cells #[] 46)) w2.heap.size 46 3 0 #[] (by simp) rfl (Nat.zero_le _)
    simpa [passesV] using this
  have hap0 : Apart (.slice (some ⟨w2.heap.size, 0, none⟩) 0 0) (.slice (some ⟨w2.heap.size + 1, 0, none⟩) 0 0) := fun g h1 h2 => by simp [Value.ownBlock] at h1 h2; omega
  have hb22 : Below w2.heap.size w2 ((w2.alloc (.cells #[] 46)).alloc (.cells #[] 46)) := ((Below.refl _ _).alloc (Nat.le_refl _) _).alloc (by simp) _
  have hsx := (hs2.alloc hB2 (.cells #[] 46)).alloc (by simp; omega) (.cells #[] 46)
  clear hp0 at0b ep
  go_wp2_with fail
  refine Hp0.out.mono ?_
  rintro e w' ⟨rfl, rfl⟩
  generalize (w2.alloc (.cells #[] 46)).alloc (.cells #[] 46) = w3 at hoth0 hown0 hb22 hsx ⊢
  have hB3 : B ≤ w3.heap.size := Nat.le_trans hB2 hb22.size
  clear Hp0
  go_wp2_with fail
  refine (order_any l.length by' _ _ B hsx hB3 hbl (by omega) hby).mono ?_
  rintro e w4 ⟨v4, U, rfl, hU, ho4, hb4⟩
  have hU4 := own_below hoth0 hb4 (Nat.le_refl _)
  have hO4 := own_below hown0 hb4 (Nat.le_refl _)
  have hT4 := own_less ho4 hb22.size
  have hut : Apart (.slice (some ⟨w2.heap.size, 0, none⟩) 0 0) v4 := fun g h1 h2 => by
    have h3 := (ho4.lt g h2).1
    have h4 := (hoth0.lt g h1).2
    omega
  have hb24 := hb22.trans (hb4.mono hb22.size)
  have hUl : U.length = l.length := by rw [hU.length_eq, List.length_range]
  have hUm : ∀ i (h : i < U.length), U[i] < l.length := fun i h => by
    have := hU.mem_iff.1 (List.getElem_mem h)
    simpa using this
  have HU := Lib.hid hU
  have HUl := Lib.hid hUl
  have HUm := Lib.hid hUm
  obtain ⟨A4, k4, rfl, hn4⟩ := (Rd.of_own hT4).shape
  clear hU hUl hUm ho4 hb4 hoth0 hown0 hb22 hsx hB3
  go_wp2_with fail
  go_loopw [10, 14] (fun u i wr => ∃ k : Nat, k ≤ l.length ∧ i = .int .i64 k ∧ BL1 w2 wr u (.slice (some ⟨w2.heap.size + 1, 0, none⟩) 0 0) (.slice A4 l.length k4) l U k) (fun _ i _ => l.length - (intOf i).toNat)
  case atStart => exact ⟨0, Nat.zero_le _, rfl, hU4, hO4, hT4, hap0, hut, hb24⟩
  case round =>
    clear hU4 hO4 hT4 hap0 hut hb24
    obtain ⟨k, hk, rfl, R⟩ := hrel
    have hsz := R.below.size
    by_cases hlt : k < l.length
    · have hkU : k < U.length := by rw [HUl.out]; exact hlt
      have hUk := HUm.out k hkU
      obtain ⟨g4, c4, e4, g41, g42⟩ := R.ht.form (by omega)
      injection e4 with e4 _ e5
      subst e4 e5
      have kt : wr.cell? ⟨g4, k, none⟩ = some (.int .i64 ((U[k] : Nat) : Int)) := by
        rw [R.ht.cellAt k (by omega), ints_get _ k (by rw [nats_length]; exact hkU), nats_at' _ hkU]
      obtain ⟨b, off, rfl, hbB, c0, c1, c2⟩ := passes_cells l U[k] hUk _ B _ _ _ (hr2.below (R.below.mono hB2))
      have hgx := getP l hUk
      have hnx : turnedP l (U.take (k + 1)) = turnedP l (U.take k) ++ [l[U[k]]] := by rw [List.take_succ_eq_append_getElem hkU, turnedP_snoc, hgx]
      obtain ⟨z, hz⟩ : ∃ z, z = l[U[k]] := ⟨_, rfl⟩
      rw [← hz] at c0 c1 c2 hnx
      obtain ⟨i, hi⟩ : ∃ i, i = U[k] := ⟨_, rfl⟩
      rw [← hi] at kt hUk c0 c1 c2
      clear hz hgx hi
      obtain ⟨xp, xt, xl⟩ := z
      simp only at c0 c1 c2
      have Hnx := Lib.hid hnx
      clear hnx
      have hru := R.hu
      have i0 : (0 : Int) ≤ (k : Int) := Int.natCast_nonneg _
      have i1 : (k : Int) < (l.length : Int) := by omega
      have i2 : (0 : Int) ≤ (i : Int) := Int.natCast_nonneg _
      have i3 : (i : Int) < (l.length : Int) := by omega
      go_wp2_with (at_builtin; refine wpList_push pass_elem rfl (.tmp 67) (.tmp 75) rfl rfl hru _ rfl rfl (by simp [Value.oneCell']) (by simp only [maxLen]; omega) (by omega) hsz ?_; intro v6 w6 hown6 hg6 hat6)
      go_roundw
      case rel =>
        refine ⟨k + 1, by omega, by go_num, ?_, own_apart R.ho hg6 R.uo, own_apart R.ht hg6 R.ut, R.uo.push R.ho hat6, R.ut.push R.ht hat6, Below.push R.below R.hu hg6 (Nat.le_refl _) hsz⟩
        rw [Hnx.out, passesV_snoc]
        exact hown6
      case measure => simp [intOf]; omega
    · have hkl : k = l.length := by omega
      subst hkl
      have hU6 := R.hu
      rw [← HUl.out, List.take_length, HUl.out] at hU6
      have hO6 := R.ho
      have hou : Apart (.slice (some ⟨w2.heap.size + 1, 0, none⟩) 0 0) u10 := R.uo.symm
      have hb6 := R.below
      obtain ⟨wo, rfl⟩ : ∃ wo : World, wo = wr := ⟨_, rfl⟩
      clear R
      go_wp2_with fail
      go_loopw [11, 15] (fun o i wr => ∃ k : Nat, k ≤ l.length ∧ i = .int .i64 k ∧ BL2 w2 wr u10 o l U who k) (fun _ i _ => l.length - (intOf i).toNat)
      case atStart => exact ⟨0, Nat.zero_le _, rfl, hU6, hO6, hou, hb6⟩
      case round =>
        clear hU6 hO6 hou hb6
        obtain ⟨k, hk2, rfl, R⟩ := hrel
        have hsz := R.below.size
        by_cases hlt : k < l.length
        · obtain ⟨b, off, rfl, hbB, c0, c1, c2⟩ := passes_cells l k hlt _ B _ _ _ (hr2.below (R.below.mono hB2))
          have hnx := ofWho_snoc who (l.take k) l[k]
          rw [← List.take_succ_eq_append_getElem hlt] at hnx
          have hol := ofWho_len who (l.take k)
          rw [List.length_take] at hol
          obtain ⟨z, hz⟩ : ∃ z, z = l[k] := ⟨_, rfl⟩
          rw [← hz] at c0 c1 c2 hnx
          clear hz
          obtain ⟨xp, xt, xl⟩ := z
          simp only at c0 c1 c2 hnx
          have hro := R.ho
          have i0 : (0 : Int) ≤ (k : Int) := Int.natCast_nonneg _
          have i1 : (k : Int) < (l.length : Int) := by omega
          by_cases hp : xp = (who : Int)
          · have hp' : (xp == (who : Int)) = true := by simpa using hp
            rw [if_pos hp] at hnx
            have Hnx := Lib.hid hnx
            clear hnx hp
            go_wp2_with (at_builtin; refine wpList_push pass_elem rfl (.tmp 90) (.tmp 95) rfl rfl hro _ rfl rfl (by simp [Value.oneCell']) (by simp only [maxLen]; omega) (by omega) hsz ?_; intro v6 w6 hown6 hg6 hat6)
            go_roundw
            case rel =>
              refine ⟨k + 1, by omega, by go_num, own_apart R.hu hg6 R.ou, ?_, R.ou.push R.hu hat6, Below.push R.below R.ho hg6 (Nat.le_refl _) hsz⟩
              rw [Hnx.out, passesV_snoc, List.length_append]
              exact hown6
            case measure => simp [intOf]; omega
          · have hp' : (xp == (who : Int)) = false := by simpa using hp
            rw [if_neg hp] at hnx
            have Hnx := Lib.hid hnx
            clear hnx hp
            go_wp2_with fail
            go_roundw
            case rel => exact ⟨k + 1, by omega, by go_num, R.hu, by rw [Hnx.out]; exact R.ho, R.ou, R.below⟩
            case measure => simp [intOf]; omega
        · have hkl : k = l.length := by omega
          subst hkl
          have hUx := R.hu
          have hOx := R.ho
          rw [List.take_length] at hOx
          have hxou := R.ou
          have hbx := R.below
          have hpm := turnedP_perm l HU.out
          have hml : (turnedP l U).length = l.length := by rw [turnedP_len, HUl.out]
          have hol := ofWho_len who l
          have hqx := hq2.below hbx hq2.lt
          have hrx := hr2.below (hbx.mono hB2)
          have hsx := hs2.below (hbx.mono hB2)
          have rvx := rv2.go hbx
          have bx := b2.trans (hbx.mono b2.size)
          have hBx : B ≤ wr.heap.size := Nat.le_trans hB2 hsz
          have c1 := Hcan.out (turnedP l U) (by omega) (fun x hx => Hall.out x (hpm.mem_iff.1 hx))
          rw [dues_perm T hpm, hml] at c1
          have c2 := Hcan.out (ofWho who l) (by omega) (fun x hx => Hall.out x (List.mem_filter.1 hx).1)
          have C1 := Lib.hid c1
          have C2 := Lib.hid c2
          have hru := Rd.of_own hUx
          obtain ⟨Au, ku, rfl, hnu⟩ := hru.shape
          obtain ⟨q0, q1, q2, q3, q4, q5⟩ := tfc hqx
          clear c1 c2 hpm hml R hbx hq2 hr2 hs2 rv2 b2 hB2 hsz
          go_wp2_with fail
          refine (C1.out _ _ hru).mono ?_
          rintro e w5 ⟨v5, rfl, ho5, hb5⟩
          clear q0 q1 q2 q3 q4 q5
          have hqy := hqx.below hb5 hqx.lt
          have hO5 := own_below hOx hb5 (Nat.le_refl _)
          have hry := (hrx.more hBx).go hb5
          have hsy := (hsx.more hBx).go hb5
          have rvy := rvx.go hb5
          have r5 := Rd.of_own ho5
          have b5 := bx.trans (hb5.mono bx.size)
          obtain ⟨A5, k5, rfl, hn5⟩ := r5.shape
          have hro := Rd.of_own hO5
          obtain ⟨Ao, ko, rfl, hno⟩ := hro.shape
          obtain ⟨q0, q1, q2, q3, q4, q5⟩ := tfc hqy
          have hqyl := hqy.lt
          clear hqx hOx hxou hrx hsx rvx bx hBx hru hb5 ho5 hUx C1
          go_wp2_with fail
          go_region_held3 (fun w' => w'.cell? ⟨w.heap.size, 0, none⟩ = some (.int .i64 tb) ∧ w'.cell? ⟨w.heap.size, 1, none⟩ = some (.int .i64 tt) ∧ w'.cell? ⟨w.heap.size, 2, none⟩ = some (.int .i64 tl) ∧ w'.cell? ⟨w.heap.size, 3, none⟩ = some (.int .i64 tp) ∧ w'.cell? ⟨w.heap.size, 4, none⟩ = some (.int .i64 tof) ∧ w'.cell? ⟨w.heap.size, 5, none⟩ = some (.int .i64 tm))
            (first
              | (go_split_ands
                 refine ⟨?_, ?_, ?_, ?_, ?_, ?_⟩ <;> first | assumption | exact (hb7.cell (p := ⟨w.heap.size, _, none⟩) hw6).trans (by assumption) | exact far_cell hg6 (by assumption) (slice_ne (Nat.ne_of_gt hqyl)))
              | go_keep)
            (first
              | (go_at_call 21; refine (C2.out _ _ hr6).mono ?_; rintro e w7 ⟨v7, rfl, ho7, hb7⟩)
              | ((refine step_push pass_elem (by rfl) (.tmp 106) (.tmp 107) (by rfl) (by rfl) (own_new w5 w5.heap.size 46 3 0 #[] (Nat.le_refl _) rfl (Nat.zero_le _)).drew w5.heap.size _ (ofWho who l).length (passesV (ofWho who l)) (by rfl) ((hro.alloc (Nat.le_refl _) _).drew) (passesV_one _) (by simp only [maxLen]; omega) (by omega) (size_alloc_le (Nat.le_refl _)) ?_; intro v6 w6 hown6 hg6 hat6; have own6 := own_zero hown6; have hr6 := Rd.of_own own6; have hb6 : Below w5.heap.size w5 w6 := Below.push2 ((Below.refl _ _).alloc (Nat.le_refl _) _).drew ((own_new w5 w5.heap.size 46 3 0 #[] (Nat.le_refl _) rfl (Nat.zero_le _)).drew) hg6 (Nat.le_refl _) (size_alloc_le (Nat.le_refl _)); have hw6 : w.heap.size < w6.heap.size := Nat.lt_of_lt_of_le hqyl hb6.size)))
          have hb57 := hb6.trans (hb7.mono hb6.size)
          have hq7 := hqy.below hb57 hqy.lt
          have hr7 := hry.go hb57
          have hs7 := hsy.go hb57
          have rv7 := rvy.go hb57
          have r57 := r5.go hb57
          have r7 := Rd.of_own ho7
          have b7 := b5.trans (hb57.mono b5.size)
          obtain ⟨A7, k7, rfl, hn7⟩ := r7.shape
          clear hown6 hg6 hat6 own6 hr6 hb6 hw6 hb7 ho7 hb57 hqy hry hsy rvy r5 b5 hro hO5 q0 q1 q2 q3 q4 q5 hqyl
          obtain ⟨q0, q1, q2, q3, q4, q5⟩ := tfc hq7
          have hq7l := hq7.lt
          obtain ⟨P1b, P1c⟩ := Hab.out (1 % by'.length)
          obtain ⟨P2b, P2c⟩ := Hab.out (2 % by'.length)
          have hpart1' := fun (W : World) (hW : Below w7.heap.size w7 W) => part_any by' 1 _ _ W _ (hs7.below hW) hbl (by omega)
          have hpart2' := fun (W : World) (hW : Below w7.heap.size w7 W) => part_any by' 2 _ _ W _ (hs7.below hW) hbl (by omega)
          rw [show (((1 : Nat)) : Int) = 1 from rfl] at hpart1'
          rw [show (((2 : Nat)) : Int) = 2 from rfl] at hpart2'
          obtain ⟨P1, eP1⟩ : ∃ P, P = at0 by' (1 % by'.length) := ⟨_, rfl⟩
          obtain ⟨P2, eP2⟩ : ∃ P, P = at0 by' (2 % by'.length) := ⟨_, rfl⟩
          rw [← eP1] at hpart1' P1b P1c
          rw [← eP2] at hpart2' P2b P2c
          obtain ⟨x, hx⟩ : ∃ x : Ps, x = ⟨(who : Int), P1, P2⟩ := ⟨_, rfl⟩
          have hX : passV x = #[.int .i64 who, .int .i64 P1, .int .i64 P2].toList := by rw [hx]; rfl
          have hxe : passErr 4 x = 0 := by
            have a1 : inB 0 (4 - 1) (who : Int) = true := inB_iff.2 ⟨by omega, by omega⟩
            have a2 : inB 0 400000 P1 = true := inB_iff.2 ⟨by omega, by omega⟩
            have a3 : inB 0 3000 P2 = true := inB_iff.2 ⟨by omega, by omega⟩
            rw [hx]
            unfold passErr
            rw [if_neg (by rw [a1]; decide), if_neg (by rw [a2]; decide), if_neg (by rw [a3]; decide)]
          have hxw : x.p = (who : Int) := by rw [hx]
          have c3 := Hcan.out (l ++ [x]) (by simp; omega) (fun y hy => by rcases List.mem_append.1 hy with h | h; exact Hall.out y h; rw [List.mem_singleton.1 h]; exact hxe)
          have C3 := Lib.hid c3
          have Hxe := Lib.hid hxe
          have Hxw := Lib.hid hxw
          have HX := Lib.hid hX
          have Hp1 := Lib.hid hpart1'
          have Hp2 := Lib.hid hpart2'
          have j1 : IntKind.i64.wrap P1 = P1 := IntWalk.i64_in _ ⟨by omega, by omega⟩
          have j2 : IntKind.i64.wrap P2 = P2 := IntWalk.i64_in _ ⟨by omega, by omega⟩
          clear c3 hxe hxw hX hpart1' hpart2' eP1 eP2 hx
          go_upto_region 19 with (fail)
          go_cut [21, 23] (fun s21 s23 wx => MorePost w7 (duesTo T (l ++ [x]) 4) s21 s23 wx)
          case first =>
            have hX := HX.out
            go_region_held3 (fun w' => w'.cell? ⟨w.heap.size, 0, none⟩ = some (.int .i64 tb) ∧ w'.cell? ⟨w.heap.size, 1, none⟩ = some (.int .i64 tt) ∧ w'.cell? ⟨w.heap.size, 2, none⟩ = some (.int .i64 tl) ∧ w'.cell? ⟨w.heap.size, 3, none⟩ = some (.int .i64 tp) ∧ w'.cell? ⟨w.heap.size, 4, none⟩ = some (.int .i64 tof) ∧ w'.cell? ⟨w.heap.size, 5, none⟩ = some (.int .i64 tm))
              (first
                | (go_split_ands
                   refine ⟨?_, ?_, ?_, ?_, ?_, ?_⟩ <;> first | assumption | exact (hb10.cell (p := ⟨w.heap.size, _, none⟩) hb9w).trans (by assumption) | exact far_cell hg9 (by assumption) ne8 | exact far_cell hg8 (by assumption) neE)
                | go_keep)
              (first
              | (go_at_call 24; (with_reducible refine (Hp1.out _ ((Below.refl _ _).drew)).mono ?_); rintro e w' ⟨rfl, rfl⟩)
              | (go_at_call 24; (with_reducible refine (Hp1.out _ (((Below.refl _ _).alloc (Nat.le_refl _) (.cells #[] 46)).drew)).mono ?_); rintro e w' ⟨rfl, rfl⟩)
              | (go_at_call 24; (with_reducible refine (Hp1.out _ (hb8)).mono ?_); rintro e w' ⟨rfl, rfl⟩)
              | (go_at_call 24; (with_reducible refine (Hp2.out _ ((Below.refl _ _).drew)).mono ?_); rintro e w' ⟨rfl, rfl⟩)
              | (go_at_call 24; (with_reducible refine (Hp2.out _ (((Below.refl _ _).alloc (Nat.le_refl _) (.cells #[] 46)).drew)).mono ?_); rintro e w' ⟨rfl, rfl⟩)
              | (go_at_call 24; (with_reducible refine (Hp2.out _ (hb8)).mono ?_); rintro e w' ⟨rfl, rfl⟩)
              | ((refine step_push pass_elem (by rfl) (.tmp 115) (.tmp 116) (by rfl) (by rfl) (own_new w7 w7.heap.size 46 3 0 #[] (Nat.le_refl _) rfl (Nat.zero_le _)).drew w7.heap.size _ l.length (passesV l) (by rfl) (hr7.alloc (Nat.le_refl _) (.cells #[] 46)).drew (passesV_one l) (by simp only [maxLen]; omega) (by omega) (size_alloc_le (Nat.le_refl _)) ?_; intro v8 w8 hown8 hg8 hat8; have own8 := own_zero hown8; have hb8 : Below w7.heap.size w7 w8 := Below.push2 ((Below.refl _ _).alloc (Nat.le_refl _) (.cells #[] 46)).drew (own_new w7 w7.heap.size 46 3 0 #[] (Nat.le_refl _) rfl (Nat.zero_le _)).drew hg8 (Nat.le_refl _) (size_alloc_le (Nat.le_refl _)); have ne8 := own_ne_old own8 hq7l; have neE : (Value.slice (some ⟨w7.heap.size, 0, none⟩) 0 0).ownBlock ≠ some w.heap.size := slice_ne (Nat.ne_of_gt hq7l)))
              | ((refine step_push pass_elem (by rfl) (.tmp 115) (.tmp 116) (by rfl) (by rfl) ((own_new w7 w7.heap.size 46 3 0 #[] (Nat.le_refl _) rfl (Nat.zero_le _)).alloc (.cells #[.int .i64 who, .int .i64 P1, .int .i64 P2] 46)).drew w7.heap.size _ l.length (passesV l) (by rfl) ((hr7.alloc (Nat.le_refl _) (.cells #[] 46)).alloc (size_alloc_le (Nat.le_refl _)) (.cells #[.int .i64 who, .int .i64 P1, .int .i64 P2] 46)).drew (passesV_one l) (by simp only [maxLen]; omega) (by omega) (size_alloc_le (size_alloc_le (Nat.le_refl _))) ?_; intro v8 w8 hown8 hg8 hat8; have own8 := own_zero hown8; have hb8 : Below w7.heap.size w7 w8 := Below.push2 (((Below.refl _ _).alloc (Nat.le_refl _) (.cells #[] 46)).alloc (size_alloc_le (Nat.le_refl _)) (.cells #[.int .i64 who, .int .i64 P1, .int .i64 P2] 46)).drew ((own_new w7 w7.heap.size 46 3 0 #[] (Nat.le_refl _) rfl (Nat.zero_le _)).alloc (.cells #[.int .i64 who, .int .i64 P1, .int .i64 P2] 46)).drew hg8 (Nat.le_refl _) (size_alloc_le (size_alloc_le (Nat.le_refl _))); have ne8 := own_ne_old own8 hq7l; have neE : (Value.slice (some ⟨w7.heap.size, 0, none⟩) 0 0).ownBlock ≠ some w.heap.size := slice_ne (Nat.ne_of_gt hq7l); have blkX := Blk.far2 (blk_new2 w7 (.cells #[] 46) 46 #[.int .i64 who, .int .i64 P1, .int .i64 P2]).drew hg8 (slice_ne (Nat.ne_of_lt (Nat.lt_succ_self _)))))
              | ((refine step_push pass_elem (by rfl) (.tmp 115) (.tmp 116) (by rfl) (by rfl) (own_new2 w7 (.cells #[.int .i64 who, .int .i64 P1, .int .i64 P2] 46) 46 3).drew w7.heap.size _ l.length (passesV l) (by rfl) ((hr7.alloc (Nat.le_refl _) (.cells #[.int .i64 who, .int .i64 P1, .int .i64 P2] 46)).alloc (size_alloc_le (Nat.le_refl _)) (.cells #[] 46)).drew (passesV_one l) (by simp only [maxLen]; omega) (by omega) (size_alloc_le (size_alloc_le (Nat.le_refl _))) ?_; intro v8 w8 hown8 hg8 hat8; have own8 := own_zero hown8; have hb8 : Below w7.heap.size w7 w8 := Below.push2 (((Below.refl _ _).alloc (Nat.le_refl _) (.cells #[.int .i64 who, .int .i64 P1, .int .i64 P2] 46)).alloc (size_alloc_le (Nat.le_refl _)) (.cells #[] 46)).drew (own_new2 w7 (.cells #[.int .i64 who, .int .i64 P1, .int .i64 P2] 46) 46 3).drew hg8 (Nat.le_refl _) (size_alloc_le (size_alloc_le (Nat.le_refl _))); have ne8 := own_ne_old own8 hq7l; have neE : (Value.slice (some ⟨(w7.heap.size + 1), 0, none⟩) 0 0).ownBlock ≠ some w.heap.size := slice_ne (Nat.ne_of_gt (Nat.lt_succ_of_lt hq7l)); have blkX := Blk.far2 ((Blk.new w7 46 #[.int .i64 who, .int .i64 P1, .int .i64 P2]).alloc (.cells #[] 46)).drew hg8 (slice_ne (Nat.ne_of_gt (Nat.lt_succ_self _)))))
              | ((refine step_push_blk pass_elem (by rfl) (.tmp 117) (.tmp 126) (by rfl) (by rfl) _ #[.int .i64 who, .int .i64 P1, .int .i64 P2] (by rfl) own8 blkX (by rfl) (by simp [Value.oneCell']) (by simp only [maxLen]; omega) (by omega) hb8.size ?_; intro v9 w9 hown9 hg9 hat9; have hr9 := rd_more hown9 hX; have hb9 : Below w7.heap.size w7 w9 := Below.push2 hb8 own8 hg9 (Nat.le_refl _) hb8.size; have hb9w : w.heap.size < w9.heap.size := Nat.lt_of_lt_of_le hq7l hb9.size))
              | ((refine step_push_blk pass_elem (by rfl) (.tmp 117) (.tmp 126) (by rfl) (by rfl) _ #[.int .i64 who, .int .i64 P1, .int .i64 P2] (by rfl) (own8.alloc _) (Blk.new w8 _ _) (by rfl) (by simp [Value.oneCell']) (by simp only [maxLen]; omega) (by omega) (size_alloc_le hb8.size) ?_; intro v9 w9 hown9 hg9 hat9; have hr9 := rd_more hown9 hX; have hb9 : Below w7.heap.size w7 w9 := Below.push2 (hb8.alloc hb8.size _) (own8.alloc _) hg9 (Nat.le_refl _) (size_alloc_le hb8.size); have hb9w : w.heap.size < w9.heap.size := Nat.lt_of_lt_of_le hq7l hb9.size))
              | (go_at_call 21; refine (C3.out _ _ hr9).mono ?_; rintro e w10 ⟨v10, rfl, ho10, hb10⟩)
              | fail)
            obtain ⟨A10, k10, rfl, _⟩ := (Rd.of_own ho10).shape
            go_wp2_with fail
            go_meet
            exact ⟨_, _, rfl, rfl, own_less ho10 hb9.size, hb9.trans (hb10.mono hb9.size)⟩
          case rest =>
            obtain ⟨A8, k8, rfl, rfl, ho8, hb8⟩ := hcut
            have r8 := Rd.of_own ho8
            have rv8 := rv7.go hb8
            have r58 := r57.go hb8
            have r78 := r7.go hb8
            have b8 := b7.trans (hb8.mono b7.size)
            have hq8 := hq7.below hb8 hq7.lt
            clear ho8 hb8 rv7 r57 r7 b7 hq7 hr7 hs7 q0 q1 q2 q3 q4 q5 hq7l C3 C2 Hp1 Hp2 HX Hab j1 j2
            have hdl : (duesTo T l 4).length = 4 := duesTo_len _ _ _
            go_wp2_with fail
            refine (equal_any (duesTo T l 4) (duesTo T l 4) _ _ 4 4 _ _ _ rv8 r58 (Nat.le_refl _) (Nat.le_refl _) (by omega)).mono ?_
            rw [eqL_refl]
            rintro e w9 ⟨rfl, hb9⟩
            have rv9 := rv8.go hb9
            have r79 := r78.go hb9
            have r89 := r8.go hb9
            have b9 := b8.trans (hb9.mono b8.size)
            have hq9 := hq8.below hb9 hq8.lt
            clear rv8 r58 r78 r8 b8 hq8 hb9 hdl
            go_wp2_with fail
            go_loopw [24] (fun i wr => ∃ k : Nat, k ≤ 4 ∧ i = .int .i64 k ∧ Below w9.heap.size w9 wr) (fun i _ => 4 - (intOf i).toNat)
            case atStart => exact ⟨0, by omega, rfl, Below.refl _ _⟩
            case round =>
              obtain ⟨k, hk, rfl, hbw⟩ := hrel
              by_cases hlt : k < 4
              · obtain ⟨b, off, rfl, hbB, c0⟩ := ints_cell (duesTo T l 4) k (by rw [duesTo_len]; exact hlt) _ _ _ _ _ (rv9.below hbw)
                obtain ⟨b', off', rfl, hbB', d0⟩ := ints_cell (duesTo T (l ++ [x]) 4) k (by rw [duesTo_len]; exact hlt) _ _ _ _ _ (r89.below hbw)
                have t5 := (tfc (hq9.below hbw hq9.lt)).2.2.2.2.2
                obtain ⟨e0, e1⟩ := due_bd Ht.out Hall.out hlt
                rw [← Hmost.out] at e1
                have hoth := fun (h : x.p ≠ (k : Int)) => dues_other T l x hlt h
                obtain ⟨d, ed⟩ : ∃ d, d = at0 (duesTo T l 4) k := ⟨_, rfl⟩
                obtain ⟨m, em⟩ : ∃ d, d = at0 (duesTo T (l ++ [x]) 4) k := ⟨_, rfl⟩
                rw [← ed] at c0 e0 e1 hoth
                rw [← em] at d0 hoth
                have hcase : ((k : Int) != (who : Int)) = false ∨ ((k : Int) != (who : Int)) = true ∧ (m != d) = false := by
                  by_cases h : k = who
                  · exact .inl (by simp [h])
                  · exact .inr ⟨by simp; omega, by simp; exact hoth (by rw [Hxw.out]; omega)⟩
                have i0 : (0 : Int) ≤ (k : Int) := Int.natCast_nonneg _
                have i1 : (k : Int) < 4 := by omega
                have dl1 : decide (d < 0) = false := by simpa using e0
                have dl2 : decide (tm < d) = false := by simpa using e1
                clear hoth ed em e0 e1
                rcases hcase with hc1 | ⟨hc1, hc2⟩
                all_goals
                  go_wp2_with fail
                  go_quiet (fail)
                  go_wp2_with fail
                  go_roundw
                  case rel => exact ⟨k + 1, by omega, by go_num, below_drewN hbw _⟩
                  case measure => simp [intOf]; omega
              · have hk4 : k = 4 := by omega
                subst hk4
                have rvw := rv9.go hbw
                have r7w := r79.go hbw
                have r8w := r89.go hbw
                have hqw := hq9.below hbw hq9.lt
                have bw := b9.trans (hbw.mono b9.size)
                obtain ⟨b, off, rfl, hbB, c0⟩ := ints_cell (duesTo T l 4) who (by rw [duesTo_len]; exact hw4) _ _ _ _ _ rvw
                obtain ⟨b', off', rfl, hbB', d0⟩ := ints_cell (duesTo T (l ++ [x]) 4) who (by rw [duesTo_len]; exact hw4) _ _ _ _ _ r8w
                obtain ⟨b'', off'', rfl, hbB'', f0⟩ := ints_cell (duesTo T (ofWho who l) 4) who (by rw [duesTo_len]; exact hw4) _ _ _ _ _ r7w
                rw [dues_own T l hw4] at f0
                have t3 := (tfc hqw).2.2.2.1
                have hmore := dues_more Ht.out Hall.out Hxe.out hw4 Hxw.out
                rw [← Hpass.out] at hmore
                obtain ⟨d, ed⟩ : ∃ d, d = at0 (duesTo T l 4) who := ⟨_, rfl⟩
                obtain ⟨m, em⟩ : ∃ d, d = at0 (duesTo T (l ++ [x]) 4) who := ⟨_, rfl⟩
                rw [← ed] at c0 f0 hmore
                rw [← em] at d0 hmore
                obtain ⟨on, eo⟩ : ∃ n, n = (ofWho who l).length := ⟨_, rfl⟩
                rw [← eo] at hmore ⊢
                have i0 : (0 : Int) ≤ (who : Int) := Int.natCast_nonneg _
                have i1 : (who : Int) < 4 := by omega
                have hcase : decide ((on : Int) < tp) = true ∨ decide ((on : Int) < tp) = false ∧ d ≤ m := by
                  by_cases h : (on : Int) < tp
                  · exact .inl (by simpa using h)
                  · exact .inr ⟨by simpa using h, hmore (by omega)⟩
                clear hmore ed em eo
                rcases hcase with hc1 | ⟨hc1, hc2⟩
                · have z0 := cell_regrown c0
                  have z1 := cell_regrown f0
                  have z2 := cell_regrown t3
                  clear c0 f0 t3 d0
                  go_wp2_with fail
                  refine wp_region_quiet_below (by kernel_rfl) (by kernel_rfl) ?_
                  repeat (go_big_quiet_step ((go_at_call 14; exact Calls.regrown_of (known_any _))))
                  refine wpQuiet_nil ?_
                  intro _ hw'
                  obtain ⟨⟨dq, osq⟩, hw''⟩ := hw'
                  subst hw''
                  have hb10 := below_regrown wr dq osq
                  go_wp2_with fail
                  go_ret
                  exact ⟨rfl, bw.trans (hb10.mono bw.size)⟩
                · have hc3 : decide (d ≤ m) = true := by simpa using hc2
                  go_wp2_with fail
                  go_region_held3 (fun w' => w'.cell? ⟨b'', off'' + who, none⟩ = some (.int .i64 d) ∧ w'.cell? ⟨b, off + who, none⟩ = some (.int .i64 d) ∧ w'.cell? ⟨w.heap.size, 3, none⟩ = some (.int .i64 tp) ∧ w'.cell? ⟨b', off' + who, none⟩ = some (.int .i64 m))
                    (first
                      | (go_split_ands
                         refine ⟨?_, ?_, ?_, ?_⟩ <;> first | assumption | exact (hb10.cell (p := ⟨b'', _, none⟩) hbB'').trans f0 | exact (hb10.cell (p := ⟨b, _, none⟩) hbB).trans c0 | exact (hb10.cell (p := ⟨b', _, none⟩) hbB').trans d0 | exact (hb10.cell (p := ⟨w.heap.size, _, none⟩) hqw.lt).trans t3 | fail)
                      | go_keep)
                    (first
                      | (go_at_call 14; refine (known_any _).mono ?_; rintro e w10 ⟨rfl, hb10⟩)
                      | fail)
                  go_wp2_with fail
                  go_ret
                  exact ⟨rfl, bw.drew.trans (hb10.mono bw.size)⟩
end Go.Proofs.Ytkbfdgacnoadlaa
