/- The program's Blame where its arguments are valid. -/
import Derived.Test.YtkbfdgacnoadlaaBlameMath
import Derived.Test.YtkbfdgacnoadlaaBase4
namespace Go.Proofs.Ytkbfdgacnoadlaa
open Go.RowKit

theorem blameErr_zero {a b c : List Int} (h : blameErr a b c = 0) : inB 1 12 a.length = true ∧ b.length = a.length ∧ c.length = a.length ∧ a.all (inB 0 100000000000) = true ∧ b.all (inB 0 10000) = true ∧ c.all (inB 0 100000000000000) = true ∧ (wrap64 b.sum == 0) = false := by
  unfold blameErr at h
  split at h
  · omega
  split at h
  · omega
  split at h
  · omega
  split at h
  · omega
  split at h
  · omega
  split at h
  · omega
  split at h
  · omega
  simp_all

theorem at0_bd {l : List Int} {lo hi : Int} (h : l.all (inB lo hi) = true) {i : Nat} (hi' : i < l.length) : lo ≤ at0 l i ∧ at0 l i ≤ hi := by
  rw [← at0_get hi']
  exact all_in h _ (List.getElem_mem hi')

/-- what is known behind so many rounds of the first loop -/
structure BRel (bs a c : List Int) (k : Nat) (w wr : World) (l who cl : Value) : Prop where
  hl : wr.ownsRow w.heap.size 3 1 l k (ints (paysTo bs a c k))
  hw : wr.ownsRow w.heap.size 3 1 who (whoTo bs a k).length (ints (nats (whoTo bs a k)))
  hc : wr.ownsRow w.heap.size 3 1 cl (whoTo bs a k).length (ints (claimsTo bs a k))
  lw : Apart l who
  lc : Apart l cl
  wc : Apart who cl
  below : Below w.heap.size w wr

theorem BRel.no {bs a c : List Int} {k : Nat} {w wr w6 : World} {l who cl l' : Value} (R : BRel bs a c k w wr l who cl) (hg : wr.grownBy w6 l.ownBlock) (hat : l'.ownBlock = l.ownBlock ∨ l'.ownBlock = some (wr.heap.size + 1))
    (hown : w6.ownsRow w.heap.size 3 1 l' (k + 1) (ints (paysTo bs a c (k + 1)))) (h : ¬ 0 < claim bs a k) : BRel bs a c (k + 1) w w6 l' who cl :=
  ⟨hown, by rw [whoTo_no h]; exact own_apart R.hw hg R.lw, by rw [whoTo_no h, claimsTo_no h]; exact own_apart R.hc hg R.lc, R.lw.push R.hw hat, R.lc.push R.hc hat, R.wc, Below.push R.below R.hl hg (Nat.le_refl _) R.below.size⟩

theorem BRel.yes {bs a c : List Int} {k : Nat} {w wr w6 w7 w8 : World} {l who cl l' who' cl' : Value} (R : BRel bs a c k w wr l who cl) (hg : wr.grownBy w6 l.ownBlock) (hat : l'.ownBlock = l.ownBlock ∨ l'.ownBlock = some (wr.heap.size + 1))
    (hown : w6.ownsRow w.heap.size 3 1 l' (k + 1) (ints (paysTo bs a c (k + 1)))) (h : 0 < claim bs a k)
    (hg7 : w6.grownBy w7 who.ownBlock) (hat7 : who'.ownBlock = who.ownBlock ∨ who'.ownBlock = some (w6.heap.size + 1)) (hown7 : w7.ownsRow w.heap.size 3 1 who' ((whoTo bs a k).length + 1) (ints (nats (whoTo bs a k)) ++ [.int .i64 k]))
    (hg8 : w7.grownBy w8 cl.ownBlock) (hat8 : cl'.ownBlock = cl.ownBlock ∨ cl'.ownBlock = some (w7.heap.size + 1)) (hown8 : w8.ownsRow w.heap.size 3 1 cl' ((whoTo bs a k).length + 1) (ints (claimsTo bs a k) ++ [.int .i64 (claim bs a k)])) :
    BRel bs a c (k + 1) w w8 l' who' cl' := by
  have lw := R.lw.push R.hw hat
  have lc := R.lc.push R.hc hat
  have hw6 := own_apart R.hw hg R.lw
  have hc6 := own_apart R.hc hg R.lc
  have hl7 := own_apart hown hg7 lw.symm
  have hc7 := own_apart hc6 hg7 R.wc
  have wl : Apart who' l' := Apart.push lw.symm hown hat7
  have wc : Apart who' cl := Apart.push R.wc hc6 hat7
  have cl_ : Apart cl' l' := Apart.push lc.symm hl7 hat8
  have cw : Apart cl' who' := Apart.push wc.symm hown7 hat8
  have b6 := Below.push R.below R.hl hg (Nat.le_refl _) R.below.size
  have b7 := Below.push b6 hw6 hg7 (Nat.le_refl _) b6.size
  have b8 := Below.push b7 hc7 hg8 (Nat.le_refl _) b7.size
  refine ⟨own_apart hl7 hg8 lc.symm, ?_, ?_, wl.symm, cl_.symm, cw.symm, b8⟩
  · rw [whoTo_yes h, nats_snoc]
    have := own_apart hown7 hg8 wc.symm
    simpa [ints] using this
  · rw [whoTo_yes h, claimsTo_yes h]
    simpa [ints] using hown8

set_option maxHeartbeats 4000000 in
set_option maxRecDepth 100000 in
theorem blame_ok (a b c : List Int) (va vb vc : Value) (w : World) (B : Nat) (hra : Rd w B 1 va a.length (ints a)) (hrb : Rd w B 1 vb b.length (ints b)) (hrc : Rd w B 1 vc c.length (ints c)) (hB : B ≤ w.heap.size)
    (hok : blameErr a b c = 0) :
    Calls Try.prog 18 #[va, vb, vc] w fun e w' => ∃ v', e = .returned (.tuple #[v', .int .i64 0]) ∧ w'.ownsRow w.heap.size 3 1 v' (blameL a b c).length (ints (blameL a b c)) ∧ Below w.heap.size w w' := by
  obtain ⟨A, ca, rfl, hna⟩ := hra.shape
  obtain ⟨A', cb, rfl, hnb⟩ := hrb.shape
  obtain ⟨A'', cc, rfl, hnc⟩ := hrc.shape
  obtain ⟨g1, g2, g3, g4, g5, g6, g7⟩ := blameErr_zero hok
  have hk := blame_one _ g1
  obtain ⟨l1, l12⟩ := inB_iff.1 g1
  have g2' : ((b.length : Int) != (a.length : Int)) = false := by simp [g2]
  have g3' : ((c.length : Int) != (a.length : Int)) = false := by simp [g3]
  have Hg2 := Lib.hid g2
  have Hg3 := Lib.hid g3
  obtain ⟨sa0, sa1⟩ := sum_bound g4 (show a.length ≤ 12 by omega) (by omega)
  obtain ⟨sb0, sb1⟩ := sum_bound g5 (show b.length ≤ 12 by omega) (by omega)
  have hposb : ∀ x ∈ b, 0 ≤ x := fun x hx => (all_in g5 x hx).1
  have hsb : 1 ≤ b.sum := by
    rw [IntWalk.wrap64_in _ ⟨by omega, by omega⟩] at g7
    simp at g7
    omega
  have hwa : wrap64 a.sum = a.sum := IntWalk.wrap64_in _ ⟨by omega, by omega⟩
  have Hposb := Lib.hid hposb
  clear hok g2 g3 hposb
  go_enter Try.func18, Try.ntmps18
  go_wp2_with fail
  refine (within_any [(a.length : Int)] _ _ _ 1 _ (w.heap.size + 1) (Rd.made w _ 1 1 #[.int .i64 a.length] rfl) (by simp) (by omega)).mono ?_
  rintro e w1 ⟨rfl, hb1⟩
  rw [hk]
  have hc1 : Below w.heap.size w w1 := ((Below.refl _ _).alloc (Nat.le_refl _) _).trans (hb1.mono (by simp))
  clear hb1
  go_wp2_with fail
  refine (within_any a _ _ _ a.length _ B (hra.below (hc1.mono hB)) (by have := hc1.size; omega) (by omega)).mono ?_
  rintro e w2 ⟨rfl, hb2⟩
  rw [g4]
  have hc2 : Below w.heap.size w w2 := hc1.trans (hb2.mono hc1.size)
  clear hb2
  go_wp2_with fail
  refine (within_any b _ _ _ b.length _ B (hrb.below (hc2.mono hB)) (by have := hc2.size; omega) (by have := Hg2.out; omega)).mono ?_
  rintro e w3 ⟨rfl, hb3⟩
  rw [g5]
  have hc3 : Below w.heap.size w w3 := hc2.trans (hb3.mono hc2.size)
  clear hb3
  go_wp2_with fail
  refine (within_any c _ _ _ c.length _ B (hrc.below (hc3.mono hB)) (by have := hc3.size; omega) (by have := Hg3.out; omega)).mono ?_
  rintro e w4 ⟨rfl, hb4⟩
  rw [g6]
  have hc4 : Below w.heap.size w w4 := hc3.trans (hb4.mono hc3.size)
  clear hb4
  go_wp2_with fail
  refine (sum_any b _ b.length _ B (hrb.below (hc4.mono hB)) (by have := Hg2.out; omega)).mono ?_
  rintro e w5 ⟨rfl, rfl⟩
  go_wp2_with fail
  refine (sum_any a _ a.length _ B (hra.below (hc4.mono hB)) (by omega)).mono ?_
  rintro e w5 ⟨rfl, rfl⟩
  go_wp2_with fail
  refine (split_any a.sum b _ _ B (hrb.below (hc4.mono hB)) (by have := hc4.size; omega) (by have := Hg2.out; omega) sa0 (by omega) Hposb.out (fun _ => hsb) (by omega)).mono ?_
  rintro e w5 ⟨vbs, rfl, hownb, hb5⟩
  have hc5 : Below w.heap.size w w5 := hc4.trans (hb5.mono hc4.size)
  have hrbs := Rd.of_own hownb
  clear hb5 hc1 hc2 hc3 hc4 hownb
  have hB5 : B ≤ w5.heap.size := by have := hc5.size; omega
  have hra5 := hra.below (hc5.mono hB)
  have hrc5 := hrc.below (hc5.mono hB)
  obtain ⟨bs, ebs⟩ : ∃ bs, bs = splitL a.sum b := ⟨_, rfl⟩
  have hbsl : bs.length = a.length := by rw [ebs, splitL_length, Hg2.out]
  have hbsb : ∀ i, i < a.length → 0 ≤ at0 bs i ∧ at0 bs i ≤ a.sum := fun i hi => by
    rw [ebs]
    exact splitL_bd sa0 Hposb.out hsb (by rw [Hg2.out]; exact hi)
  have hfin : blameL a b c = getsTo (paysTo bs a c a.length) (whoTo bs a a.length) (splitL (paysTo bs a c a.length).sum (claimsTo bs a a.length)) (whoTo bs a a.length).length := by rw [ebs]; rfl
  rw [← ebs] at hrbs
  rw [show b.length = bs.length by rw [hbsl, Hg2.out]] at hrbs
  have Hfin := Lib.hid hfin
  have Hbsl := Lib.hid hbsl
  have Hbsb := Lib.hid hbsb
  clear hfin hbsl hbsb ebs
  obtain ⟨Ab, cbs, rfl, hnbs⟩ := hrbs.shape
  go_wp2_with fail
  go_loopw [6, 8, 9, 10, 11, 12, 13, 59] (fun l who cl pd _ _ _ i wr => ∃ k : Nat, k ≤ a.length ∧ i = .int .i64 k ∧ pd = .int .i64 (paysTo bs a c k).sum ∧ BRel bs a c k w5 wr l who cl) (fun _ _ _ _ _ _ _ i _ => a.length - (intOf i).toNat)
  case atStart => exact ⟨0, Nat.zero_le _, rfl, rfl, own_nil _ _ _ _, own_nil _ _ _ _, own_nil _ _ _ _, .nil_left _, .nil_left _, .nil_left _, Below.refl _ _⟩
  case round =>
    obtain ⟨k, hkl, rfl, rfl, R⟩ := hrel
    by_cases hlt : k < a.length
    · have hlt' : k < bs.length := by rw [Hbsl.out]; exact hlt
      obtain ⟨ba, oa, rfl, qa, ka⟩ := ints_cell a k hlt _ B _ _ _ (hra5.below (R.below.mono hB5))
      obtain ⟨bc, oc, rfl, qc, kc⟩ := ints_cell c k (by rw [Hg3.out]; exact hlt) _ B _ _ _ (hrc5.below (R.below.mono hB5))
      obtain ⟨bb, ob, rfl, qb, kb⟩ := ints_cell bs k hlt' _ _ _ _ _ (hrbs.below R.below)
      obtain ⟨x0, x1⟩ := at0_bd g4 hlt
      obtain ⟨y0, y1⟩ := at0_bd g6 (show k < c.length by rw [Hg3.out]; exact hlt)
      obtain ⟨z0, z1⟩ := Hbsb.out k hlt
      obtain ⟨p0, p1⟩ := pay_bd y0 x0 sa0 z1
      have hcl : claim bs a k = at0 a k - at0 bs k := rfl
      have hpy : pay bs a c k = min (at0 c k) (max 0 (at0 bs k - at0 a k)) := rfl
      obtain ⟨x, hx⟩ : ∃ x, x = at0 a k := ⟨_, rfl⟩
      obtain ⟨y, hy⟩ : ∃ y, y = at0 c k := ⟨_, rfl⟩
      obtain ⟨z, hz⟩ : ∃ z, z = at0 bs k := ⟨_, rfl⟩
      rw [← hx] at ka x0 x1 hcl hpy
      rw [← hy] at kc y0 y1 hpy
      rw [← hz] at kb z0 z1 hcl hpy
      have Hcl := Lib.hid hcl
      have Hpy := Lib.hid hpy
      clear hcl hpy hx hy hz
      rw [Hpy.out] at p0 p1
      have hsz := R.below.size
      obtain ⟨ps0, ps1⟩ := paysTo_sum (bs := bs) (a := a) (c := c) (k := k) fun i hi => pay_bd (at0_bd g6 (show i < c.length by rw [Hg3.out]; omega)).1 (at0_bd g4 (show i < a.length by omega)).1 (by omega) (by have := Hbsb.out i (by omega); omega)
      go_wp2_with fail
      have hrow := R.hl
      have i0 : (0 : Int) ≤ (k : Int) := Int.natCast_nonneg _
      have i1 : (k : Int) < (a.length : Int) := by omega
      have i2 : (k : Int) < (c.length : Int) := by rw [Hg3.out]; omega
      have i3 : IntKind.i64.wrap (z - x) = z - x := IntWalk.i64_in _ ⟨by omega, by omega⟩
      go_region_held3 (fun w' => w'.cell? ⟨ba, oa + k, none⟩ = some (.int .i64 x) ∧ w'.cell? ⟨bc, oc + k, none⟩ = some (.int .i64 y) ∧ w'.cell? ⟨bb, ob + k, none⟩ = some (.int .i64 z))
        (first
          | go_keep
          | (go_split_ands
             refine ⟨?_, ?_, ?_⟩
             · exact push_cell ((hrow.alloc _).drew) hgrow (by assumption) (by omega) (by simp; omega)
             · exact push_cell ((hrow.alloc _).drew) hgrow (by assumption) (by omega) (by simp; omega)
             · exact push_cell ((hrow.alloc _).drew) hgrow (by assumption) (by omega) (by simp; omega)))
        ((refine step_push int_elem (by rfl) _ _ (by rfl) (by rfl) ((hrow.alloc _).drew) (wr.heap.size + 1) _ 1 [.int .i64 (min y (max 0 (z - x)))] (by rfl) ((Rd.made wr _ 1 1 #[.int .i64 (min y (max 0 (z - x)))] rfl).drew) (by simp [Value.oneCell']) (by simp only [maxLen]; omega) (by omega) (by simp; omega) ?_; intro v1 w6 hown1 hgrow hat))
      have hg1 : wr.grownBy w6 u6.ownBlock := (grown_drew (World.grownBy_alloc wr _ _)).trans hgrow
      have b6 := Below.push R.below R.hl hg1 (Nat.le_refl _) R.below.size
      have ka6 := push_cell R.hl hg1 ka (by omega) hsz
      have hown2 : w6.ownsRow w5.heap.size 3 1 v1 (k + 1) (ints (paysTo bs a c (k + 1))) := by
        rw [paysTo_succ, Hpy.out]
        simpa [ints] using hown1
      have hat1 : v1.ownBlock = u6.ownBlock ∨ v1.ownBlock = some (wr.heap.size + 1) := by simpa using hat
      clear ka kb kc hown1 hat hgrow
      obtain ⟨g, cap, rfl, q1, q2, q9, kl⟩ := own_elem hown2 (k := k) (by rw [paysTo_length]; omega)
      clear q9
      rw [at0_get (by rw [paysTo_length]; omega), paysTo_last, Hpy.out] at kl
      by_cases hpos : 0 < x - z
      · have hw6 := own_apart R.hw hg1 R.lw
        have hc6 := own_apart R.hc hg1 R.lc
        have hwl := whoTo_length bs a k
        have b6s := b6.size
        have q3 := q2
        clear q2
        go_wp2_with (first
          | (at_builtin; refine wpList_push int_elem rfl (.tmp 93) (.tmp 95) rfl rfl hw6 _ rfl rfl (by simp [Value.oneCell']) (by simp only [maxLen]; omega) (by omega) (by omega) ?_; intro v7 w7 hown7 hg7 hat7; have hc7 := own_apart hc6 hg7 R.wc; have b7s := hg7.size)
          | (at_builtin; refine wpList_push int_elem rfl (.tmp 97) (.tmp 99) rfl rfl hc7 _ rfl rfl (by simp [Value.oneCell']) (by simp only [maxLen]; omega) (by omega) (by omega) ?_; intro v8 w8 hown8 hg8 hat8))
        go_roundw
        case rel =>
          refine ⟨k + 1, by omega, by go_num, by rw [paysTo_succ, Hpy.out]; simp, R.yes hg1 hat1 hown2 (by rw [Hcl.out]; exact hpos) hg7 hat7 hown7 hg8 hat8 ?_⟩
          rw [Hcl.out]
          exact hown8
        case measure => simp [intOf]; omega
      · go_wp2_with fail
        go_roundw
        case rel => exact ⟨k + 1, by omega, by go_num, by rw [paysTo_succ, Hpy.out]; simp, R.no hg1 hat1 hown2 (by rw [Hcl.out]; exact hpos)⟩
        case measure => simp [intOf]; omega
    · obtain rfl : k = a.length := by omega
      have hcn : ∀ x ∈ claimsTo bs a a.length, 0 < x := fun x hx => by
        obtain ⟨i, _, rfl, h⟩ := claimsTo_mem hx
        exact h
      have hcm : ∀ x ∈ claimsTo bs a a.length, x ≤ 100000000000 := fun x hx => by
        obtain ⟨i, hi, rfl, _⟩ := claimsTo_mem hx
        have h1 := (at0_bd g4 hi).2
        have h2 := (Hbsb.out i hi).1
        unfold claim
        omega
      have hcs := sum_le hcm
      rw [claimsTo_length] at hcs
      have hwl := whoTo_length bs a a.length
      have hwlt := fun (i : Nat) (h : i < (whoTo bs a a.length).length) => whoTo_lt h
      obtain ⟨ps0, ps1⟩ := paysTo_sum (bs := bs) (a := a) (c := c) (k := a.length) fun i hi => pay_bd (at0_bd g6 (show i < c.length by rw [Hg3.out]; omega)).1 (at0_bd g4 (show i < a.length by omega)).1 (by omega) (by have := Hbsb.out i (by omega); omega)
      have hrc6 := Rd.of_own R.hc
      have hlen := claimsTo_length bs a a.length
      have hsp := sum_pos hcn
      have hpl := paysTo_length bs a c a.length
      obtain ⟨g, cap, hu6, q1, q2, q9, kl⟩ := own_elem R.hl (k := 0) (by rw [paysTo_length]; omega)
      have Hu6 := Lib.hid hu6
      clear hu6 q9 kl
      rw [← hlen] at hrc6
      have Hlen := Lib.hid hlen
      have Hcn := Lib.hid hcn
      have Hpl := Lib.hid hpl
      have Hsp := Lib.hid hsp
      have Hwlt := Lib.hid hwlt
      clear hcn hcm hlen hpl hsp hwlt
      obtain ⟨P, eP⟩ : ∃ P, P = paysTo bs a c a.length := ⟨_, rfl⟩
      obtain ⟨W, eW⟩ : ∃ W, W = whoTo bs a a.length := ⟨_, rfl⟩
      obtain ⟨C, eC⟩ : ∃ C, C = claimsTo bs a a.length := ⟨_, rfl⟩
      have hRl := R.hl
      have hRw := R.hw
      have hRlw := R.lw
      have hRb := R.below
      clear R
      rw [← eP] at ps0 ps1 hRl Hpl
      rw [← eW] at hwl hcs hRw Hlen Hwlt
      rw [← eC] at hrc6 Hlen Hcn Hsp hcs
      rw [← eP, ← eW, ← eC] at Hfin
      rw [← eP]
      clear eP eW eC
      have hszr := hRb.size
      have hble : bs.length ≤ a.length := Nat.le_of_eq Hbsl.out
      go_wp2_with fail
      refine (split_any P.sum C _ _ _ hrc6 (Nat.le_refl _) (by have := Hlen.out; omega) ps0 (by omega) (fun x hx => Int.le_of_lt (Hcn.out x hx)) Hsp.out (by omega)).mono ?_
      rintro e w6 ⟨vg, rfl, hownG, hb6⟩
      obtain ⟨Ag, cg, rfl, hgc⟩ := (Rd.of_own hownG).shape
      have hl6 := own_below hRl hb6 (Nat.le_refl _)
      have hw6 := own_below hRw hb6 (Nat.le_refl _)
      have b6 := hRb.trans (hb6.mono hszr)
      have hG : ∀ (j : Nat), j < C.length → 0 ≤ at0 (splitL P.sum C) j ∧ at0 (splitL P.sum C) j ≤ P.sum := fun j hj => splitL_bd ps0 (fun x hx => Int.le_of_lt (Hcn.out x hx)) (Hsp.out (by omega)) hj
      obtain ⟨G, eG⟩ : ∃ G, G = splitL P.sum C := ⟨_, rfl⟩
      have hGl : G.length = C.length := by rw [eG, splitL_length]
      rw [← eG] at hownG hG Hfin
      have HG := Lib.hid hG
      have HGl := Lib.hid hGl
      clear eG hG hGl hrc6 hb6 hRl hRw
      obtain ⟨wo, rfl⟩ : ∃ wo : World, wo = wr := ⟨_, rfl⟩
      have hmem : ∀ j, j < W.length → W.getD j 0 < a.length := Hwlt.out
      have Hmem := Lib.hid hmem
      clear hmem
      go_wp2_with fail
      go_loopw [14, 15, 106] (fun _ _ i wq => ∃ j : Nat, j ≤ C.length ∧ i = .int .i64 j ∧ wq.ownsRow w5.heap.size 3 1 u6 a.length (ints (getsTo P W G j)) ∧ wq.ownsRow w5.heap.size 3 1 u8 W.length (ints (nats W)) ∧ wq.ownsRow wo.heap.size 3 1 (.slice Ag C.length cg) C.length (ints G) ∧ Below w5.heap.size w5 wq) (fun _ _ i _ => C.length - (intOf i).toNat)
      case atStart => exact ⟨0, Nat.zero_le _, rfl, hl6, hw6, hownG, b6⟩
      case round =>
        obtain ⟨j, hj, rfl, hl7, hw7, hg7, b7⟩ := hrel
        by_cases hlt' : j < C.length
        · obtain ⟨gg, _, eg, q3, q4, q5, kg⟩ := own_elem hg7 (k := j) (by rw [HGl.out]; exact hlt')
          injection eg with eg1 eg2 eg3
          subst eg1 eg3
          obtain ⟨gw, cw, rfl, q6, q7, q8, kw⟩ := own_elem hw7 (k := j) (by rw [nats_length, ← Hlen.out]; exact hlt')
          rw [at0_get (by rw [HGl.out]; exact hlt')] at kg
          rw [at0_get (by rw [nats_length, ← Hlen.out]; exact hlt'), nats_at (by rw [← Hlen.out]; exact hlt')] at kw
          have hm := Hmem.out j (by rw [← Hlen.out]; exact hlt')
          obtain ⟨G0, G1⟩ := HG.out j hlt'
          obtain ⟨m, em⟩ : ∃ m, m = W.getD j 0 := ⟨_, rfl⟩
          obtain ⟨y, ey⟩ : ∃ y, y = at0 G j := ⟨_, rfl⟩
          have hnext := getsTo_succ P W G j
          rw [← em] at kw hm hnext
          rw [← ey] at kg G0 G1 hnext
          have Hnext := Lib.hid hnext
          clear em ey q5 q8 hnext
          have hu := Hu6.out
          subst hu
          have hfz := hl7.frozenAt m
          have hjW : j < W.length := by rw [← Hlen.out]; exact hlt'
          have hgl : m < (getsTo P W G j).length := by rw [getsTo_length, Hpl.out]; exact hm
          have km : wr.cell? ⟨g, m, none⟩ = some (.int .i64 (getsTo P W G j)[m]) := by
            rw [hl7.cellAt m (by omega)]
            exact ints_get _ m hgl
          obtain ⟨old, eo⟩ : ∃ old, old = (getsTo P W G j)[m] := ⟨_, rfl⟩
          rw [← eo] at km
          clear eo eg2 Hu6 hgl
          obtain ⟨st, gst⟩ := hl7.stored m (.int .i64 (-y))
          rw [ints_set, ← Hnext.out] at st
          have hw8 := own_apart (v := .slice (some ⟨g, 0, none⟩) a.length cap) hw7 gst hRlw
          have hg8 := own_far hg7 gst (by omega)
          have b8 := b7.grown gst b7.size (fun k hk => by injection hk with hk; omega)
          go_wp2_with fail
          go_roundw
          case rel => exact ⟨j + 1, by omega, by go_num, st, hw8, hg8, b8⟩
          case measure => simp [intOf]; omega
        · obtain rfl : j = C.length := by omega
          go_wp2_with fail
          go_ret2
          refine ⟨_, rfl, ?_, hc5.trans (b7.mono hc5.size)⟩
          rw [Hfin.out, getsTo_length, Hpl.out, ← Hlen.out]
          exact own_less hl7 hc5.size
end Go.Proofs.Ytkbfdgacnoadlaa
