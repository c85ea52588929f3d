/- Adjust's closure that lists what a function says of all interests: for worth, saved, and good. -/
import Derived.Test.YtkbfdgacnoadlaaA7
namespace Go.Proofs.Ytkbfdgacnoadlaa
open Go.RowKit

/-- the sums of an interest -/
def sums (l : List Nt) (i : Nat) (j : Nat) : Int := ofL l (j : Nat) (i : Nat)
theorem sums_small {n : Int} {l : List Nt} (h : ∀ x ∈ l, noteErr n x = 0) (hl : l.length ≤ 300) (i : Nat) : Small (sums l i) := fun j _ => by
  have := ofL_bd h j i
  unfold sums
  omega
def listI (what : (Nat → Int) → Int) (l : List Nt) (k : Nat) : List Int := (List.range k).map fun i => what (sums l i)
theorem listI_succ (what : (Nat → Int) → Int) (l : List Nt) (k : Nat) : listI what l (k + 1) = listI what l k ++ [what (sums l k)] := by simp [listI, List.range_succ]
theorem listI_len (what : (Nat → Int) → Int) (l : List Nt) (k : Nat) : (listI what l k).length = k := by simp [listI]
/-- the table lies in memory, and the variable that holds it -/
structure TabAt (w : World) (q g n cap : Nat) (l : List Nt) : Prop where
  var : w.cell? ⟨q, 0, none⟩ = some (.slice (some ⟨g, 0, none⟩) n cap)
  cell : ∀ i j, i < n → j < 5 → w.cell? ⟨g, i * 5 + j, none⟩ = some (.int .i64 (sums l i j))
  q : q < w.heap.size
  g : g < w.heap.size
theorem TabAt.go {w w' : World} {q g n cap : Nat} {l : List Nt} (h : TabAt w q g n cap l) (hb : Below w.heap.size w w') : TabAt w' q g n cap l :=
  ⟨(hb.cell (p := ⟨q, 0, none⟩) h.q).trans h.var, fun i j hi hj => (hb.cell (p := ⟨g, i * 5 + j, none⟩) h.g).trans (h.cell i j hi hj), Nat.lt_of_lt_of_le h.q hb.size, Nat.lt_of_lt_of_le h.g hb.size⟩

set_option maxHeartbeats 2000000 in
set_option maxRecDepth 100000 in
theorem of_saved (n : Nat) (l : List Nt) (q g cap : Nat) (w : World) (ht : TabAt w q g n cap l) (hok : ∀ x ∈ l, noteErr n x = 0) (hlen : l.length ≤ 300) (hn : n ≤ 40) :
    Calls Try.prog 37 #[.func (.func 38) #[] #[], .pointer (some ⟨q, 0, none⟩)] w fun e w' => ∃ v', e = .returned v' ∧ w'.ownsRow w.heap.size 3 1 v' n (ints (listI savedI l n)) ∧ Below w.heap.size w w' := by
  have hvar := ht.var
  have Hs := Lib.hid (fun i => sums_small hok hlen i)
  clear hok
  go_enter Try.func37, Try.ntmps37
  go_wp2_with fail
  go_loopw [3, 5, 8] (fun v _ i wr => ∃ k : Nat, k ≤ n ∧ i = .int .i64 k ∧ wr.ownsRow w.heap.size 3 1 v k (ints (listI savedI l k)) ∧ Below w.heap.size w wr) (fun _ _ i _ => n - (intOf i).toNat)
  case atStart => exact ⟨0, Nat.zero_le _, rfl, own_nil _ _ _ _, Below.refl _ _⟩
  case round =>
    obtain ⟨k, hk, rfl, hown, hbw⟩ := hrel
    by_cases hlt : k < n
    · have hs := Hs.out k
      have h1 := (ht.go hbw)
      have c0 := h1.cell k 0 hlt (by omega)
      have c1 := h1.cell k 1 hlt (by omega)
      have c2 := h1.cell k 2 hlt (by omega)
      have c3 := h1.cell k 3 hlt (by omega)
      have c4 := h1.cell k 4 hlt (by omega)
      simp only [Nat.add_zero] at c0
      have hsz := hbw.size
      have hgl := h1.g
      clear hvar
      have hcall := fun W => saved_any _ hs W
      unfold intV at hcall
      have Hcall := Lib.hid hcall
      clear hcall
      go_wp2_with fail
      refine (Hcall.out _).mono ?_
      rintro e w1 ⟨rfl, hb⟩
      have hown1 := own_below (hown.alloc (.cells #[.int .i64 (sums l k 0), .int .i64 (sums l k 1), .int .i64 (sums l k 2), .int .i64 (sums l k 3), .int .i64 (sums l k 4)] 95)) hb (Nat.le_refl _)
      have hbw1 : Below w.heap.size w w1 := (hbw.alloc hsz _).trans (hb.mono (by simp; omega))
      have hsz1 := hbw1.size
      go_wp2_with (at_builtin; refine wpList_push int_elem rfl (.tmp 12) (.tmp 16) rfl rfl hown1 _ rfl rfl (by simp [Value.oneCell']) (by simp only [maxLen]; omega) (by omega) (by omega) ?_; intro v2 w2 hown2 hg2 _)
      go_roundw
      case rel =>
        refine ⟨k + 1, by omega, by go_num, ?_, Below.push hbw1 hown1 hg2 (Nat.le_refl _) hsz1⟩
        rw [listI_succ]
        simpa [ints] using hown2
      case measure => simp [intOf]; omega
    · obtain rfl : k = n := by omega
      go_wp2_with fail
      go_ret
      exact ⟨_, rfl, hown, hbw⟩

set_option maxHeartbeats 2000000 in
set_option maxRecDepth 100000 in
theorem of_worth (n : Nat) (l : List Nt) (q g cap : Nat) (w : World) (ht : TabAt w q g n cap l) (hok : ∀ x ∈ l, noteErr n x = 0) (hlen : l.length ≤ 300) (hn : n ≤ 40) :
    Calls Try.prog 37 #[.func (.func 39) #[] #[], .pointer (some ⟨q, 0, none⟩)] w fun e w' => ∃ v', e = .returned v' ∧ w'.ownsRow w.heap.size 3 1 v' n (ints (listI worthI l n)) ∧ Below w.heap.size w w' := by
  have hvar := ht.var
  have Hs := Lib.hid (fun i => sums_small hok hlen i)
  clear hok
  go_enter Try.func37, Try.ntmps37
  go_wp2_with fail
  go_loopw [3, 5, 8] (fun v _ i wr => ∃ k : Nat, k ≤ n ∧ i = .int .i64 k ∧ wr.ownsRow w.heap.size 3 1 v k (ints (listI worthI l k)) ∧ Below w.heap.size w wr) (fun _ _ i _ => n - (intOf i).toNat)
  case atStart => exact ⟨0, Nat.zero_le _, rfl, own_nil _ _ _ _, Below.refl _ _⟩
  case round =>
    obtain ⟨k, hk, rfl, hown, hbw⟩ := hrel
    by_cases hlt : k < n
    · have hs := Hs.out k
      have h1 := (ht.go hbw)
      have c0 := h1.cell k 0 hlt (by omega)
      have c1 := h1.cell k 1 hlt (by omega)
      have c2 := h1.cell k 2 hlt (by omega)
      have c3 := h1.cell k 3 hlt (by omega)
      have c4 := h1.cell k 4 hlt (by omega)
      simp only [Nat.add_zero] at c0
      have hsz := hbw.size
      have hgl := h1.g
      clear hvar
      have hcall := fun W => worth_any _ hs W
      unfold intV at hcall
      have Hcall := Lib.hid hcall
      clear hcall
      go_wp2_with fail
      refine (Hcall.out _).mono ?_
      rintro e w1 ⟨rfl, hb⟩
      have hown1 := own_below (hown.alloc (.cells #[.int .i64 (sums l k 0), .int .i64 (sums l k 1), .int .i64 (sums l k 2), .int .i64 (sums l k 3), .int .i64 (sums l k 4)] 95)) hb (Nat.le_refl _)
      have hbw1 : Below w.heap.size w w1 := (hbw.alloc hsz _).trans (hb.mono (by simp; omega))
      have hsz1 := hbw1.size
      go_wp2_with (at_builtin; refine wpList_push int_elem rfl (.tmp 12) (.tmp 16) rfl rfl hown1 _ rfl rfl (by simp [Value.oneCell']) (by simp only [maxLen]; omega) (by omega) (by omega) ?_; intro v2 w2 hown2 hg2 _)
      go_roundw
      case rel =>
        refine ⟨k + 1, by omega, by go_num, ?_, Below.push hbw1 hown1 hg2 (Nat.le_refl _) hsz1⟩
        rw [listI_succ]
        simpa [ints] using hown2
      case measure => simp [intOf]; omega
    · obtain rfl : k = n := by omega
      go_wp2_with fail
      go_ret
      exact ⟨_, rfl, hown, hbw⟩

set_option maxHeartbeats 2000000 in
set_option maxRecDepth 100000 in
theorem of_good (n : Nat) (l : List Nt) (q g cap : Nat) (w : World) (ht : TabAt w q g n cap l) (hok : ∀ x ∈ l, noteErr n x = 0) (hlen : l.length ≤ 300) (hn : n ≤ 40) (cm : Int) (hc0 : 0 ≤ cm) (hc1 : cm ≤ 10000) (qc : Nat) (hqc : qc < w.heap.size) (hcc : w.cell? ⟨qc, 0, none⟩ = some (.int .i64 cm)) :
    Calls Try.prog 37 #[.func (.func 40) #[] #[.pointer (some ⟨qc, 0, none⟩)], .pointer (some ⟨q, 0, none⟩)] w fun e w' => ∃ v', e = .returned v' ∧ w'.ownsRow w.heap.size 3 1 v' n (ints (listI (goodI cm) l n)) ∧ Below w.heap.size w w' := by
  have hvar := ht.var
  have Hs := Lib.hid (fun i => sums_small hok hlen i)
  clear hok
  go_enter Try.func37, Try.ntmps37
  go_wp2_with fail
  go_loopw [3, 5, 8] (fun v _ i wr => ∃ k : Nat, k ≤ n ∧ i = .int .i64 k ∧ wr.ownsRow w.heap.size 3 1 v k (ints (listI (goodI cm) l k)) ∧ Below w.heap.size w wr) (fun _ _ i _ => n - (intOf i).toNat)
  case atStart => exact ⟨0, Nat.zero_le _, rfl, own_nil _ _ _ _, Below.refl _ _⟩
  case round =>
    obtain ⟨k, hk, rfl, hown, hbw⟩ := hrel
    by_cases hlt : k < n
    · have hs := Hs.out k
      have h1 := (ht.go hbw)
      have c0 := h1.cell k 0 hlt (by omega)
      have c1 := h1.cell k 1 hlt (by omega)
      have c2 := h1.cell k 2 hlt (by omega)
      have c3 := h1.cell k 3 hlt (by omega)
      have c4 := h1.cell k 4 hlt (by omega)
      simp only [Nat.add_zero] at c0
      have hsz := hbw.size
      have hgl := h1.g
      clear hvar
      have hcall := fun W h1 h2 => adj2_any _ hs cm hc0 hc1 qc W h1 h2
      unfold intV at hcall
      have Hcall := Lib.hid hcall
      clear hcall
      go_wp2_with fail
      refine (Hcall.out _ (by simp; omega) (by rw [World.cell?_alloc_lt _ _ _ (by simp; omega)]; exact (hbw.cell (p := ⟨qc, 0, none⟩) hqc).trans hcc)).mono ?_
      rintro e w1 ⟨rfl, hb⟩
      have hown1 := own_below (hown.alloc (.cells #[.int .i64 (sums l k 0), .int .i64 (sums l k 1), .int .i64 (sums l k 2), .int .i64 (sums l k 3), .int .i64 (sums l k 4)] 95)) hb (Nat.le_refl _)
      have hbw1 : Below w.heap.size w w1 := (hbw.alloc hsz _).trans (hb.mono (by simp; omega))
      have hsz1 := hbw1.size
      go_wp2_with (at_builtin; refine wpList_push int_elem rfl (.tmp 12) (.tmp 16) rfl rfl hown1 _ rfl rfl (by simp [Value.oneCell']) (by simp only [maxLen]; omega) (by omega) (by omega) ?_; intro v2 w2 hown2 hg2 _)
      go_roundw
      case rel =>
        refine ⟨k + 1, by omega, by go_num, ?_, Below.push hbw1 hown1 hg2 (Nat.le_refl _) hsz1⟩
        rw [listI_succ]
        simpa [ints] using hown2
      case measure => simp [intOf]; omega
    · obtain rfl : k = n := by omega
      go_wp2_with fail
      go_ret
      exact ⟨_, rfl, hown, hbw⟩
end Go.Proofs.Ytkbfdgacnoadlaa
