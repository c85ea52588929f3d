/- River: ways, plainly. -/
import Derived.Test.YtncnlhkmdljgpaaW1
import Derived.Test.YtncnlhkmdljgpaaW12
set_option linter.unusedVariables false
namespace Go.Proofs.Ytncnlhkmdljgpaa
open Go Go.RowKit

structure Pass where
  place : Int
  hours : Bd
def pass0 : Pass := ⟨0, bd0⟩
def passC (p : Pass) : List Value := [.int .i64 p.place, .int .i64 p.hours.lo, .int .i64 p.hours.hi]
def passesC (l : List Pass) : List Value := l.flatMap passC
theorem passC_len (s : Pass) : (passC s).length = 3 := rfl
theorem passesC_len (l : List Pass) : (passesC l).length = l.length * 3 := flat_len passC_len l
theorem passesC_one (l : List Pass) : ∀ u ∈ passesC l, u.oneCell' = true := flat_one (by intro x u hu; simp [passC] at hu; rcases hu with rfl | rfl | rfl <;> rfl) l
structure PassAt (w : World) (b o : Nat) (s : Pass) : Prop where
  c0 : w.cell? ⟨b, o, none⟩ = some (.int .i64 s.place)
  c1 : w.cell? ⟨b, o + 1, none⟩ = some (.int .i64 s.hours.lo)
  c2 : w.cell? ⟨b, o + 2, none⟩ = some (.int .i64 s.hours.hi)
theorem passes_cells (l : List Pass) (k : Nat) (hk : k < l.length) (w : World) (B : Nat) (A : Option Addr) (n c : Nat) (hr : Rd w B 3 (.slice A n c) n (passesC l)) :
    ∃ b off, A = some ⟨b, off, none⟩ ∧ b < B ∧ PassAt w b (off + k * 3) (l.getD k pass0) := by
  have hl : n * 3 = l.length * 3 := by rw [← hr.len, passesC_len]
  obtain ⟨b, off, rfl, hb, hc⟩ := hr.at_ (by omega)
  have e : l.getD k pass0 = l[k] := by simp [hk]
  rw [e]
  have g := fun j hj => flat_get passC_len l k hk j hj
  exact ⟨b, off, rfl, hb, hc (k * 3) _ (g 0 (by omega)), hc (k * 3 + 1) _ (g 1 (by omega)), hc (k * 3 + 2) _ (g 2 (by omega))⟩
/-- the error of a way -/
def passBad (n h : Int) : List Pass → Int
  | [] => 0
  | x :: l => if inB 0 (n - 1) x.place = false then 7 else if bdOk 0 (h - 1) x.hours = false then 3 else passBad n h l
def wayErr (n h : Int) (l : List Pass) : Int := if l.length = 0 then 4 else if 60 < l.length then 5 else passBad n h l
def passOk (n h : Int) (x : Pass) : Prop := inB 0 (n - 1) x.place = true ∧ bdOk 0 (h - 1) x.hours = true
section
variable {n h : Int}
theorem passBad_ok : ∀ {l : List Pass}, (∀ j, j < l.length → passOk n h (l.getD j pass0)) → passBad n h l = 0
  | [], _ => rfl
  | x :: l, H => by
    have h0 := H 0 (by simp)
    simp only [List.getD_cons_zero] at h0
    rw [passBad, h0.1, h0.2, if_neg (by simp), if_neg (by simp)]
    exact passBad_ok fun j hj => by have := H (j + 1) (by simp; omega); simpa using this
theorem passBad_at : ∀ {l : List Pass} {k : Nat}, k < l.length → (∀ j, j < k → passOk n h (l.getD j pass0)) → passBad n h l = if inB 0 (n - 1) (l.getD k pass0).place = false then 7 else if bdOk 0 (h - 1) (l.getD k pass0).hours = false then 3 else passBad n h (l.drop (k + 1))
  | [], k, hk, _ => by simp at hk
  | x :: l, 0, _, _ => by simp [passBad]
  | x :: l, k + 1, hk, H => by
    have h0 := H 0 (by omega)
    simp only [List.getD_cons_zero] at h0
    rw [passBad, h0.1, h0.2, if_neg (by simp), if_neg (by simp), List.getD_cons_succ, List.drop_succ_cons]
    exact passBad_at (by simpa using hk) fun j hj => by have := H (j + 1) (by omega); simpa using this
theorem passBad_7 {l : List Pass} {k : Nat} (hk : k < l.length) (H : ∀ j, j < k → passOk n h (l.getD j pass0)) (hp : inB 0 (n - 1) (l.getD k pass0).place = false) : passBad n h l = 7 := by
  rw [passBad_at hk H, if_pos hp]
theorem passBad_3 {l : List Pass} {k : Nat} (hk : k < l.length) (H : ∀ j, j < k → passOk n h (l.getD j pass0)) (hp : inB 0 (n - 1) (l.getD k pass0).place = true) (hh : bdOk 0 (h - 1) (l.getD k pass0).hours = false) : passBad n h l = 3 := by
  rw [passBad_at hk H, if_neg (by rw [hp]; simp), if_pos hh]
theorem passBad_mem : ∀ {l : List Pass}, passBad n h l = 0 → ∀ j, j < l.length → passOk n h (l.getD j pass0)
  | [], _, j, hj => by simp at hj
  | x :: l, H, j, hj => by
    rw [passBad] at H
    cases h1 : inB 0 (n - 1) x.place with
    | false => rw [if_pos h1] at H; omega
    | true =>
      rw [if_neg (by rw [h1]; simp)] at H
      cases h2 : bdOk 0 (h - 1) x.hours with
      | false => rw [if_pos h2] at H; omega
      | true =>
        rw [if_neg (by rw [h2]; simp)] at H
        cases j with
        | zero => exact ⟨h1, h2⟩
        | succ j => rw [List.getD_cons_succ]; exact passBad_mem H j (by simpa using hj)
end
/-- the least depth, where and when; most: the greatest depth at this pass -/
structure Sh where
  lo : Int
  pass : Int
  hour : Int
  most : Int
def shStep (i k : Int) (d : Bd) (s : Sh) : Sh := if d.lo < s.lo then ⟨d.lo, i, k, max s.most d.hi⟩ else ⟨s.lo, s.pass, s.hour, max s.most d.hi⟩
def shIn (D : Int → Bd) (i k0 : Int) (s : Sh) : Nat → Sh
  | 0 => s
  | n + 1 => shStep i (k0 + n) (D (k0 + n)) (shIn D i k0 s n)
structure Shal where
  lo : Int
  hi : Int
  pass : Int
  hour : Int
def hoursN (b : Bd) : Nat := (b.hi - b.lo + 1).toNat
def shNext (D : Int → Bd) (i : Int) (b : Bd) (s : Shal) : Shal :=
  let t := shIn D i b.lo ⟨s.lo, s.pass, s.hour, 0⟩ (hoursN b)
  ⟨t.lo, min s.hi t.most, t.pass, t.hour⟩
def shUp (rv : River) (sides : List (List Bd)) (l : List Pass) : Nat → Shal
  | 0 => ⟨1000000, 1000000, 0, 0⟩
  | j + 1 => shNext (depthAt rv sides (l.getD j pass0).place) j (l.getD j pass0).hours (shUp rv sides l j)
theorem depth_bd {rv : River} {sides : List (List Bd)} (hS : StartOk rv sides) {p t : Int} (hp1 : 0 ≤ p) (hp2 : p < placesOf rv.reaches) (ht1 : 0 ≤ t) (ht2 : t < (sides.getD 0 []).length) :
    (0 ≤ (depthAt rv sides p t).lo ∧ (depthAt rv sides p t).lo ≤ 30000) ∧ 0 ≤ (depthAt rv sides p t).hi ∧ (depthAt rv sides p t).hi ≤ 30000 := by
  have hlt := reachOf_lt rv.reaches p hp1 hp2
  have hx := hS.river.reach _ hlt
  have hlb := levelAt_bd hx (flowIn rv.reaches sides (reachOf rv.reaches p) t)
  have hhr := hS.hours
  have htb : (-20000 ≤ (bedAt rv p t).lo ∧ (bedAt rv p t).lo ≤ 30000) ∧ -20000 ≤ (bedAt rv p t).hi ∧ (bedAt rv p t).hi ≤ 30000 := topOf_bd (N := placesOf rv.reaches) (fun j hj => by
    have hm : (shoalsAt rv.shoals p).getD j shoal0 ∈ rv.shoals := (List.mem_filter.1 (show _ ∈ rv.shoals.filter _ from getD_mem hj)).1
    obtain ⟨k, hk, e⟩ := List.getElem_of_mem hm
    have := hS.river.shoal k hk
    rwa [show rv.shoals.getD k shoal0 = (shoalsAt rv.shoals p).getD j shoal0 by simp [hk, e]] at this) (by omega) (by omega) (by have := hx.bottom; omega) (by have := hx.bottom; omega)
  simp only [depthAt]
  omega
theorem shIn_bd {D : Int → Bd} {i k0 : Int} {s : Sh} {n : Nat} (hD : ∀ j : Nat, j < n → 0 ≤ (D (k0 + j)).lo ∧ (D (k0 + j)).lo ≤ 30000 ∧ 0 ≤ (D (k0 + j)).hi ∧ (D (k0 + j)).hi ≤ 30000) (hs : 0 ≤ s.lo ∧ s.lo ≤ 1000000) (hm : 0 ≤ s.most ∧ s.most ≤ 30000) :
    (0 ≤ (shIn D i k0 s n).lo ∧ (shIn D i k0 s n).lo ≤ 1000000) ∧ (0 ≤ (shIn D i k0 s n).most ∧ (shIn D i k0 s n).most ≤ 30000) ∧ (0 < n → (shIn D i k0 s n).lo ≤ 30000) := by
  induction n with
  | zero => exact ⟨hs, hm, fun h => absurd h (by omega)⟩
  | succ n ih =>
    obtain ⟨h1, h2, h3⟩ := ih fun j hj => hD j (by omega)
    have h4 := hD n (by omega)
    rw [shIn, shStep]
    split
    · simp only; omega
    · simp only; omega
theorem hoursN_eq {b : Bd} (h : b.lo ≤ b.hi) : ((hoursN b : Nat) : Int) = b.hi - b.lo + 1 := by unfold hoursN; omega
theorem shUp_bd {rv : River} {sides : List (List Bd)} (hS : StartOk rv sides) {l : List Pass} (hl : ∀ j, j < l.length → passOk (placesOf rv.reaches) ((sides.getD 0 []).length : Nat) (l.getD j pass0)) : ∀ {j : Nat}, j ≤ l.length → (0 ≤ (shUp rv sides l j).lo ∧ (shUp rv sides l j).lo ≤ 1000000) ∧ (0 ≤ (shUp rv sides l j).hi ∧ (shUp rv sides l j).hi ≤ 1000000) ∧ (0 < j → (shUp rv sides l j).lo ≤ 30000 ∧ (shUp rv sides l j).hi ≤ 30000)
  | 0, _ => by simp [shUp]
  | j + 1, hj => by
    obtain ⟨h1, h2, h3⟩ := shUp_bd hS hl (j := j) (by omega)
    obtain ⟨hp, hh⟩ := hl j (by omega)
    have hp := inB_iff.1 hp
    have hh := bdOk_iff.1 hh
    have hn := hoursN_eq hh.2.1
    have key := shIn_bd (D := depthAt rv sides (l.getD j pass0).place) (i := j) (k0 := (l.getD j pass0).hours.lo) (s := ⟨(shUp rv sides l j).lo, (shUp rv sides l j).pass, (shUp rv sides l j).hour, 0⟩) (n := hoursN (l.getD j pass0).hours) (fun m hm => by
      have := depth_bd hS (p := (l.getD j pass0).place) (t := (l.getD j pass0).hours.lo + m) (by omega) (by omega) (by omega) (by omega)
      omega) h1 (by simp)
    obtain ⟨k1, k2, k3⟩ := key
    have k4 := k3 (by omega)
    rw [shUp, shNext]
    simp only
    omega
/-- what Shallowest returns -/
def shaErr (rv : River) (sides : List (List Bd)) (l : List Pass) : Int := if startErr rv sides ≠ 0 then startErr rv sides else wayErr (placesOf rv.reaches) ((sides.getD 0 []).length : Nat) l
def shaRes (rv : River) (sides : List (List Bd)) (l : List Pass) : Shal := if shaErr rv sides l = 0 then shUp rv sides l l.length else ⟨0, 0, 0, 0⟩
section
variable {rv : River} {sides : List (List Bd)} {l : List Pass}
theorem sha_open (h : startErr rv sides ≠ 0) : shaErr rv sides l = startErr rv sides ∧ shaRes rv sides l = ⟨0, 0, 0, 0⟩ := by simp [shaErr, shaRes, h]
theorem sha_way {e : Int} (h : startErr rv sides = 0) (h2 : wayErr (placesOf rv.reaches) ((sides.getD 0 []).length : Nat) l = e) (he : e ≠ 0) : shaErr rv sides l = e ∧ shaRes rv sides l = ⟨0, 0, 0, 0⟩ := by
  have h3 : shaErr rv sides l = e := by rw [shaErr, if_neg (by omega), h2]
  exact ⟨h3, by rw [shaRes, h3, if_neg he]⟩
theorem sha_ok (h : startErr rv sides = 0) (h2 : wayErr (placesOf rv.reaches) ((sides.getD 0 []).length : Nat) l = 0) : shaErr rv sides l = 0 ∧ shaRes rv sides l = shUp rv sides l l.length := by
  have h3 : shaErr rv sides l = 0 := by rw [shaErr, if_neg (by omega), h2]
  exact ⟨h3, by rw [shaRes, if_pos h3]⟩
theorem way_4 {n h : Int} (hl : l.length = 0) : wayErr n h l = 4 := by rw [wayErr, if_pos hl]
theorem way_5 {n h : Int} (hl : 60 < l.length) : wayErr n h l = 5 := by rw [wayErr, if_neg (by omega), if_pos hl]
theorem way_in {n h : Int} (h1 : l.length ≠ 0) (h2 : ¬60 < l.length) : wayErr n h l = passBad n h l := by rw [wayErr, if_neg h1, if_neg h2]
end
/-- the places, found: curve and shoals of each -/
def placeC (rv : River) (q : Pass × Value × Value) : List Value := (placeV (rv.reaches.getD (reachOf rv.reaches q.1.place) reach0) q.2.1 (reachOf rv.reaches q.1.place : Nat) q.2.2).toList
theorem placeC_len (rv : River) (q : Pass × Value × Value) : (placeC rv q).length = 11 := rfl
def shoalRows (rv : River) (l : List Pass) : List (Nat × List Value) := l.map fun x => ((shoalsAt rv.shoals x.place).length, shoalsC (shoalsAt rv.shoals x.place))
theorem shoalRows_take {rv : River} {l : List Pass} {i : Nat} (hi : i < l.length) : shoalRows rv (l.take (i + 1)) = shoalRows rv (l.take i) ++ [((shoalsAt rv.shoals (l.getD i pass0).place).length, shoalsC (shoalsAt rv.shoals (l.getD i pass0).place))] := by
  rw [List.take_succ_eq_append_getElem hi]
  unfold shoalRows
  rw [List.map_append]
  simp [hi]
theorem placeC_take {rv : River} {l : List Pass} {ps : List (Value × Value)} {v : Value × Value} {i : Nat} (hi : i < l.length) (hf : ps.length = i) : ((l.take (i + 1)).zip (ps ++ [v])).flatMap (placeC rv) = ((l.take i).zip ps).flatMap (placeC rv) ++ placeC rv (l.getD i pass0, v) := by
  rw [List.take_succ_eq_append_getElem hi, List.zip_append (by simp; omega)]
  simp [hi]
end Go.Proofs.Ytncnlhkmdljgpaa
