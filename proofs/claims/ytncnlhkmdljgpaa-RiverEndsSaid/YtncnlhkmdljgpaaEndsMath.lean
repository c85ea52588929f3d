/- River: RiverEnds, its plain part. -/
import Derived.Test.YtncnlhkmdljgpaaW30
import Derived.Test.YtncnlhkmdljgpaaW24
set_option linter.unusedVariables false
set_option linter.unusedSimpArgs false
namespace Go.Proofs.Ytncnlhkmdljgpaa
open Go Go.RowKit

section
variable {hi : Bool}
theorem ext_getD {α : Type} {l m : List α} (d : α) (h : l.length = m.length) (h2 : ∀ i, i < l.length → l.getD i d = m.getD i d) : l = m := by
  apply List.ext_getElem h
  intro i h3 h4
  have := h2 i h3
  simpa [h3, h4] using this
theorem getD_mapR {α β : Type} {l : List α} {f : α → β} {d : α} {e : β} {i : Nat} (h : i < l.length) : (l.map f).getD i e = f (l.getD i d) := by
  simp [h]
theorem mkR_all (l : List Reach) : mkR hi l l.length = l.map (withB hi) := by
  apply ext_getD reach0 (by rw [mkR_len]; simp)
  intro i h
  rw [mkR_len] at h
  rw [mkR_at l (Nat.le_refl _), if_pos h, getD_mapR (d := reach0) h]
theorem mkB_all (l : List Bd) : mkB hi l l.length = l.map (bdP hi) := by
  apply ext_getD bd0 (by rw [mkB_len]; simp)
  intro i h
  rw [mkB_len] at h
  rw [mkB_at l (Nat.le_refl _), if_pos h, getD_mapR (d := bd0) h]
theorem mkS_all (l : List (List Bd)) : mkS hi l l.length = l.map (List.map (bdP hi)) := by
  apply ext_getD [] (by rw [mkS_len]; simp)
  intro i h
  rw [mkS_len] at h
  rw [mkS_at l (Nat.le_refl _), if_pos h, getD_mapR (d := []) h, mkB_all]
theorem bdOk_P {a b : Int} {x : Bd} (h : bdOk a b x = true) : bdOk a b (bdP hi x) = true := by
  rw [bdOk_iff] at h ⊢
  cases hi <;> simp [bdP, pB] <;> omega
theorem reachB_P {x : Reach} (h : reachB x = true) : reachB (withB hi x) = true := by
  simp only [reachB, Bool.and_eq_true] at h ⊢
  exact ⟨h.1, h.2.1, bdOk_P h.2.2.1, h.2.2.2⟩
theorem getD_map_len (l : List (List Bd)) (i : Nat) (f : Bd → Bd) : ((l.map (List.map f)).getD i []).length = (l.getD i []).length := by
  by_cases h : i < l.length
  · rw [getD_mapR (d := []) h, List.length_map]
  · rw [List.getD_eq_getElem?_getD, List.getD_eq_getElem?_getD, List.getElem?_eq_none (by simpa using h), List.getElem?_eq_none (by omega)]
theorem startErr_P {r : River} {s : List (List Bd)} (h : startErr r s = 0) : startErr ⟨r.reaches.map (withB hi), r.shoals⟩ (s.map (List.map (bdP hi))) = 0 := by
  have h1 := (startErr_ok h).1
  have hS := (startErr_ok h).2
  have e1 : riverB ⟨r.reaches.map (withB hi), r.shoals⟩ = true := by
    simp only [riverB, Bool.and_eq_true] at h1 ⊢
    refine ⟨by simpa using h1.1, h1.2.1, ?_, ?_⟩
    · rw [List.all_map]
      rw [List.all_eq_true] at *
      exact fun x hx => reachB_P (h1.2.2.1 x hx)
    · have e : placesOf (r.reaches.map (withB hi)) = placesOf r.reaches := by
        unfold placesOf; rw [List.map_map]; rfl
      rw [e]; exact h1.2.2.2
  unfold startErr at h ⊢
  rw [if_neg (by rw [e1]; simp), if_neg (by rw [getD_map_len, List.length_map, List.length_map]; have := hS.many; have := hS.hours; omega), if_neg, if_neg (by rw [getD_map_len]; have := hS.hours; omega), if_neg]
  · rw [Bool.not_eq_false, List.all_map, List.all_eq_true]
    intro l hl
    show (l.map (bdP hi)).all _ = true
    rw [List.all_map, List.all_eq_true]
    intro x hx
    apply bdOk_P
    rw [if_neg (by rw [h1]; simp)] at h
    split at h
    · omega
    · split at h
      · omega
      · split at h
        · omega
        · split at h
          · omega
          · rename_i h5
            rw [Bool.not_eq_false, List.all_eq_true] at h5
            exact List.all_eq_true.1 (h5 l hl) x hx
  · rw [Bool.not_eq_false, List.all_map, List.all_eq_true]
    intro l hl
    obtain ⟨i, hi_, rfl⟩ := List.getElem_of_mem hl
    have h3 := hS.same i hi_
    rw [List.getD_eq_getElem?_getD, List.getElem?_eq_getElem hi_] at h3
    show decide ((s[i].map (bdP hi)).length = _) = true
    rw [getD_map_len, List.length_map]
    simpa using h3
theorem flowIn_P {r : River} {s : List (List Bd)} (hS : StartOk r s) : ∀ (i : Nat) (t : Int), i < r.reaches.length → t < (s.getD 0 []).length → flowIn (r.reaches.map (withB hi)) (s.map (List.map (bdP hi))) i t = bdP hi (flowIn r.reaches s i t)
  | 0, t, h, ht => by
    have hm := hS.many
    rw [flowIn, flowIn]
    split
    · rw [getD_mapR (d := reach0) h]; rfl
    · rw [getD_mapR (d := []) (by omega), getD_mapR (d := bd0) (by omega)]
  | i + 1, t, h, ht => by
    have hm := hS.many
    rw [flowIn, flowIn]
    split
    · rw [getD_mapR (d := reach0) h]; rfl
    · have h2 := hS.same (i + 1) (by omega)
      have hd := (hS.river.reach i (by omega)).delay
      have hdl : (withB hi (r.reaches.getD i reach0)).delay = (r.reaches.getD i reach0).delay := rfl
      rw [getD_mapR (d := []) (by omega), getD_mapR (d := bd0) (by omega), getD_mapR (d := reach0) (by omega), hdl, flowIn_P hS i _ (by omega) (by omega)]
      cases hi <;> rfl
/-- the forecast that keeps one end only -/
structure Kept (hi : Bool) (r r' : River) (s s' : List (List Bd)) : Prop where
  err : startErr r' s' = 0
  len : r'.reaches.length = r.reaches.length
  shoals : r'.shoals = r.shoals
  slen : s'.length = s.length
  h0 : (s'.getD 0 []).length = (s.getD 0 []).length
  curves : CurvesB r'.reaches
  sides : SidesB s'
  flow : ∀ i t, i < r.reaches.length → t < (((s.getD 0 []).length : Nat) : Int) → flowIn r'.reaches s' i t = bdP hi (flowIn r.reaches s i t)
  lev : ∀ i f, i < r.reaches.length → levelAt (r'.reaches.getD i reach0) f = levelAt (r.reaches.getD i reach0) f
theorem kept {r : River} {s : List (List Bd)} (h : startErr r s = 0) (f3 : CurvesB r.reaches) (f4 : SidesB s) : Kept hi r ⟨mkR hi r.reaches r.reaches.length, r.shoals⟩ s (mkS hi s s.length) := by
  rw [mkR_all, mkS_all]
  refine ⟨startErr_P h, by simp, rfl, by simp, getD_map_len _ _ _, fun i hi_ => ?_, fun i hi_ => ?_, fun i t hi_ ht => flowIn_P (startErr_ok h).2 i t hi_ ht, fun i f hi_ => ?_⟩
  · rw [List.length_map] at hi_
    rw [getD_mapR (d := reach0) hi_]
    exact f3 i hi_
  · rw [List.length_map] at hi_
    rw [getD_map_len]
    exact f4 i hi_
  · rw [getD_mapR (d := reach0) hi_]; rfl
end
theorem mono_stup {k n : Nat} {l : List (List Bd)} {y : Value} : Mono fun r w => ∃ A c ss, r k = .tuple #[.slice A n c, y] ∧ RdSides w w.heap.size (.slice A n c) l ss := fun _ _ _ hb ⟨A, c, ss, h1, h2⟩ => ⟨A, c, ss, h1, h2.go hb⟩
theorem mono_sslc {k n : Nat} {l : List (List Bd)} : Mono fun r w => ∃ A c ss, r k = .slice A n c ∧ RdSides w w.heap.size (.slice A n c) l ss := fun _ _ _ hb ⟨A, c, ss, h1, h2⟩ => ⟨A, c, ss, h1, h2.go hb⟩
theorem flows_ok (r : River) (sides : List (List Bd)) (v u s : Value) (vs ss : List Value) (w : World) (B : Nat) (hr : RdRiver w B v u r vs) (hs : RdSides w B s sides ss) (hB : B ≤ w.heap.size)
    (hl : r.reaches.length ≤ 1048576) (hl2 : r.shoals.length ≤ 1048576) (hcv : CurvesB r.reaches) (hl3 : sides.length ≤ 1048576) (hsb : SidesB sides) (h0 : startErr r sides = 0) :
    Calls Try.prog 40 #[.agg #[v, u], s] w fun e w' => (∃ A c fs, e = .returned (.tuple #[.slice A sides.length c, .int .i64 0]) ∧ RdSides w' w'.heap.size (.slice A sides.length c) (flowsUp r.reaches sides sides.length) fs) ∧ Below w.heap.size w w' :=
  (flows_any r sides v u s vs ss w B hr hs hB hl hl2 hcv hl3 hsb).mono fun e w' ⟨⟨v', fs, h1, _, h2⟩, h3⟩ => by
    have h4 := h2 h0
    obtain ⟨A, c, h5, _⟩ := h4.rd.shape
    rw [flowsUp_len] at h5
    subst h5
    exact ⟨⟨A, c, fs, by rw [h1, h0], h4⟩, h3⟩
theorem levels_ok (r : River) (sides : List (List Bd)) (v u s : Value) (vs ss : List Value) (w : World) (B : Nat) (hr : RdRiver w B v u r vs) (hs : RdSides w B s sides ss) (hB : B ≤ w.heap.size)
    (hl : r.reaches.length ≤ 1048576) (hl2 : r.shoals.length ≤ 1048576) (hcv : CurvesB r.reaches) (hl3 : sides.length ≤ 1048576) (hsb : SidesB sides) (h0 : startErr r sides = 0) :
    Calls Try.prog 41 #[.agg #[v, u], s] w fun e w' => (∃ A c fs, e = .returned (.tuple #[.slice A sides.length c, .int .i64 0]) ∧ RdSides w' w'.heap.size (.slice A sides.length c) (lvUp r sides) fs) ∧ Below w.heap.size w w' :=
  (levels_any r sides v u s vs ss w B hr hs hB hl hl2 hcv hl3 hsb).mono fun e w' ⟨⟨v', fs, h1, _, h2⟩, h3⟩ => by
    have h4 := h2 h0
    obtain ⟨A, c, h5, _⟩ := h4.rd.shape
    rw [lvUp_len, ← (startErr_ok h0).2.many] at h5
    subst h5
    exact ⟨⟨A, c, fs, by rw [h1, h0], h4⟩, h3⟩
end Go.Proofs.Ytncnlhkmdljgpaa
