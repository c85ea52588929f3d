/- A range over a CLOSURE that has captured two variables, whose body always goes on: the caller's law. -/
import Derived.RangeFuncNested
import Derived.RangeFuncBound
import Derived.RangeFuncFrom
namespace Go.Proofs.Ytfgfenmaommclaa
open Go Go.RowKit

section
variable {F : Fence} {n : Nat} {P : Program}

/-- what the iterator with a bound receiver does, whatever the rounds do, if each goes on; ok: what is known of each thing handed -/
def GivesC {α : Type} (F : Fence) (n : Nat) (P : Program) (g : Nat) (t t2 : Value) (encs : α → Array Value) (ok : α → Prop) (Kp : World → World → Prop) (S : List α → Prop) (w : World) : Prop :=
  ∀ (l : Nat) (J : List α → World → Prop) (W : World), Kp w W → AbidesFrom W.heap.size J →
    (∀ pre x W1, ok x → J pre W1 → YieldAt F (n - 1) P l (encs x) W1 fun e W' => e = .returned (.bool true) ∧ J (pre ++ [x]) W' ∧ Kp W1 W') →
    J [] W → CallsIn F n P g #[.func (.yield l) #[] #[], t, t2] W fun e W' => (∃ v, e = .returned v) ∧ ∃ xs, S xs ∧ J xs W'

theorem wpIn_range_clos {α : Type} {g : Operand} {ps : Array Tmp} {assign body : Code} {Q : Exit → Act → World → Prop} {a : Act} {w : World}
    (hro : F.round = none) (h1 : 1 ≤ n) {gf : Nat} {t t2 : Value} (hg : a.eval g = .func (.func gf) #[] #[t, t2]) (hFg : F.fn gf) (eg : ∀ args w, (callFunc gf args).run P w = .ok (.enter gf args) w)
    {encs : α → Array Value} {ok : α → Prop} {Kp : World → World → Prop} {S : List α → Prop} (hseq : GivesC F (n - 1) P gf t t2 encs ok Kp S w)
    (hKr : Kp w w) (hKa : ∀ W o, Kp w W → Kp w (W.alloc o)) (hKt : ∀ {A B C : World}, Kp A B → Kp B C → Kp A C)
    (hKb : ∀ (W : World) (l : Nat) (o o' : Obj), w.heap.size ≤ l → W.heap[l]? = some o → o.isCells = false → o.isWalk = false → Kp W (W.putObj l o')) (hps : ∀ x, (encs x).size = ps.size)
    (I : List α → World → Prop) (hI : OwnFrom w.heap.size I) (h0 : I [] w) (Ax : α → Act → World → Prop) (hAx : ∀ x a', OwnFrom w.heap.size (fun (_ : List α) W => Ax x a' W))
    (hassign : ∀ (l : Nat) (pre : List α) (x : α) (W : World) (K : Act → World → Prop), ok x → I pre W → (∀ a' W', Ax x a' W' → KeepsOthers W W' → Kp W W' → I pre W' → K a' W') →
      assign.wpIn (F.inRound l) (n - 1 - 1) P (Exit.then K (fun _ _ _ => False)) { tmps := (ps.zip (encs x)).foldl (fun t (p, v) => t.setIfInBounds p v) a.tmps, defers := [] } W)
    (hbody : ∀ (l : Nat) (pre : List α) (x : α) (a' : Act) (W : World), ok x → I pre W → Ax x a' W → body.wpIn (F.inRound l) (n - 1 - 1) P (fun e _ W' => e = .normal ∧ KeepsOthers W W' ∧ Kp W W' ∧ I (pre ++ [x]) W') a' W)
    (hdone : ∀ (D : Nat) (xs : List α) (W : World), w.heap.size ≤ D → S xs → I xs W → W.heap[D]? = some (.deferred (some [])) → Q .normal { a with defers := { target := .collected D, args := #[] } :: a.defers } W) :
    (Code.rangeFunc g ps assign body).wpIn F n P Q a w := by
  refine wpIn_rangeFunc fun fn hfn => ?_
  rw [hro]
  obtain ⟨rec, hrec⟩ : ∃ rec : LoopState → Loop, rec = fun st => { state := st, pending := none, fn, tmps := a.tmps, params := ps, assign, body, defers := w.heap.size } := ⟨_, rfl⟩
  obtain ⟨W1, eW1⟩ : ∃ W1, W1 = (w.alloc (.deferred (some []))).alloc (.loop (rec .ready)) := ⟨_, rfl⟩
  have hL := World.alloc_heap_new (w.alloc (.deferred (some []))) (.loop (rec .ready))
  rw [World.size_alloc, ← eW1] at hL
  have hD : W1.heap[w.heap.size]? = some (.deferred (some [])) := by rw [eW1]; exact (Below.heap_alloc _ _ _ (by simp)).trans (World.alloc_heap_new w _)
  have hs1 : W1.heap.size = w.heap.size + 2 := by rw [eW1]; simp
  have hI1 : I [] W1 := by rw [eW1]; exact hI.alloc _ (hI.alloc _ h0)
  have hK1 : Kp w W1 := by rw [eW1]; exact hKa _ _ (hKa _ _ hKr)
  refine ⟨w.heap.size + 1, [{ target := .collected w.heap.size, args := #[] }], W1, { target := .fn (.func gf) #[t, t2], args := #[.func (.yield (w.heap.size + 1)) #[] #[]] }, W1, gf, #[.func (.yield (w.heap.size + 1)) #[] #[], t, t2], W1, ?_, ?_, ?_, ?_, fun _ => h1, ?_⟩
  · rw [eW1, hrec]; exact run_enterLoop_outer _ _ _ _ _
  · simp only [resolve, hg]
    simp [go_sem]
  · intro f' hf'
    simp [Target.leads] at hf'
    subst hf'
    exact hFg
  · simp [invoke, go_sem, eg]
  · refine (hseq (w.heap.size + 1) (fun pre W => I pre W ∧ W.heap[w.heap.size + 1]? = some (.loop (rec .ready)) ∧ W.heap[w.heap.size]? = some (.deferred (some []))) W1 hK1 ?_ ?_ ⟨hI1, hL, hD⟩).mono ?_
    · intro s A B row hs hg' hr
      refine ⟨hI s A B row hs.1 hg' fun r e => ?_, (grownBy_keeps hg' (fun r e => (hr r e).2) hs.2.1 rfl).trans hs.2.1, (grownBy_keeps hg' (fun r e => (hr r e).2) hs.2.2 rfl).trans hs.2.2⟩
      obtain ⟨hB, o, ho, hw⟩ := hr r e
      exact ⟨by omega, o, ho, Obj.not_cells_of_walk hw⟩
    · rintro pre x W hok ⟨hi, hl, hk⟩
      have hlt : w.heap.size + 1 < W.heap.size := (Array.getElem?_eq_some_iff.1 hl).1
      have hy := run_yield (P := P) (args := encs x) hl (by rw [hrec]; exact hps x)
      rw [hrec] at hy
      refine ⟨fn, _, assign, body, hy, roundIn_of_wpIn hfn (hassign _ pre x W _ hok hi fun a' W' hax hko hkp hi' => ?_)⟩
      have hl' := hko.same _ _ hl rfl
      have hk' := hko.same _ _ hk rfl
      have hlt' : w.heap.size + 1 < W'.heap.size := (Array.getElem?_eq_some_iff.1 hl').1
      refine ⟨_, run_beginRound hl' (by rw [hrec]), ?_⟩
      obtain ⟨W2, eW2⟩ : ∃ W2, W2 = W'.putObj (w.heap.size + 1) (.loop { rec .ready with state := .busy }) := ⟨_, rfl⟩
      have hl2 : W2.heap[w.heap.size + 1]? = some (.loop { rec .ready with state := .busy }) := by rw [eW2]; exact World.putObj_heap_same hlt'
      have hk2 : W2.heap[w.heap.size]? = some (.deferred (some [])) := by rw [eW2]; exact (World.putObj_heap_other (by omega)).trans hk'
      have hw2 : Kp W' W2 := by rw [eW2]; exact hKb _ _ _ _ (by omega) hl' rfl rfl
      have hi2 : I pre W2 := by rw [eW2]; exact hI.putObj _ hi' (by omega) hl' rfl
      have hax2 : Ax x a' W2 := by rw [eW2]; exact (hAx x a').putObj (s := pre) _ hax (by omega) hl' rfl
      rw [← eW2]
      refine wpIn_mono (hbody _ pre x a' W2 hok hi2 hax2) ?_
      rintro e a3 W3 ⟨rfl, hk3, hp3, hi3⟩
      have hl3 := hk3.same _ _ hl2 rfl
      have hr := run_endRound (P := P) none hl3
      exact ⟨_, _, hr, rfl, ⟨hI.putObj _ hi3 (by omega) hl3 rfl, by rw [World.putObj_heap_same (Array.getElem?_eq_some_iff.1 hl3).1, hrec]; rfl, (World.putObj_heap_other (by omega)).trans (hk3.same _ _ hk2 rfl)⟩, hKt hkp (hKt (hKt hw2 hp3) (hKb _ _ _ _ (by omega) hl3 rfl rfl))⟩
    · rintro e W2 ⟨⟨v, rfl⟩, xs, hS, hi, hl, hk⟩
      exact ⟨none, _, by have := run_endLoop (P := P) hl (by rw [hrec]; simp); rw [hrec] at this; exact this, hdone _ xs _ (Nat.le_refl _) hS (hI.putObj _ hi (by omega) hl rfl) ((World.putObj_heap_other (by omega)).trans hk)⟩
end
end Go.Proofs.Ytfgfenmaommclaa
