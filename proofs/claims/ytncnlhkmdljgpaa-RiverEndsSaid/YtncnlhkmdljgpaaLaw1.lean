/- River: copies of rivers and forecasts as rows of one's own: a store to a block of another type leaves them as they are. -/
import Derived.Test.YtncnlhkmdljgpaaLaw0
set_option linter.unusedVariables false
namespace Go.Proofs.Ytncnlhkmdljgpaa
open Go Go.RowKit

section
variable {w w' : World} {base base' e size n g T : Nat} {v u : Value} {xs : List Value} {cs : Array Value}
theorem own_type (h : w.ownsRow base e size v n xs) (hq : Blk w g T cs) (hT : Nat.beq T e = false) (hg : w.grownBy w' (some g)) : w'.ownsRow base e size v n xs :=
  h.kept hg (by
    obtain ⟨_, ⟨rfl, _⟩ | ⟨k, cap, cur, rfl, _, hk, _⟩⟩ := h
    · exact .inl rfl
    · refine .inr fun h' => ?_
      have h1 : k = g := by simpa [Value.ownBlock] using h'
      subst h1
      unfold Blk at hq
      have h2 : some (Obj.cells cs T (0, 0)) = some (Obj.cells cur e (0, 0)) := hq.symm.trans hk
      injection h2 with h2
      injection h2 with _ h3
      exact Nat.ne_of_beq_eq_false hT h3)
theorem Rows.type {osize tb : Nat} {outer : List Value} {fs : List Value} {F : List (Nat × List Value)} (h : Rows w base e osize v n outer tb size fs F) (hq : Blk w g T cs) (hT : Nat.beq T e = false) (hT2 : Nat.beq T tb = false) (hg : w.grownBy w' (some g)) : Rows w' base e osize v n outer tb size fs F :=
  ⟨own_type h.own hq hT hg, h.len, fun i hi => own_type (h.each i hi) hq hT2 hg, h.apart⟩
theorem Rows.less {osize tb : Nat} {outer : List Value} {fs : List Value} {F : List (Nat × List Value)} (h : Rows w base e osize v n outer tb size fs F) (hb : base' ≤ base) : Rows w base' e osize v n outer tb size fs F :=
  ⟨own_less h.own hb, h.len, fun i hi => own_less (h.each i hi) hb, h.apart⟩
end
/-- a river, a forecast that one owns -/
structure OwnRiver (w : World) (base : Nat) (v u : Value) (r : River) (vs : List Value) : Prop where
  rows : Rows w base 50 9 v r.reaches.length ((r.reaches.zip vs).flatMap reachC) 126 2 vs (rowsR r.reaches)
  sh : w.ownsRow base 97 6 u r.shoals.length (shoalsC r.shoals)
def OwnSides (w : World) (base : Nat) (v : Value) (l : List (List Bd)) (fs : List Value) : Prop := Rows w base 28 1 v l.length fs 23 2 fs (rowsB l)
section
variable {w w' : World} {base base' : Nat} {v u s : Value} {r : River} {vs ss : List Value} {l : List (List Bd)}
theorem OwnRiver.rd (h : OwnRiver w base v u r vs) : RdRiver w w.heap.size v u r vs := ⟨h.rows.reaches, Rd.of_own h.sh⟩
theorem OwnSides.rd (h : OwnSides w base s l ss) : RdSides w w.heap.size s l ss := Rows.sides h
theorem OwnRiver.below (h : OwnRiver w base v u r vs) (hb : Below w.heap.size w w') : OwnRiver w' base v u r vs := ⟨h.rows.below hb, own_below h.sh hb (Nat.le_refl _)⟩
theorem OwnSides.below (h : OwnSides w base s l ss) (hb : Below w.heap.size w w') : OwnSides w' base s l ss := Rows.below h hb
theorem OwnRiver.type {g T : Nat} {cs : Array Value} (h : OwnRiver w base v u r vs) (hq : Blk w g T cs) (h1 : Nat.beq T 50 = false) (h2 : Nat.beq T 126 = false) (h3 : Nat.beq T 97 = false) (hg : w.grownBy w' (some g)) : OwnRiver w' base v u r vs :=
  ⟨h.rows.type hq h1 h2 hg, own_type h.sh hq h3 hg⟩
theorem OwnSides.type {g T : Nat} {cs : Array Value} (h : OwnSides w base s l ss) (hq : Blk w g T cs) (h1 : Nat.beq T 28 = false) (h2 : Nat.beq T 23 = false) (hg : w.grownBy w' (some g)) : OwnSides w' base s l ss := Rows.type h hq h1 h2 hg
theorem OwnRiver.less (h : OwnRiver w base v u r vs) (hb : base' ≤ base) : OwnRiver w base' v u r vs := ⟨h.rows.less hb, own_less h.sh hb⟩
end
theorem copied_OR (r : River) (v u : Value) (vs : List Value) (w : World) (B : Nat) (hr : RdRiver w B v u r vs) (hB : B ≤ w.heap.size) (hl : r.reaches.length ≤ 1048575) (hl2 : r.shoals.length ≤ 1048576) (hcl : ∀ i, i < r.reaches.length → (r.reaches.getD i reach0).curve.length ≤ 1048576) :
    Calls Try.prog 24 #[.agg #[v, u]] w fun e w' => (∃ v' u' vs', e = .returned (.agg #[v', u']) ∧ OwnRiver w' w.heap.size v' u' r vs') ∧ Below w.heap.size w w' :=
  (copied_own r v u vs w B hr hB hl hl2 hcl).mono fun _ _ ⟨⟨v', u', vs', _, _, h1, ha, hb, h2, h3⟩, h4⟩ => ⟨⟨v', u', vs', h1, h2.less ha, own_less h3 hb⟩, h4⟩
theorem forecast_OS (l : List (List Bd)) (v : Value) (ss : List Value) (w : World) (B : Nat) (hs : RdSides w B v l ss) (hB : B ≤ w.heap.size) (hl : l.length ≤ 1048575) (hsb : ∀ i, i < l.length → (l.getD i []).length ≤ 1048576) :
    Calls Try.prog 34 #[v] w fun e w' => (∃ v' fs, e = .returned v' ∧ OwnSides w' w.heap.size v' l fs) ∧ Below w.heap.size w w' :=
  (forecast_own l v ss w B hs hB hl hsb).mono fun _ _ ⟨⟨v', fs, _, h1, h0, h2⟩, h3⟩ => ⟨⟨v', fs, h1, Rows.less h2 h0⟩, h3⟩
theorem mono_oriv {k b : Nat} {rv : River} : Mono fun r w => ∃ a c vs, r k = .agg #[a, c] ∧ OwnRiver w b a c rv vs := fun _ _ _ hb ⟨a, c, vs, h1, h2⟩ => ⟨a, c, vs, h1, h2.below hb⟩
theorem mono_osid {k b : Nat} {l : List (List Bd)} : Mono fun r w => ∃ v ss, r k = v ∧ OwnSides w b v l ss := fun _ _ _ hb ⟨v, ss, h1, h2⟩ => ⟨v, ss, h1, h2.below hb⟩
end Go.Proofs.Ytncnlhkmdljgpaa
