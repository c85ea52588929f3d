/- LkOrd, E7, E9, E10, E11, E24, E16, E17, E25, E20, E23, E27, E29, LkPile, LkHeap, LkSearch, LkSort, LkQueue, LkNext, E30, E31, LkIter, LkBest, LkCarry, LkDays, LkSmall, LkTruth, LkLift4, ExX2, X2, ExX3: what LockTruthsProof needs of them (merged by trimpack.py). -/
import Derived.Test.YtlbfnimilcnihaaTruthsT1
set_option linter.unusedVariables false
set_option linter.unusedSimpArgs false
namespace Go.Proofs.Ytlbfnimilcnihaa
open Go Go.RowKit
def or3 (a b : Int) : Int := if a = 0 then b else a
/-- a comparison that is a total order -/
structure Cmp {α : Type} (f : α → α → Int) : Prop where
 anti : ∀ x y, f y x = -f x y
 eq : ∀ x y, f x y = 0 → x = y
 trans : ∀ x y z, f x y ≤ 0 → f y z ≤ 0 → f x z ≤ 0
theorem Cmp.self {α : Type} {f : α → α → Int} (h : Cmp f) (x : α) : f x x = 0 := by
 have := h.anti x x
 omega
theorem Cmp.strict {α : Type} {f : α → α → Int} (h : Cmp f) {x y z : α} (h1 : f x y < 0) (h2 : f y z ≤ 0) : f x z < 0 := by
 have h3 := h.trans x y z (by omega) h2
 by_cases e : f x z = 0
 ·have := h.eq x z e
  subst this;have := h.anti x y
  omega
 ·omega
theorem QDl : Cmp cmpI := ⟨fun x y => by unfold cmpI; split <;> split <;> (try split) <;> omega, fun x y h => by
 unfold cmpI at h
 split at h
 ·omega
 ·split at h <;> omega, fun x y z h1 h2 => by
 unfold cmpI at h1 h2 ⊢
 split at h1 <;> split at h2 <;> (try split at h1) <;> (try split at h2) <;> split <;> (try split) <;> omega⟩
theorem Cmp.lex {β γ : Type} {f : β → β → Int} {g : γ → γ → Int} (hf : Cmp f) (hg : Cmp g) : Cmp fun (x y : β × γ) => or3 (f x.1 y.1) (g x.2 y.2) := by
 refine ⟨fun x y => ?_, fun x y h => ?_, fun x y z h1 h2 => ?_⟩
 ·have h1 := hf.anti x.1 y.1
  have h2 := hg.anti x.2 y.2
  unfold or3
  split <;> split <;> omega
 ·unfold or3 at h
  split at h
  ·rename_i h1
   exact Prod.ext (hf.eq _ _ h1) (hg.eq _ _ h)
  ·rename_i h1
   exact absurd h h1
 ·unfold or3 at h1 h2 ⊢
  split at h1
  ·rename_i a1
   have e1 := hf.eq _ _ a1;rw [e1]
   split at h2
   ·rename_i a2
    rw [if_pos a2]
    exact hg.trans _ _ _ h1 h2
   ·rename_i a2
    rw [if_neg a2]
    exact h2
  ·rename_i a1
   split at h2
   ·rename_i a2
    have e2 := hf.eq _ _ a2;rw [← e2, if_neg a1]
    exact h1
   ·rename_i a2
    have := hf.strict (x := x.1) (y := y.1) (z := z.1) (by omega) h2
    rw [if_neg (by omega)]
    omega
theorem Cmp.inj {α β : Type} {f : β → β → Int} (hf : Cmp f) {k : α → β} (hk : ∀ x y, k x = k y → x = y) : Cmp fun x y => f (k x) (k y) :=
 ⟨fun x y => hf.anti _ _, fun x y h => hk _ _ (hf.eq _ _ h), fun x y z h1 h2 => hf.trans _ _ _ h1 h2⟩
/-- lists, one after another; the beginning of a list is less than it -/
def QBb {α : Type} (f : α → α → Int) : List α → List α → Int
 | [], [] => 0
 | [], _ :: _ => -1
 | _ :: _, [] => 1
 | x :: xs, y :: ys => or3 (f x y) (QBb f xs ys)
theorem Cmp.list {α : Type} {f : α → α → Int} (hf : Cmp f) : Cmp (QBb f) := by
 refine ⟨fun x => ?_, fun x => ?_, fun x => ?_⟩
 ·induction x with
  | nil => intro y; cases y <;> rfl
  | cons a x ih =>
   intro y
   cases y with
   | nil => rfl
   | cons b y =>
    have h1 := hf.anti a b;have h2 := ih y
    show or3 (f b a) (QBb f y x) = -or3 (f a b) (QBb f x y)
    unfold or3
    split <;> split <;> omega
 ·induction x with
  | nil =>
   intro y h
   cases y with
   | nil => rfl
   | cons b y => exact absurd h (by show ¬((-1 : Int) = 0); decide)
  | cons a x ih =>
   intro y h
   cases y with
   | nil => exact absurd h (by show ¬((1 : Int) = 0); decide)
   | cons b y =>
    change or3 (f a b) (QBb f x y) = 0 at h
    unfold or3 at h
    split at h
    ·rename_i h1
     rw [hf.eq _ _ h1, ih y h]
    ·rename_i h1
     exact absurd h h1
 ·induction x with
  | nil =>
   intro y z h1 h2
   cases z with
   | nil => exact Int.le_refl _
   | cons c z => show (-1 : Int) ≤ 0; decide
  | cons a x ih =>
   intro y z h1 h2
   cases y with
   | nil => exact absurd h1 (by show ¬((1 : Int) ≤ 0); decide)
   | cons b y =>
    cases z with
    | nil => exact absurd h2 (by show ¬((1 : Int) ≤ 0); decide)
    | cons c z =>
     change or3 (f a b) (QBb f x y) ≤ 0 at h1;change or3 (f b c) (QBb f y z) ≤ 0 at h2
     show or3 (f a c) (QBb f x z) ≤ 0
     unfold or3 at h1 h2 ⊢
     split at h1
     ·rename_i a1
      have e1 := hf.eq _ _ a1;rw [e1]
      split at h2
      ·rename_i a2
       rw [if_pos a2]
       exact ih y z h1 h2
      ·rename_i a2
       rw [if_neg a2]
       exact h2
     ·rename_i a1
      split at h2
      ·rename_i a2
       have e2 := hf.eq _ _ a2;rw [← e2, if_neg a1]
       exact h1
      ·rename_i a2
       have := hf.strict (x := a) (y := b) (z := c) (by omega) h2
       rw [if_neg (by omega)]
       omega
/-! ### The order of drafts -/
theorem QM1 (a b : Int) : orI [a, b] = or3 a b := by
 unfold orI or3
 split
 ·simp only [orI]
  split <;> simp_all
 ·rfl
theorem QM0 (a b c : Int) : orI [a, b, c] = or3 a (or3 b c) := by
 unfold or3
 simp only [orI]
 split
 ·split
  ·split <;> simp_all
  ·rfl
 ·rfl
theorem QKO : Cmp QBF := by
 have h := Cmp.inj (Cmp.lex QDl QDl) (k := fun (x : SP) => (wyB x.up, x.tows)) (fun x y h => by
  obtain ⟨u, n⟩ := x;obtain ⟨v, m⟩ := y
  injection h with h1 h2
  cases u <;> cases v <;> simp_all [wyB])
 have e : QBF = fun x y => or3 (cmpI (wyB x.up) (wyB y.up)) (cmpI x.tows y.tows) := by
  funext x y
  exact QM1 _ _
 rw [e]
 exact h
theorem QIE : ∀ x y, cmpL x y = QBb QBF x y
 | [], [] => rfl
 | [], _ :: _ => rfl
 | _ :: _, [] => rfl
 | a :: x, b :: y => by
  show (if QBF a b = 0 then cmpL x y else QBF a b) = or3 (QBF a b) (QBb QBF x y)
  rw [QIE x y]
  rfl
/-- the order of drafts' keys -/
def keyD (d : Dr) : Int × Int × List SP := (d.s.cost, d.s.mv, d.plan)
def cmpK (x y : Int × Int × List SP) : Int := or3 (cmpI x.1 y.1) (or3 (cmpI x.2.1 y.2.1) (QBb QBF x.2.2 y.2.2))
theorem QBv : Cmp cmpK := Cmp.lex QDl (Cmp.lex QDl (Cmp.list QKO))
theorem QAX (d e : Dr) : cmpD d e = cmpK (keyD d) (keyD e) := by
 unfold cmpD
 rw [QM0, QIE]
 rfl
def leD (d e : Dr) : Prop := cmpD d e ≤ 0
theorem QAr (d : Dr) : leD d d := by
 unfold leD
 rw [QAX, QBv.self]
 exact Int.le_refl _
theorem Y3 {a b c : Dr} (h : leD a b) (k : leD b c) : leD a c := by
 unfold leD at *
 rw [QAX] at *
 exact QBv.trans _ _ _ h k
theorem QIo {a b : Dr} (h : ¬leD a b) : leD b a := by
 unfold leD at *
 rw [QAX] at *;have := QBv.anti (keyD a) (keyD b)
 omega
theorem QJy {a b : Dr} : cmpD a b < 0 ↔ ¬leD b a := by
 unfold leD
 rw [QAX, QAX];have := QBv.anti (keyD a) (keyD b)
 omega
theorem QMf {a b : Dr} (h : leD a b) (k : leD b a) : keyD a = keyD b := by
 unfold leD at *
 rw [QAX] at *;have := QBv.anti (keyD a) (keyD b)
 exact QBv.eq _ _ (by omega)
/-! ### Heaps -/
def parN (k : Nat) : Nat := (k - 1) / 2
def swF {α : Type} (g : Nat → α) (i j : Nat) : Nat → α := fun k => if k = i then g j else if k = j then g i else g k
def YN (n : Nat) (g : Nat → Dr) : Prop := ∀ k, 0 < k → k < n → leD (g (parN k)) (g k)
/-- a heap but for the place j, which may be too low in it -/
def UpI (n : Nat) (g : Nat → Dr) (j : Nat) : Prop := (∀ k, 0 < k → k < n → k ≠ j → leD (g (parN k)) (g k)) ∧ (0 < j → ∀ k, 0 < k → k < n → parN k = j → leD (g (parN j)) (g k))
/-- a heap but for the place i, which may be too high in it -/
def DnI (n : Nat) (g : Nat → Dr) (i : Nat) : Prop := (∀ k, 0 < k → k < n → parN k ≠ i → leD (g (parN k)) (g k)) ∧ (0 < i → ∀ k, 0 < k → k < n → parN k = i → leD (g (parN i)) (g k))
theorem YN.top {n : Nat} {g : Nat → Dr} (h : YN n g) : ∀ k, k < n → leD (g 0) (g k) := fun k => by
 induction k using Nat.strongRecOn with
 | ind k ih =>
  intro hk
  by_cases h0 : k = 0
  ·subst h0
   exact QAr _
  ·exact Y3 (ih (parN k) (by unfold parN; omega) (by unfold parN; omega)) (h k (by omega) hk)
theorem UpI.done {n j : Nat} {g : Nat → Dr} (h : UpI n g j) (hd : j = 0 ∨ leD (g (parN j)) (g j)) : YN n g := fun k h0 hk => by
 by_cases e : k = j
 ·subst e
  rcases hd with rfl | hd
  ·omega
  ·exact hd
 ·exact h.1 k h0 hk e
theorem UpI.start {n : Nat} {g : Nat → Dr} (h : YN n g) : UpI (n + 1) g n :=
 ⟨fun k h0 hk e => h k h0 (by omega), fun h0 k h1 h2 e => by unfold parN at e; omega⟩
theorem UpI.step {n j : Nat} {g : Nat → Dr} (h : UpI n g j) (h0 : 0 < j) (hj : j < n) (hl : leD (g j) (g (parN j))) : UpI n (swF g (parN j) j) (parN j) := by
 refine ⟨fun k k0 kn e => ?_, fun p0 k k0 kn e => ?_⟩
 ·by_cases e1 : k = j
  ·subst e1
   simp only [swF, if_pos trivial]
   rw [if_neg (by unfold parN; omega)]
   exact hl
  ·by_cases e2 : parN k = parN j
   ·simp only [swF, e2, if_pos trivial, if_neg e, if_neg e1]
    have := h.1 k k0 kn e1;rw [e2] at this
    exact Y3 hl this
   ·by_cases e3 : parN k = j
    ·simp only [swF, if_neg e, if_neg e1]
     rw [if_neg e2, if_pos e3]
     exact h.2 h0 k k0 kn e3
    ·simp only [swF, if_neg e, if_neg e1, if_neg e2, if_neg e3]
     exact h.1 k k0 kn e1
 ·have hp := h.1 (parN j) p0 (by unfold parN at *; omega) (by unfold parN at *; omega)
  have hz : swF g (parN j) j (parN (parN j)) = g (parN (parN j)) := by
   unfold swF
   rw [if_neg (by unfold parN at *; omega), if_neg (by unfold parN at *; omega)]
  rw [hz]
  by_cases e1 : k = j
  ·subst e1
   simp only [swF, if_pos trivial]
   rw [if_neg (by unfold parN; omega)]
   exact hp
  ·simp only [swF]
   rw [if_neg (by unfold parN at *; omega), if_neg e1]
   have := h.1 k k0 kn e1;rw [e] at this
   exact Y3 hp this
theorem DnI.done {n i : Nat} {g : Nat → Dr} (h : DnI n g i) (hd : ∀ k, 0 < k → k < n → parN k = i → leD (g i) (g k)) : YN n g := fun k h0 hk => by
 by_cases e : parN k = i
 ·rw [e]
  exact hd k h0 hk e
 ·exact h.1 k h0 hk e
theorem DnI.start {n : Nat} {g g' : Nat → Dr} (h : YN (n + 1) g) (hg : ∀ k, 0 < k → k < n → g' k = g k) : DnI n g' 0 :=
 ⟨fun k h0 hk e => by rw [hg k h0 hk, hg (parN k) (by omega) (by unfold parN; omega)]; exact h k h0 (by omega), fun h0 => by omega⟩
theorem DnI.step {n i j : Nat} {g : Nat → Dr} (h : DnI n g i) (h0 : 0 < j) (hj : j < n) (hp : parN j = i) (hl : leD (g j) (g i)) (hs : ∀ k, 0 < k → k < n → parN k = i → leD (g j) (g k)) : DnI n (swF g i j) j := by
 subst hp;refine ⟨fun k k0 kn e => ?_, fun _ k k0 kn e => ?_⟩
 ·by_cases e1 : k = j
  ·subst e1
   simp only [swF, if_pos trivial]
   rw [if_neg (by unfold parN; omega)]
   exact hl
  ·by_cases e2 : parN k = parN j
   ·simp only [swF, e2, if_pos trivial]
    rw [if_neg (by unfold parN at *; omega), if_neg e1]
    exact hs k k0 kn e2
   ·by_cases e4 : k = parN j
    ·subst e4
     simp only [swF, if_pos trivial]
     rw [if_neg e2, if_neg e]
     exact h.2 k0 j h0 hj rfl
    ·simp only [swF]
     rw [if_neg e2, if_neg e, if_neg e4, if_neg e1]
     exact h.1 k k0 kn e2
 ·have hz : swF g (parN j) j (parN j) = g j := by simp only [swF, if_pos trivial]
  rw [hz];have hk : swF g (parN j) j k = g k := by
   unfold swF
   rw [if_neg (by unfold parN at *; omega), if_neg (by unfold parN at *; omega)]
  rw [hk];have := h.1 k k0 kn (by unfold parN at *; omega)
  rw [e] at this
  exact this
theorem QBn {w : World} {g T base : Nat} (size : Nat) (h : Blk w g T #[]) (hb : base ≤ g) : w.ownsRow base T size (.slice (some ⟨g, 0, none⟩) 0 0) 0 [] :=
 ⟨by simp, .inr ⟨g, 0, #[], rfl, hb, h, Nat.le_refl _, Nat.zero_le _, by simp, by simp⟩⟩
section
variable {P : Program} {w : World}
theorem QJS {t e : TypeId} {size bytes base B m ty g : Nat} (E : Elem P t e size bytes) {src : Value} {news : List Value} (hq : Blk w g e #[]) (hg : base ≤ g) (hr : Rd w B size src m news) (h1 : ∀ u ∈ news, u.oneCell' = true) (hm : m ≤ 1048576) (hby : bytes ≤ 1048576) (hbase : base ≤ w.heap.size) :
  ∃ v' w', (Builtin.append_ #[t, t] ty #[.slice (some ⟨g, 0, none⟩) 0 0, src]).run P w = .ok v' w' ∧ w'.ownsRow base e size v' m news ∧ Below w.heap.size w w' := by
 have hown := QBn (base := base) size hq hg;obtain ⟨v', w', h2, h3, h4, h5, _⟩ := QCT (ty := ty) E hown hr h1 (by omega) hby hbase
 rw [Nat.zero_add, List.nil_append] at h3;refine ⟨v', w', h2, h3, ?_⟩;have key : w'.heap[g]? = w.heap[g]? := by
  obtain ⟨i, z, hi, hz, hsize, hb, hzs⟩ := E.hi;obtain ⟨hl, A, c, rfl, hnc, hr⟩ := hr
  rcases Nat.eq_zero_or_pos m with hm0 | hm0
  ·subst hm0
   have hn : news = [] := List.eq_nil_of_length_eq_zero (by simpa using hl)
   subst hn
   rcases A with _ | ad
   ·have h6 := QAZ (P := P) w base t ty e i size E.ht hi _ 0 [] hown c
    rw [h2] at h6
    injection h6 with _ h6
    rw [h6]
   ·have h6 := run_append_room (P := P) w t ty e i E.ht hi g 0 0 #[] hq ad 0 c [] (by simp) (by simp) (by simp) (by simp) (by simp)
    rw [h2] at h6
    injection h6 with _ h6
    have h7 := QA5 (ds := (List.take (0 * i.size) (#[] : Array Value).toList ++ [] ++ List.drop (0 * i.size + ([] : List Value).length) (#[] : Array Value).toList).toArray) hq;rw [← h6] at h7
    unfold Blk at h7 hq
    rw [h7, hq]
    simp
  ·obtain ⟨b, off, rfl, _, hc⟩ := hr hm0
   have hmul : m * i.bytes ≤ 1048576 * i.bytes := Nat.mul_le_mul_right _ hm;have h6 := run_append_grow (P := P) w t ty e i z E.ht hi hz ⟨g, 0, none⟩ 0 0 [] (by simp) (by simp) ⟨b, off, none⟩ m c news (by rw [hsize]; exact hl) (fun j u hu => by rw [Addr.add_lit]; exact hc j u hu) (by omega) (by omega) (by rw [Nat.zero_add, nextslicecap_zero hm0]; omega)
   rw [h2] at h6
   injection h6 with _ h6
   rw [h6];have hlt := hq.lt
   simp only [World.alloc, World.drew]
   rw [Array.getElem?_push_lt hlt, Array.getElem?_eq_getElem hlt]
 exact ⟨h4.os, h4.tape, h4.output, h4.size, fun k hk => by
  by_cases e : k = g
  ·subst e; exact key
  ·exact h4.block k hk (fun h => e (by simpa [Value.ownBlock] using h))⟩
end
section
variable {P : Program} {n : Nat} {σ : Sg} {L : List Oper} {cls : List (List Nat)} {alc : List Nat} {val : Nat → Value} {a : Act} {w1 : World} {i : Nat} {Q : Exit → Act → World → Prop}
end
/-- a world of which some blocks are turned -/
structure Touch (w w1 : World) (gs : List Nat) : Prop where
 os : w1.os = w.os
 tape : w1.tape = w.tape
 output : w1.output = w.output
 size : w.heap.size ≤ w1.heap.size
 block : ∀ k, k < w.heap.size → k ∉ gs → w1.heap[k]? = w.heap[k]?
section
variable {w w1 w2 : World} {gs : List Nat} {g T : Nat} {cs : Array Value}
theorem Touch.start (w : World) (gs : List Nat) : Touch w { w with drawn := w.drawn + 1 } gs := ⟨rfl, rfl, rfl, Nat.le_refl _, fun _ _ _ => rfl⟩
theorem Touch.below (h : Touch w w1 gs) (hb : Below w1.heap.size w1 w2) : Touch w w2 gs :=
 ⟨hb.os.trans h.os, hb.tape.trans h.tape, hb.output.trans h.output, Nat.le_trans h.size hb.size, fun k hk hn => (hb.block k (Nat.lt_of_lt_of_le hk h.size)).trans (h.block k hk hn)⟩
theorem Touch.grown (h : Touch w w1 gs) (hg : w1.grownBy w2 (some g)) (hm : g ∈ gs) : Touch w w2 gs :=
 ⟨hg.os.trans h.os, hg.tape.trans h.tape, hg.output.trans h.output, Nat.le_trans h.size hg.size, fun k hk hn => (hg.block k (Nat.lt_of_lt_of_le hk h.size) (fun e => hn (by injection e with e; rw [e]; exact hm))).trans (h.block k hk hn)⟩
theorem Touch.anchor (h : Touch w w1 gs) {w0 : World} (ha : Below w0.heap.size w0 w) (hle : ∀ g ∈ gs, w0.heap.size ≤ g) : Below w0.heap.size w0 w1 :=
 ⟨h.os.trans ha.os, h.tape.trans ha.tape, h.output.trans ha.output, Nat.le_trans ha.size h.size, fun k hk => (h.block k (Nat.lt_of_lt_of_le hk ha.size) (fun hm => by have := hle k hm; omega)).trans (ha.block k hk)⟩
theorem Blk.touch (hq : Blk w g T cs) (h : Touch w w1 gs) (hn : g ∉ gs) : Blk w1 g T cs := (h.block g hq.lt hn).trans hq
end
abbrev FR (ro : Option Nat) : Fence := { Fence.wide with round := ro }
theorem QBY (ro : Option Nat) (n : Nat) : (FR ro).depth.isSome = true → 1 ≤ n := fun h => by cases h
theorem QCG {ro : Option Nat} {n : Nat} {P : Program} {f : FuncId} {args : Array Value} {w : World} {R : Ending → World → Prop} (h : Calls P f args w R) : CallsIn (FR ro) n P f args w R :=
 (callsIn_wide (n := n)).2 h
theorem QDy {ro : Option Nat} {m n l : Nat} {P : Program} {f : FuncId} {tmps : Array Value} {assign body : Code} {w : World} {R : Ending → World → Prop} (h : RoundIn Fence.wide m P l f tmps assign body w R) : RoundIn (FR ro) n P l f tmps assign body w R :=
 ⟨h.1, fun c cs _ => h.2 c cs (room_wide _)⟩
/-- a frame with deferred calls ds -/
structure EnvG (n : Nat) (ds : List Deferred) (σ : Sg) (a : Act) : Prop where
 env : Env n σ ⟨a.tmps, []⟩
 ds : a.defers = ds
section
variable {n : Nat} {ds : List Deferred} {σ τ : Sg} {a : Act}
theorem Env.g (h : Env n σ a) : EnvG n [] σ a := ⟨⟨h.size, rfl, h.get⟩, h.defers⟩
theorem EnvG.e (h : EnvG n [] σ a) : Env n σ a := ⟨h.env.size, h.ds, h.env.get⟩
theorem QAw (a : Act) : (⟨a.tmps, []⟩ : Act).eval = a.eval := by
 funext x
 cases x <;> rfl
theorem EnvG.eval (h : EnvG n ds σ a) {x : Operand} {v : Value} (hx : evS σ x = some v) : a.eval x = v := by
 rw [← QAw]
 exact h.env.eval hx
theorem EnvG.put (h : EnvG n ds σ a) {d : Nat} (hd : Nat.blt d n = true) (v : Value) : EnvG n ds (ins σ d v) (a.put (some d) v) :=
 ⟨h.env.put hd v, h.ds⟩
theorem EnvG.sub (h : EnvG n ds σ a) (hs : Sub τ σ) : EnvG n ds τ a := ⟨h.env.sub hs, h.ds⟩
end
def ELI (ro : Option Nat) (k : Nat) (P : Program) (n : Nat) (ds : List Deferred) (L : List Oper) (Q : Exit → Act → World → Prop) (rest : List Oper) (σ : Sg) (w : World) : Prop := ∀ a, EnvG n ds σ a → wpListIn (FR ro) k P L.toArray Q rest a w
def ECI (ro : Option Nat) (k : Nat) (P : Program) (n : Nat) (ds : List Deferred) (c : Code) (Q : Exit → Act → World → Prop) (σ : Sg) (w : World) : Prop := ∀ a, EnvG n ds σ a → c.wpIn (FR ro) k P Q a w
def EXI (n : Nat) (ds : List Deferred) (Q : Exit → Act → World → Prop) (e : Exit) (σ : Sg) (w : World) : Prop := ∀ a, EnvG n ds σ a → Q e a w
section
variable {ro : Option Nat} {k : Nat} {P : Program} {n : Nat} {ds : List Deferred} {σ τ : Sg} {w : World} {Q : Exit → Act → World → Prop} {L : List Oper} {rest : List Oper}
theorem QBO {o : Oper} (h : ∀ c, o.op ≠ .defer c) (ρ : Operand → Value) : o.semAt (FR ro).round ρ = execOp ρ o := Oper.semAt_eq _ _ _ h
/-- an operation that yields a value is no defer -/
theorem QCb {o : Oper} {ρ : Operand → Value} {w' : World} {r : Next} (hr : (execOp ρ o).run P w = .ok r w') (hn : ∀ d, r ≠ .defer d) : ∀ c, o.op ≠ .defer c := fun c h => by
 unfold execOp at hr
 simp only [h, Sem.run_bind] at hr
 cases he : (resolve ρ c o.type).run P w with
 | ok d w2 =>
  rw [he] at hr
  simp only [Result.andThen_ok, Sem.run_pure] at hr
  injection hr with h1 _
  exact hn d h1.symm
 | halt x w2 => rw [he] at hr; cases hr
theorem QCJ {o : Oper} {a : Act} (hg : Region.wanted o (yielded L.toArray a.tmps) = true) {v : Value} {w' : World} (hr : (execOp a.eval o).run P w = .ok (.value v) w') (hk : wpListIn (FR ro) k P L.toArray Q rest (a.put o.dst v) w') : wpListIn (FR ro) k P L.toArray Q (o :: rest) a w := by
 unfold wpListIn
 rw [if_pos hg];refine ⟨fun _ _ => trivial, ?_⟩
 rw [QBO (QCb hr (fun d h => by cases h)), hr]
 exact hk
theorem QGx {o : Oper} {a : Act} (hg : Region.wanted o (yielded L.toArray a.tmps) = true) {w' : World} (hr : (execOp a.eval o).run P w = .ok .skip w') (hk : wpListIn (FR ro) k P L.toArray Q rest (a.put o.dst undef) w') : wpListIn (FR ro) k P L.toArray Q (o :: rest) a w := by
 unfold wpListIn
 rw [if_pos hg];refine ⟨fun _ _ => trivial, ?_⟩
 rw [QBO (QCb hr (fun d h => by cases h)), hr]
 exact hk
theorem QC1 {a : Act} (ha : EnvG n ds σ a) {j : Nat} {t : Tmp} {v : Value} (hj : ZS L j = some t) (ht : σ t = some v) : yielded L.toArray a.tmps j = match v with | .bool b => some b | _ => none :=
 Y9 ha.env hj ht
theorem ELI.nil (h : EXI n ds Q .normal σ w) : ELI ro k P n ds L Q [] σ w := fun a ha => wpListIn_nil (h a ha)
theorem ELI.val {d ty : Nat} {op : Op} {pos : String} {af : Array Edge} {v : Value} (h : ZI P n σ w ⟨some d, op, ty, pos, af, none⟩ v) (hd : Nat.blt d n = true) (next : ELI ro k P n ds L Q rest (ins σ d v) w) : ELI ro k P n ds L Q (⟨some d, op, ty, pos, af, none⟩ :: rest) σ w :=
 fun a ha => QCJ (ZU rfl _) (by rw [← QAw]; exact h _ ha.env) (next _ (ha.put hd v))
theorem ELI.valg {d ty j t : Nat} {b : Bool} {op : Op} {pos : String} {af : Array Edge} {v : Value} (hj : ZS L j = some t) (ht : σ t = some (.bool b)) (h : ZI P n σ w ⟨some d, op, ty, pos, af, some (j, b)⟩ v) (hd : Nat.blt d n = true) (next : ELI ro k P n ds L Q rest (ins σ d v) w) : ELI ro k P n ds L Q (⟨some d, op, ty, pos, af, some (j, b)⟩ :: rest) σ w :=
 fun a ha => QCJ (by simp [Region.wanted, QC1 ha hj ht]) (by rw [← QAw]; exact h _ ha.env) (next _ (ha.put hd v))
theorem ELI.turn {d ty : Nat} {op : Op} {pos : String} {af : Array Edge} (v : Value) (w' : World) (h : ∀ a, Env n σ a → (execOp a.eval ⟨some d, op, ty, pos, af, none⟩).run P w = .ok (.value v) w') (hd : Nat.blt d n = true) (next : ELI ro k P n ds L Q rest (ins σ d v) w') : ELI ro k P n ds L Q (⟨some d, op, ty, pos, af, none⟩ :: rest) σ w :=
 fun a ha => QCJ (ZU rfl _) (by rw [← QAw]; exact h _ ha.env) (next _ (ha.put hd v))
theorem ELI.call {d ty : Nat} {op : Op} {pos : String} {af : Array Edge} {f : FuncId} {args : Array Value} {R : Ending → World → Prop} (hr : ∀ a, Env n σ a → (execOp a.eval ⟨some d, op, ty, pos, af, none⟩).run P w = .ok (.enter f args) w) (hd : Nat.blt d n = true) (hc : Calls P f args w R)
  (next : ∀ e w', R e w' → ∃ v, e = .returned v ∧ ELI ro k P n ds L Q rest (ins σ d v) w') : ELI ro k P n ds L Q (⟨some d, op, ty, pos, af, none⟩ :: rest) σ w := fun a ha => by
 have hr' := hr _ ha.env;rw [QAw] at hr'
 unfold wpListIn
 rw [if_pos (ZU rfl _)];refine ⟨fun _ _ => trivial, ?_⟩
 rw [QBO (QCb hr' (fun d h => by cases h)), hr']
 refine ⟨QBY _ _, CallsIn.mono (QCG hc) fun e w' he => ?_⟩
 obtain ⟨v, rfl, hv⟩ := next e w' he
 exact hv _ (ha.put hd v)
/-- a call of yield: a round -/
theorem ELI.yield {d ty l : Nat} {x y : Operand} {at' : Array TypeId} {pos : String} {af : Array Edge} {v : Value} {R : Ending → World → Prop} {fn : FuncId} {tmps : Array Value} {assign body : Code} (hx : evS σ x = some (.func (.yield l) #[] #[])) (hy : evS σ y = some v) (hd : Nat.blt d n = true) (hi : (Instr.yield l #[v]).run P w = .ok (.round l fn tmps assign body) w) (hR : RoundIn Fence.wide 0 P l fn tmps assign body w R)
  (next : ∀ e w', R e w' → ∃ v, e = .returned v ∧ ELI ro k P n ds L Q rest (ins σ d v) w') : ELI ro k P n ds L Q (⟨some d, .call { callee := .value x, args := #[y], argTypes := at' }, ty, pos, af, none⟩ :: rest) σ w := fun a ha => by
 have hr' : (execOp a.eval ⟨some d, .call { callee := .value x, args := #[y], argTypes := at' }, ty, pos, af, none⟩).run P w = .ok (.round l fn tmps assign body) w := by
  simp only [execOp, resolve, List.map_toArray, List.map_cons, List.map_nil, ha.eval hx, ha.eval hy]
  simp [go_sem, Deferred.ofValue, hi]
 unfold wpListIn
 rw [if_pos (ZU rfl _)];refine ⟨fun _ _ => trivial, ?_⟩
 rw [QBO (QCb hr' (fun d h => by cases h)), hr']
 refine ⟨QBY _ _, RoundIn.mono (QDy hR) fun e w' he => ?_⟩
 obtain ⟨v, rfl, hv⟩ := next e w' he
 exact hv _ (ha.put hd v)
theorem ELI.newP {d ty : Nat} {op : Op} {pos : String} {af : Array Edge} {cs : Array Value} {T : TypeId} (h : ∀ a, Env n σ a → (execOp a.eval ⟨some d, op, ty, pos, af, none⟩).run P w = .ok (.value (.pointer (some ⟨w.heap.size, 0, none⟩))) (w.alloc (.cells cs T))) (hd : Nat.blt d n = true)
  (next : ∀ g w', Blk w' g T cs → Below w.heap.size w w' → w.heap.size ≤ g → w.heap.size < w'.heap.size → ELI ro k P n ds L Q rest (ins σ d (.pointer (some ⟨g, 0, none⟩))) w') : ELI ro k P n ds L Q (⟨some d, op, ty, pos, af, none⟩ :: rest) σ w :=
 ELI.turn _ _ h hd (next _ _ (Blk.new w T cs) ((Below.refl _ _).alloc (Nat.le_refl _) _) (Nat.le_refl _) (by simp))
theorem ELI.newS {d ty m c : Nat} {op : Op} {pos : String} {af : Array Edge} {cs : Array Value} {T : TypeId} (h : ∀ a, Env n σ a → (execOp a.eval ⟨some d, op, ty, pos, af, none⟩).run P w = .ok (.value (.slice (some ⟨w.heap.size, 0, none⟩) m c)) (w.alloc (.cells cs T))) (hd : Nat.blt d n = true)
  (next : ∀ g w', Blk w' g T cs → Below w.heap.size w w' → w.heap.size ≤ g → w.heap.size < w'.heap.size → ELI ro k P n ds L Q rest (ins σ d (.slice (some ⟨g, 0, none⟩) m c)) w') : ELI ro k P n ds L Q (⟨some d, op, ty, pos, af, none⟩ :: rest) σ w :=
 ELI.turn _ _ h hd (next _ _ (Blk.new w T cs) ((Below.refl _ _).alloc (Nat.le_refl _) _) (Nat.le_refl _) (by simp))
theorem ELI.store {ty t T g o z : Nat} {x y : Operand} {pos : String} {af : Array Edge} {l l' : List Value} {v : Value} (hx : evS σ x = some (.pointer (some ⟨g, o, none⟩))) (hy : evS σ y = some v) (hb : Blk w g T l.toArray) (hs : (P.info? t).map (·.size) = some z) (hv : v.cells.toList = l') (hk : lenV l' = z) (ho : Nat.ble (o + z) (lenV l) = true) (h1 : QA_ l' = true)
  (next : ∀ w', Blk w' g T (spl l o l').toArray → w.grownBy w' (some g) → KeepsOthers w w' → ELI ro k P n ds L Q rest σ w') : ELI ro k P n ds L Q (⟨none, .store t x y, ty, pos, af, none⟩ :: rest) σ w := fun a ha => by
 have hr : (execOp a.eval ⟨none, .store t x y, ty, pos, af, none⟩).run P w = .ok .skip (w.setRow g (spl l o l').toArray) := by
  simp only [execOp, ha.eval hx, ha.eval hy, Sem.run_bind, QBP hs hb hv hk ho h1, Result.andThen_ok]
  rfl
 refine QGx (ZU rfl _) hr (next _ (QA5 hb) (Ys _ _ _) ⟨(Ys w g _).size, fun j ob hj hc => ?_⟩ a ha)
 by_cases e : j = g
 ·subst e
  unfold Blk at hb
  rw [hb] at hj
  injection hj with hj
  subst hj
  cases hc
 ·exact ((Ys w g (spl l o l').toArray).block j (Array.getElem?_eq_some_iff.1 hj).1 (fun h => e (Option.some.inj h))).trans hj
theorem QDF {A B : World} (h : Below A.heap.size A B) : KeepsOthers A B := ⟨h.size, fun k _ hk _ => (h.block k (Array.getElem?_eq_some_iff.1 hk).1).trans hk⟩
theorem QIp {w w' : World} {base e size n : Nat} {v : Value} {xs : List Value} (h : w.ownsRow base e size v n xs) (hg : w.grownBy w' v.ownBlock) : KeepsOthers w w' := ⟨hg.size, fun j o hj hc => by
 refine (hg.block j (Array.getElem?_eq_some_iff.1 hj).1 fun e1 => ?_).trans hj
 obtain ⟨_, ⟨rfl, _⟩ | ⟨g, cap, cur, rfl, _, hk, _⟩⟩ := h
 ·cases e1
 ·have e2 : j = g := by simpa [Value.ownBlock] using e1
  subst e2;rw [hk] at hj
  injection hj with hj
  subst hj
  cases hc⟩
theorem ELI.push {d ty t e size bytes base B m c : Nat} {s x : Operand} {pos : String} {af : Array Edge} (E : Elem P t e size bytes) {v src : Value} {xs news : List Value} (hs : evS σ s = some v) (hx : evS σ x = some src) (hown : w.ownsRow base e size v c xs) (hr : Rd w B size src m news) (h1 : ∀ u ∈ news, u.oneCell' = true) (hm : c + m ≤ 1048576) (hby : Nat.ble bytes 1048576 = true) (hbase : base ≤ w.heap.size) (hd : Nat.blt d n = true)
  (next : ∀ v' w', w'.ownsRow base e size v' (c + m) (xs ++ news) → w.grownBy w' v.ownBlock → Below base w w' → KeepsOthers w w' → ELI ro k P n ds L Q rest (ins σ d v') w') : ELI ro k P n ds L Q (⟨some d, .call { callee := .builtin .append, args := #[s, x], argTypes := #[t, t] }, ty, pos, af, none⟩ :: rest) σ w := fun a ha => by
 obtain ⟨v', w', h2, h3, h4, h5, h6⟩ := QCT (P := P) (ty := ty) E hown hr h1 hm (by simpa [Nat.ble_eq] using hby) hbase
 exact QCJ (ZU rfl _) (YQ rfl (ha.eval hs) (ha.eval hx) h2) (next v' w' h3 h4 h5 (QIp hown h4) _ (ha.put hd v'))
/-! ### Code -/
theorem ECI.sub {c : Code} (h : ECI ro k P n ds c Q τ w) (hs : Sub τ σ) : ECI ro k P n ds c Q σ w := fun a ha => h a (ha.sub hs)
theorem ECI.seq {x y : Code} (h : ECI ro k P n ds x (Exit.then (y.wpIn (FR ro) k P Q) Q) σ w) : ECI ro k P n ds (.seq x y) Q σ w := fun a ha => wpIn_seq (h a ha)
theorem ECI.region {id : Nat} {l : List Oper} (h : ELI ro k P n ds l Q l σ w) : ECI ro k P n ds (.region id l.toArray false) Q σ w := fun a ha => wpIn_region_lit (h a ha)
theorem ECI.block {id : Nat} {c : Code} (h : ECI ro k P n ds c (Exit.inBlock id Q) σ w) : ECI ro k P n ds (.block id c) Q σ w := fun a ha => wpIn_block (h a ha)
theorem ECI.skip (h : EXI n ds Q .normal σ w) : ECI ro k P n ds .skip Q σ w := fun a ha => wpIn_skip (h a ha)
theorem ECI.exit {id : Nat} (h : EXI n ds Q (.exit id) σ w) : ECI ro k P n ds (.exit id) Q σ w := fun a ha => wpIn_exit (h a ha)
theorem ECI.ret (h : EXI n ds Q .ret σ w) : ECI ro k P n ds .ret Q σ w := fun a ha => wpIn_ret (h a ha)
theorem ECI.yes {c : Operand} {x y : Code} (hc : evS σ c = some (.bool true)) (h : ECI ro k P n ds x Q σ w) : ECI ro k P n ds (.cond c x y) Q σ w := fun a ha => wpIn_cond_true (ha.eval hc) (h a ha)
theorem ECI.no {c : Operand} {x y : Code} (hc : evS σ c = some (.bool false)) (h : ECI ro k P n ds y Q σ w) : ECI ro k P n ds (.cond c x y) Q σ w := fun a ha => wpIn_cond_false (ha.eval hc) (h a ha)
/-- code of a function is code of a round of none -/
theorem EC.inn {c : Code} (h : ECI none k P n [] c Q σ w) : EC P n c Q σ w := fun a ha => wpIn_wide.1 (h a ha.g)
theorem ECI.out {c : Code} (h : EC P n c Q σ w) : ECI none k P n [] c Q σ w := fun a ha => wpIn_wide.2 (h a ha.e)
/-! ### Exits -/
theorem EXI.seq {y : Code} (h : ECI ro k P n ds y Q σ w) : EXI n ds (Exit.then (y.wpIn (FR ro) k P Q) Q) .normal σ w := h
theorem EXI.seq_exit {K : Act → World → Prop} {i : Nat} (h : EXI n ds Q (.exit i) σ w) : EXI n ds (Exit.then K Q) (.exit i) σ w := h
theorem EXI.seq_ret {K : Act → World → Prop} (h : EXI n ds Q .ret σ w) : EXI n ds (Exit.then K Q) .ret σ w := h
theorem EXI.blk {id : Nat} (h : EXI n ds Q .normal σ w) : EXI n ds (Exit.inBlock id Q) .normal σ w := h
theorem EXI.blk_ret {id : Nat} (h : EXI n ds Q .ret σ w) : EXI n ds (Exit.inBlock id Q) .ret σ w := h
theorem EXI.blk_here {id : Nat} (h : EXI n ds Q .normal σ w) : EXI n ds (Exit.inBlock id Q) (.exit id) σ w := fun a ha => by
 simp only [Exit.inBlock, if_true]
 exact h a ha
theorem EXI.blk_other {id i : Nat} (hi : Nat.beq i id = false) (h : EXI n ds Q (.exit i) σ w) : EXI n ds (Exit.inBlock id Q) (.exit i) σ w := fun a ha => by
 simp only [Exit.inBlock, if_neg (Nat.ne_of_beq_eq_false hi)]
 exact h a ha
end
/-! ### What a body leaves as it was -/
structure Kp (n0 : Nat) (S : List Nat) (W W' : World) : Prop where
 os : W'.os = W.os
 tape : W'.tape = W.tape
 output : W'.output = W.output
 size : W.heap.size ≤ W'.heap.size
 low : ∀ k, k < n0 → W'.heap[k]? = W.heap[k]?
 blk : ∀ g T cs, Blk W g T cs → memB S T = false → Blk W' g T cs
section
variable {n0 : Nat} {S : List Nat} {A B C : World}
theorem Kp.refl (n0 : Nat) (S : List Nat) (W : World) : Kp n0 S W W := ⟨rfl, rfl, rfl, Nat.le_refl _, fun _ _ => rfl, fun _ _ _ h _ => h⟩
theorem Kp.trans (h : Kp n0 S A B) (k : Kp n0 S B C) : Kp n0 S A C := ⟨k.os.trans h.os, k.tape.trans h.tape, k.output.trans h.output, Nat.le_trans h.size k.size, fun i hi => (k.low i hi).trans (h.low i hi), fun g T cs hg hT => k.blk g T cs (h.blk g T cs hg hT) hT⟩
theorem Kp.of_below (h : Below A.heap.size A B) (hn : n0 ≤ A.heap.size) : Kp n0 S A B := ⟨h.os, h.tape, h.output, h.size, fun k hk => h.block k (by omega), fun g T cs hg _ => hg.below h hg.lt⟩
theorem Kp.below (h : Kp n0 S A B) : Below n0 A B := ⟨h.os, h.tape, h.output, h.size, h.low⟩
theorem Kp.alloc (W : World) (hn : n0 ≤ W.heap.size) (o : Obj) : Kp n0 S W (W.alloc o) := Kp.of_below ((Below.refl _ _).alloc (Nat.le_refl _) _) hn
theorem Kp.putObj {W : World} {l : Nat} {o : Obj} (o' : Obj) (hl : n0 ≤ l) (ho : W.heap[l]? = some o) (hc : o.isCells = false) : Kp n0 S W (W.putObj l o') :=
 ⟨rfl, rfl, rfl, by simp, fun k hk => World.putObj_heap_other (by omega), fun g T cs hg _ => by
  unfold Blk at hg ⊢
  by_cases e : g = l
  ·subst e
   rw [ho] at hg
   injection hg with hg
   subst hg
   cases hc
  ·exact (World.putObj_heap_other e).trans hg⟩
/-- a store to a block of one of the kinds -/
theorem Kp.grown {w w' : World} {g T : Nat} {cs : Array Value} (hq : Blk w g T cs) (hT : memB S T = true) (hn : n0 ≤ g) (hg : w.grownBy w' (some g)) : Kp n0 S w w' :=
 ⟨hg.os, hg.tape, hg.output, hg.size, fun k hk => by
  by_cases e : k < w.heap.size
  ·exact hg.block k e (fun h => by injection h; omega)
  ·have := hq.lt; omega, fun k T' cs' hk hT' => by
  refine (hg.block k hk.lt fun h => ?_).trans hk
  injection h with h
  subst h
  unfold Blk at hk hq
  rw [hq] at hk
  injection hk with hk
  injection hk with _ h2
  subst h2;rw [hT] at hT'
  cases hT'⟩
theorem Kp.own {w w' : World} {base e size n : Nat} {v : Value} {xs : List Value} (h : w.ownsRow base e size v n xs) (hT : memB S e = true) (hn : n0 ≤ base) (hn2 : n0 ≤ w.heap.size) (hg : w.grownBy w' v.ownBlock) : Kp n0 S w w' := by
 obtain ⟨_, ⟨rfl, _⟩ | ⟨g, cap, cur, rfl, hb, hk, _⟩⟩ := h
 ·exact Kp.of_below ⟨hg.os, hg.tape, hg.output, hg.size, fun k hk => hg.block k hk (by simp [Value.ownBlock])⟩ hn2
 ·exact Kp.grown (cs := cur) hk hT (by omega) hg
theorem Kp.row {w w' : World} {base e size n : Nat} {v : Value} {xs : List Value} (h : Kp n0 S w w') (ho : w.ownsRow base e size v n xs) (hT : memB S e = false) : w'.ownsRow base e size v n xs := by
 obtain ⟨hl, h0 | ⟨g, cap, cur, hv, hb, hk, h1⟩⟩ := ho
 ·exact ⟨hl, .inl h0⟩
 ·exact ⟨hl, .inr ⟨g, cap, cur, hv, hb, h.blk g e cur hk hT, h1⟩⟩
end
/-! ### An iterator that hands lists of integers -/
abbrev It := List Int × Value
def QKc (P : Program) (l : Nat) (args : Array Value) (W : World) (R : Ending → World → Prop) : Prop :=
 ∃ fn tmps assign body, (Instr.yield l args).run P W = .ok (.round l fn tmps assign body) W ∧ RoundIn Fence.wide 0 P l fn tmps assign body W R
section
variable {P : Program} {n : Nat} {ds : List Deferred} {σ : Sg} {w : World} {Q : Exit → Act → World → Prop}
theorem QIA {d : Nat} {a : Act} {v : Value} (h : EnvG n ds σ a) (hd : Nat.blt d n = true) : EnvG n [] (ins σ d v) ⟨(#[d].zip #[v]).foldl (fun t (p, v) => t.setIfInBounds p v) a.tmps, []⟩ := by
 have h1 := (Env.put (a := ⟨a.tmps, []⟩) h.env hd v).g
 simpa [Act.put] using h1
/-! ### Leaving with marks -/
def Z4 (n0 : Nat) (ds : List Deferred) (W : World) : Prop := ∀ d ∈ ds, ∃ D, n0 ≤ D ∧ d = { target := .collected D, args := #[] } ∧ W.heap[D]? = some (.deferred (some []))
/-- what taking the marks does -/
structure Took (n0 : Nat) (w w' : World) : Prop where
 below : Below n0 w w'
 size : w'.heap.size = w.heap.size
 blk : ∀ g T cs, Blk w g T cs → Blk w' g T cs
theorem QCg {fn : Func} {tmps : Array Value} {R : Ending → World → Prop} {n0 k : Nat} : ∀ (ds : List Deferred) (w : World), Z4 n0 ds w → ds.Nodup → (∀ w', Took n0 w w' → ∃ v, (results fn tmps).run P w' = .ok v w' ∧ R (.returned v) w') → LeavesInM Fence.wide k P fn tmps R ds .returning w
 | [], w, _, _, h => h w ⟨Below.refl _ _, rfl, fun _ _ _ h => h⟩
 | d :: ds, w, hm, hd, h => by
  obtain ⟨D, hD, rfl, hw⟩ := hm d (List.mem_cons_self ..);have ho : ∀ j, j ≠ D → (w.putObj D (.deferred none)).heap[j]? = w.heap[j]? := fun j hj => World.putObj_heap_other hj
  refine ⟨by simp, .inl ⟨D, _, rfl, run_takeDeferred hw, QCg (n0 := n0) ds _ (fun d' hd' => ?_) (List.nodup_cons.1 hd).2 fun w' ht => h w' ?_⟩⟩
  ·obtain ⟨D', h1, rfl, h3⟩ := hm d' (List.mem_cons_of_mem _ hd')
   refine ⟨D', h1, rfl, (ho D' fun e => ?_).trans h3⟩
   subst e
   exact (List.nodup_cons.1 hd).1 hd'
  ·have hk : Kp n0 [] w (w.putObj D (.deferred none)) := Kp.putObj _ hD hw rfl
   exact ⟨hk.below.trans ht.below, ht.size.trans (by simp), fun g T cs hg => ht.blk g T cs (hk.blk g T cs hg rfl)⟩
theorem EC.marks {fn : Func} {f : FuncId} {c : Code} {args : List Value} {R : Ending → World → Prop} (n : Nat) (hf : P.funcs[f]? = some fn) (hb : fn.body = some c) (hn : fn.ntmps = n) (hl : Nat.ble args.length n = true) (h : ECI none 0 P n [] c (bodyPostM Fence.wide 0 P fn R) (QEU args 0) w) : Calls P f args.toArray w R := by
 subst hn;refine (callsIn_wide (n := 0)).1 (callsIn_of_wp_marks hf hb trivial ?_);have := h _ (QGi (l := args) (by simpa [Nat.ble_eq] using hl)).g
 simp only [List.size_toArray] at this ⊢
 exact this
theorem EXI.done {fn : Func} {R : Ending → World → Prop} {n0 : Nat} {v : Value} (hm : Z4 n0 ds w) (hd : ds.Nodup) (hr : ∀ w', Took n0 w w' → ∀ a, Env n σ a → (results fn a.tmps).run P w' = .ok v w') (h : ∀ w', Took n0 w w' → R (.returned v) w') : EXI n ds (bodyPostM Fence.wide 0 P fn R) .ret σ w := fun a ha => by
 show LeavesInM Fence.wide 0 P fn a.tmps R a.defers .returning w
 rw [ha.ds]
 exact QCg ds w hm hd fun w' ht => ⟨v, hr w' ht ⟨a.tmps, []⟩ ha.env, h w' ht⟩
end
/-! ### An append to a slice that is full, and only read -/
section
variable {P : Program} {w : World}
theorem QJQ {t e : TypeId} {size bytes base B B' m k ty : Nat} {A : Option Addr} (E : Elem P t e size bytes) {src : Value} {xs news : List Value} (hold : Rd w B' size (.slice A k k) k xs) (hr : Rd w B size src m news) (hm0 : 0 < m) (hm : k + m ≤ 1048576) (hby : bytes ≤ 1048576) (hbase : base ≤ w.heap.size) :
  ∃ v' w', (Builtin.append_ #[t, t] ty #[.slice A k k, src]).run P w = .ok v' w' ∧ w'.ownsRow base e size v' (k + m) (xs ++ news) ∧ Below w.heap.size w w' ∧ v'.ownBlock = some w.heap.size := by
 obtain ⟨i, z, hi, hz, hsize, hb, hzs⟩ := E.hi;subst hsize;obtain ⟨hl, X, c, rfl, hnc, hr⟩ := hr;obtain ⟨b, off, rfl, _, hc⟩ := hr hm0;obtain ⟨hlo, A', c', h8, _, hrd⟩ := hold
 injection h8 with h8 _ _
 subst h8;have hkm : (k + m) * i.bytes ≤ 1048576 * i.bytes := Nat.mul_le_mul_right _ (by omega)
 have hmm : m * i.bytes ≤ 1048576 * i.bytes := Nat.mul_le_mul_right _ (by omega)
 have hlen : (xs ++ news).length = (k + m) * i.size := by rw [List.length_append, hlo, hl, Nat.add_mul]
 have hal : ∀ o, Below w.heap.size w (w.drew.alloc o) := fun o => ⟨rfl, rfl, rfl, by simp, fun j hj => by
  simp only [World.alloc, World.drew]
  rw [Array.getElem?_push_lt hj, Array.getElem?_eq_getElem hj]⟩
 have grown : ∀ old : Nat, (w.drew.alloc (.cells (xs.toArray ++ news.toArray ++ Builtin.zeroCells z.cells (grownCap w (k + m) old e - (k + m))) e)).ownsRow base e i.size (.slice (some ⟨w.heap.size, 0, none⟩) (k + m) (grownCap w (k + m) old e)) (k + m) (xs ++ news) := fun old => by
  have hge := grownCap_ge w (k + m) old e;have hcm : grownCap w (k + m) old e ≤ maxLen := grownCap_le_maxLen w (k + m) old e (by simp only [maxLen]; omega)
  refine ⟨hlen, .inr ⟨w.heap.size, _, _, rfl, hbase, heap_alloc_new w.drew _, hge, hcm, ?_, ?_⟩⟩
  ·simp only [Array.size_append, List.size_toArray, size_zeroCells, hzs, hlo, hl, ← Nat.add_mul]
   congr 1
   omega
  ·simp only [Array.toList_append, List.append_assoc]
   rw [← List.append_assoc, ← hlen]
   exact List.take_left
 rcases A with _ | ad
 ·have hk0 : k = 0 := by
   rcases Nat.eq_zero_or_pos k with h | h
   ·exact h
   ·obtain ⟨_, _, h9, _⟩ := hrd h; cases h9
  subst hk0;have hx : xs = [] := List.eq_nil_of_length_eq_zero (by simpa using hlo)
  subst hx;have h7 := run_append_nil (P := P) w t ty e i z E.ht hi hz ⟨b, off, none⟩ m c news hl (fun j u hu => by rw [Addr.add_lit]; exact hc j u hu) hm0 (by omega) (by omega)
  have hg := grown 0
  simp only [Nat.zero_add, List.nil_append, Array.empty_append] at hg ⊢
  exact ⟨_, _, h7, hg, hal _, rfl⟩
 ·have holds : ∀ j u, xs[j]? = some u → w.cell? (ad.add j) = some u := fun j u hu => by
   rcases Nat.eq_zero_or_pos k with h | h
   ·subst h
    have hx : xs = [] := List.eq_nil_of_length_eq_zero (by simpa using hlo)
    subst hx
    simp at hu
   ·obtain ⟨b', off', h9, _, h10⟩ := hrd h
    injection h9 with h9
    subst h9;rw [Addr.add_lit]
    exact h10 j u hu
  have h7 := run_append_grow (P := P) w t ty e i z E.ht hi hz ad k k xs hlo holds ⟨b, off, none⟩ m c news hl (fun j u hu => by rw [Addr.add_lit]; exact hc j u hu) (by omega) (by omega) (growslice_fits (by omega) (by omega))
  exact ⟨_, _, h7, grown k, hal _, rfl⟩
end
theorem QHf {w : World} {B size n c : Nat} {A : Option Addr} {xs : List Value} (h : Rd w B size (.slice A n c) n xs) : Rd w B size (.slice A n n) n xs := by
 obtain ⟨hl, A', c', h8, _, hrd⟩ := h
 injection h8 with h8 _ _
 subst h8
 exact ⟨hl, A, n, rfl, Nat.le_refl _, hrd⟩
section
variable {P : Program} {n : Nat} {σ : Sg} {L : List Oper} {cls : List (List Nat)} {alc : List Nat} {val : Nat → Value} {a : Act} {w1 : World} {i : Nat} {Q : Exit → Act → World → Prop}
theorem QH6 {Φ : Nat → (Nat → Value) → World → Prop} {d ty t e size bytes base B B' mm k : Nat} {s x : Operand} {pos : String} {af : Array Edge} {A : Option Addr} (E : Elem P t e size bytes) {src : Value} {xs news : List Value} (ha : Env n σ a) (ho : nthO L i = some ⟨some d, .call { callee := .builtin .append, args := #[s, x], argTypes := #[t, t] }, ty, pos, af, none⟩) (hs : evS σ s = some (.slice A k k)) (hx : evS σ x = some src)
  (hold : Rd w1 B' size (.slice A k k) k xs) (hr : Rd w1 B size src mm news) (hm0 : 0 < mm) (hm : k + mm ≤ 1048576) (hby : Nat.ble bytes 1048576 = true) (hbase : base ≤ w1.heap.size) (halc : memB alc i = false)
  (hΦ : ∀ v' w', w'.ownsRow base e size v' (k + mm) (xs ++ news) → v'.ownBlock = some w1.heap.size → Φ i (res (upd val i v') i (clsAt cls i)) w') : wpOp P L.toArray Q i (HK L cls alc Φ i val a w1) a w1 := by
 obtain ⟨v', w', h2, h3, h4, h5⟩ := QJQ (P := P) (ty := ty) (base := base) E hold hr hm0 hm (by simpa [Nat.ble_eq] using hby) hbase
 exact QHE ho rfl (YQ rfl (ha.eval hs) (ha.eval hx) h2) h4 (hΦ v' w' h3 h5) fun h => by rw [ZA.2 h] at halc; cases halc
end
/-- a run that ends as code does -/
theorem EXI.of {n : Nat} {Q : Exit → Act → World → Prop} {e : Exit} {σ : Sg} {w : World} (h : EX n Q e σ w) : EXI n [] Q e σ w := fun a ha => h a ha.e
theorem QDa {k e size n : Nat} {xs : List Value} {base : Nat} {f : Option Addr → Nat → Value} {N : Nat} : Mono fun r w => ∃ A c, r k = f A c ∧ w.ownsRow base e size (.slice A N c) n xs := fun _ _ _ hb ⟨A, c, h1, h2⟩ => ⟨A, c, h1, ZB h2 hb (Nat.le_refl _)⟩
section
variable {P : Program} {n : Nat} {σ : Sg} {w : World} {dst : Option Tmp} {ty t t' : TypeId} {pos : String} {af : Array Edge} {g : Option (Nat × Bool)} {x y : Operand}
end
section
variable {ro : Option Nat} {k : Nat} {P : Program} {n : Nat} {ds : List Deferred} {σ τ : Sg} {w : World} {Q : Exit → Act → World → Prop} {L : List Oper} {rest : List Oper}
theorem ECI.loopD {c : Code} {ι : Type} (dl : List Nat) (vs : ι → List (Nat × Value)) (D : ι → List Deferred) (I : ι → World → Prop) (μ : ι → Nat) (i0 : ι) (h0 : I i0 w) (hs : QCH σ (vs i0)) (hd : ds = D i0)
  (round : ∀ i w, I i w → ECI ro k P n (D i) c (Exit.then (fun a' w' => ∃ i', EnvG n (D i') (insL (del σ dl) (vs i')) a' ∧ I i' w' ∧ μ i' < μ i) Q) (insL (del σ dl) (vs i)) w) : ECI ro k P n ds (.loop c) Q σ w := by
 intro a ha;subst hd;refine wpIn_loop_ghost (fun m a w => ∃ i, EnvG n (D i) (insL (del σ dl) (vs i)) a ∧ I i w ∧ μ i = m) (μ i0) ⟨i0, ha.sub (QAn ((Sub.refl σ).del dl) hs), h0, rfl⟩ fun m a w hI => ?_
 obtain ⟨i, h1, h2, rfl⟩ := hI;refine wpIn_mono (round i w h2 a h1) fun e a' w' hq => ?_
 cases e with
 | normal =>
  obtain ⟨i', h4, h5, h6⟩ := hq
  exact ⟨μ i', h6, i', h4, h5, rfl⟩
 | _ => exact hq
theorem EXI.roundD {ι : Type} {σ0 : Sg} {dl : List Nat} {vs : ι → List (Nat × Value)} {D : ι → List Deferred} {I : ι → World → Prop} {μ : ι → Nat} {i : ι} (i' : ι) (hv : QCH σ (vs i')) (hs : Sub (del σ0 dl) σ) (hd : ds = D i') (hI : I i' w) (hm : μ i' < μ i) : EXI n ds (Exit.then (fun a' w' => ∃ i', EnvG n (D i') (insL (del σ0 dl) (vs i')) a' ∧ I i' w' ∧ μ i' < μ i) Q) .normal σ w :=
 fun _ ha => ⟨i', by subst hd; exact ha.sub (QAn hs hv), hI, hm⟩
end
/-! ### Appends and copies of any length that fits an address space -/
section
variable {P : Program} {w : World}
variable {n : Nat} {σ : Sg} {L : List Oper} {Q : Exit → Act → World → Prop} {rest : List Oper}
end
/-- what is no row, from block b on, is as it was -/
def ZT (b : Nat) (W W' : World) : Prop := ∀ (j : Nat) (o : Obj), b ≤ j → W.heap[j]? = some o → o.isCells = false → W'.heap[j]? = some o
theorem ZT.of {b : Nat} {W W' : World} (h : KeepsOthers W W') : ZT b W W' := fun j o _ hj hc => h.same j o hj hc
theorem ZT.trans {b : Nat} {A B C : World} (h : ZT b A B) (k : ZT b B C) : ZT b A C := fun j o hb hj hc => k j o hb (h j o hb hj hc) hc
theorem ZT.mono {b c : Nat} {A B : World} (h : ZT b A B) (hc : b ≤ c) : ZT c A B := fun j o hb hj h2 => h j o (Nat.le_trans hc hb) hj h2
theorem ZT.refl (b : Nat) (A : World) : ZT b A A := fun _ _ _ h _ => h
theorem ZT.below {b : Nat} {A B : World} (h : Below A.heap.size A B) : ZT b A B := .of (QDF h)
/-- abides what is new, and what turns in blocks of the types U from block b on -/
def QAf (b : Nat) (U : List Nat) (A B : World) : Prop := ∃ row, A.grownBy B row ∧ ∀ g, row = some g → b ≤ g ∧ ∃ T cs, memB U T = true ∧ Blk A g T cs
def QMv (b : Nat) (U : List Nat) (J : List It → World → Prop) : Prop := ∀ s A B, J s A → QAf b U A B → J s B
section
variable {b : Nat} {U : List Nat} {A B : World}
theorem QAf.of_below (h : Below A.heap.size A B) : QAf b U A B := ⟨none, ⟨h.os, h.tape, h.output, h.size, fun k hk _ => h.block k hk⟩, fun _ h => by cases h⟩
theorem QAf.blk {g T : Nat} {cs : Array Value} (h : QAf b U A B) (hq : Blk A g T cs) (hT : memB U T = false) : Blk B g T cs := by
 obtain ⟨row, hg, hr⟩ := h;refine hq.grown hg fun e => ?_
 obtain ⟨_, T', cs', h1, h2⟩ := hr g e.symm
 unfold Blk at hq h2
 rw [hq] at h2
 injection h2 with h2
 injection h2 with _ h3
 rw [← h3, hT] at h1
 cases h1
theorem QAf.row {base e size n : Nat} {v : Value} {xs : List Value} (h : QAf b U A B) (ho : A.ownsRow base e size v n xs) (hT : memB U e = false) : B.ownsRow base e size v n xs := by
 obtain ⟨hl, h0 | ⟨g, cap, cur, hv, hb, hk, h1⟩⟩ := ho
 ·exact ⟨hl, .inl h0⟩
 ·exact ⟨hl, .inr ⟨g, cap, cur, hv, hb, h.blk (cs := cur) hk hT, h1⟩⟩
theorem QAf.other {k : Nat} {o : Obj} (h : QAf b U A B) (hk : A.heap[k]? = some o) (hc : o.isCells = false) : B.heap[k]? = some o := by
 obtain ⟨row, hg, hr⟩ := h;refine (hg.block k (Array.getElem?_eq_some_iff.1 hk).1 fun e => ?_).trans hk
 obtain ⟨_, T', cs', h1, h2⟩ := hr k e.symm
 unfold Blk at h2
 rw [hk] at h2
 injection h2 with h2
 subst h2
 cases hc
theorem QAf.size (h : QAf b U A B) : A.heap.size ≤ B.heap.size := by
 obtain ⟨row, hg, _⟩ := h
 exact hg.size
theorem QAf.below {w0 : World} (h : QAf b U A B) (hb : Below b w0 A) (hs : b ≤ A.heap.size) : Below b w0 B := by
 obtain ⟨row, hg, hr⟩ := h
 exact hb.grown hg hs fun g hgr => (hr g hgr).1
theorem Kp.turn {n0 : Nat} {S : List Nat} {w0 : World} {g : Nat} (h : Kp n0 S w0 A) (hg : A.grownBy B (some g)) (h1 : w0.heap.size ≤ g) (h2 : n0 ≤ w0.heap.size) : Kp n0 S w0 B :=
 ⟨hg.os.trans h.os, hg.tape.trans h.tape, hg.output.trans h.output, Nat.le_trans h.size hg.size, fun k hk => (hg.block k (by have := h.size; omega) (fun e => by injection e; omega)).trans (h.low k hk),
  fun k T cs hq hT => (h.blk k T cs hq hT).grown hg fun e => by injection e with e; have := hq.lt; omega⟩
end
/-- abides what is new, what turns in blocks of the types U from block b on, and what is no row from block m on -/
def Soft (b m : Nat) (U : List Nat) (A B : World) : Prop := ∃ row, A.grownBy B row ∧ ∀ g, row = some g → (b ≤ g ∧ ∃ T cs, memB U T = true ∧ Blk A g T cs) ∨ (m ≤ g ∧ ∃ o : Obj, A.heap[g]? = some o ∧ o.isCells = false)
def Y0 (b m : Nat) (U : List Nat) (J : List It → World → Prop) : Prop := ∀ s A B, J s A → Soft b m U A B → J s B
section
variable {b m : Nat} {U : List Nat} {A B : World}
theorem Soft.of_turns (h : QAf b U A B) : Soft b m U A B := let ⟨row, hg, hr⟩ := h; ⟨row, hg, fun g e => .inl (hr g e)⟩
theorem Soft.of_below (h : Below A.heap.size A B) : Soft b m U A B := .of_turns (.of_below h)
theorem Soft.mono {m' : Nat} (h : Soft b m U A B) (hm : m' ≤ m) : Soft b m' U A B := let ⟨row, hg, hr⟩ := h; ⟨row, hg, fun g e => by
 rcases hr g e with h1 | ⟨h1, h2⟩
 ·exact .inl h1
 ·exact .inr ⟨Nat.le_trans hm h1, h2⟩⟩
theorem Soft.blk {g T : Nat} {cs : Array Value} (h : Soft b m U A B) (hq : Blk A g T cs) (hT : memB U T = false) : Blk B g T cs := by
 obtain ⟨row, hg, hr⟩ := h;refine hq.grown hg fun e => ?_
 rcases hr g e.symm with ⟨_, T', cs', h1, h2⟩ | ⟨_, o, h1, h2⟩
 ·unfold Blk at hq h2
  rw [hq] at h2
  injection h2 with h2
  injection h2 with _ h3
  rw [← h3, hT] at h1
  cases h1
 ·unfold Blk at hq
  rw [hq] at h1
  injection h1 with h1
  subst h1
  cases h2
theorem Soft.row {base e size n : Nat} {v : Value} {xs : List Value} (h : Soft b m U A B) (ho : A.ownsRow base e size v n xs) (hT : memB U e = false) : B.ownsRow base e size v n xs := by
 obtain ⟨hl, h0 | ⟨g, cap, cur, hv, hb, hk, h1⟩⟩ := ho
 ·exact ⟨hl, .inl h0⟩
 ·exact ⟨hl, .inr ⟨g, cap, cur, hv, hb, h.blk (cs := cur) hk hT, h1⟩⟩
theorem Soft.below {w0 : World} (h : Soft b m U A B) (hb : Below b w0 A) (hs : b ≤ A.heap.size) (hm : b ≤ m) : Below b w0 B := by
 obtain ⟨row, hg, hr⟩ := h
 exact hb.grown hg hs fun g hgr => by rcases hr g hgr with h1 | h1 <;> omega
theorem Soft.other {k : Nat} {o : Obj} (h : Soft b m U A B) (hk : A.heap[k]? = some o) (hc : o.isCells = false) (hkm : k < m) : B.heap[k]? = some o := by
 obtain ⟨row, hg, hr⟩ := h;refine (hg.block k (Array.getElem?_eq_some_iff.1 hk).1 fun e => ?_).trans hk
 rcases hr k e.symm with ⟨_, T', cs', h1, h2⟩ | ⟨h1, _⟩
 ·unfold Blk at h2
  rw [hk] at h2
  injection h2 with h2
  subst h2
  cases hc
 ·omega
theorem Soft.size (h : Soft b m U A B) : A.heap.size ≤ B.heap.size := by
 obtain ⟨row, hg, _⟩ := h
 exact hg.size
theorem Y0.own {J : List It → World → Prop} (h : Y0 b m U J) : OwnFrom m J := fun s W W' row hs hg hr => h s W W' hs ⟨row, hg, fun g e => .inr (hr g e)⟩
theorem Y0.stays {J : List It → World → Prop} (h : Y0 b m U J) : QMv b U J := fun s A B hs ht => h s A B hs (.of_turns ht)
theorem QDu : Y0 b m U fun _ _ => False := fun _ _ _ h _ => h
end
section
variable {P : Program} {n : Nat} {ds : List Deferred} {σ : Sg} {w : World} {Q : Exit → Act → World → Prop}
end
section
variable {P : Program} {ops : Array Oper} {Q : Exit → Act → World → Prop} {n l : Nat}
theorem QD4 {o : Oper} {a : Act} {w : World} {K : Act → World → Prop} (hnd : ∀ c, o.op ≠ .defer c) (h : o.wp P a w K Q) : o.wpIn (Fence.wide.inRound l) n P a w K Q := by
 refine ⟨fun _ _ => trivial, ?_⟩
 rw [Oper.semAt_eq _ _ _ hnd]
 unfold Oper.wp at h
 generalize (execOp a.eval o).run P w = r at h ⊢
 have hd : ((Fence.wide.inRound l).depth.isSome = true → 1 ≤ n) := fun h => by simp [Fence.wide] at h
 cases r with
 | ok x w' =>
  cases x
  case value => exact h
  case skip => exact h
  case defer => exact h
  case enter f args => exact ⟨hd, ((callsIn_wide.2 h).inRound l).mono fun e w'' he => by cases e <;> exact he⟩
  case row row args =>
   refine ⟨hd, fun c cs _ => ?_⟩
   obtain ⟨v, w'', hv, hs⟩ := h c cs
   exact ⟨v, w'', hv, stepsIn_wide.2 hs⟩
  all_goals exact h.elim
 | halt x w' => cases x <;> exact h
theorem QBp (hnd : ∀ (i : Nat) (o : Oper), ops[i]? = some o → ∀ c, o.op ≠ .defer c) (hQ : ¬ LetsOut Q) : ∀ (is : List Nat) (a : Act) (w : World), wpOps P ops Q is a w → wpOpsIn (Fence.wide.inRound l) n P ops Q is a w
 | [], _, _, h => h
 | i :: rest, a, w, h => by
  unfold wpOpsIn
  unfold wpOps at h
  cases ho : ops[i]? with
  | none =>
   simp only [ho] at h ⊢
   exact QBp hnd hQ rest a w h
  | some o =>
   simp only [ho] at h ⊢
   by_cases hw : Region.wanted o (yielded ops a.tmps) = true
   ·simp only [hw, if_true] at h ⊢
    rcases h with h | h
    ·exact Oper.wpIn_mono (fun a' w' h' => QBp hnd hQ rest a' w' h') (QD4 (hnd i o ho) h)
    ·exact absurd h.2 hQ
   ·simp only [hw, if_false, Bool.false_eq_true] at h ⊢
    exact ⟨fun _ _ => trivial, QBp hnd hQ rest _ _ h⟩
/-- no operation is a defer statement: by reckoning -/
def QCc (ops : Array Oper) : Bool := ops.all fun o => match o.op with | .defer _ => false | _ => true
theorem QA6 (h : QCc ops = true) (i : Nat) (o : Oper) (ho : ops[i]? = some o) (c) : o.op ≠ .defer c := by
 intro e;obtain ⟨hi, rfl⟩ := Array.getElem?_eq_some_iff.1 ho;have := Array.all_eq_true.1 h i hi;rw [e] at this
 cases this
end
section
variable {P : Program} {n : Nat} {σ : Sg} {w : World} {Q : Exit → Act → World → Prop} {L : List Oper}
theorem ECI.regionO {id l : Nat} (hQ : ¬LetsOut Q) (hnd : QCc L.toArray = true) (h : ∀ a, Env n σ a → RO P L.toArray Q a w) : ECI (some l) 0 P n [] (.region id L.toArray true) Q σ w := fun a ha =>
 wpIn_region_draw fun t => QBp (QA6 hnd) hQ _ _ _ (h a ha.e t)
/-! ### With deferred calls, outside of a round -/
def addD (ds : List Deferred) (a : Act) : Act := ⟨a.tmps, a.defers ++ ds⟩
theorem QG7 (ds : List Deferred) (a : Act) (d : Option Tmp) (v : Value) : (addD ds a).put d v = addD ds (a.put d v) := by cases d <;> rfl
theorem QFi (ds : List Deferred) (a : Act) : (addD ds a).eval = a.eval := by
 funext x
 cases x <;> rfl
theorem QFb {ds : List Deferred} (h : LetsOut (fun e a' w' => Q e (addD ds a') w')) : LetsOut Q := by
 obtain ⟨a, w, h⟩ := h
 exact ⟨_, w, h⟩
theorem QHh {ds : List Deferred} {o : Oper} {a : Act} {w : World} {K : Act → World → Prop} (h : o.wp P a w (fun a' w' => K (addD ds a') w') (fun e a' w' => Q e (addD ds a') w')) : o.wp P (addD ds a) w K Q := by
 unfold Oper.wp at h ⊢
 rw [QFi]
 generalize (execOp a.eval o).run P w = r at h ⊢
 have pd := fun d v => QG7 ds a d v
 cases r with
 | ok x w' =>
  cases x
  case value v => rw [Oper.upon_value] at h ⊢; rw [pd]; exact h
  case skip => rw [Oper.upon_skip] at h ⊢; rw [pd]; exact h
  case defer d =>
   rw [Oper.upon_defer] at h ⊢;have e : ({ addD ds a with defers := d :: (addD ds a).defers } : Act).put o.dst undef = addD ds (({ a with defers := d :: a.defers } : Act).put o.dst undef) := by cases o.dst <;> rfl
   rw [e]
   exact h
  case enter f args =>
   rw [Oper.upon_enter] at h ⊢;refine h.mono fun e w'' he => ?_
   cases e with
   | returned v => show K ((addD ds a).put o.dst v) w''; rw [pd]; exact he
   | panicked c => exact he
   | outgrown => exact QFb he
  case row row args =>
   intro c cs;obtain ⟨v, w'', hv, hs⟩ := h c cs
   exact ⟨v, w'', by show K ((addD ds a).put o.dst v) w''; rw [pd]; exact hv, hs⟩
  all_goals exact h.elim
 | halt x w' => cases x <;> exact h
theorem QFR {ds : List Deferred} : ∀ (is : List Nat) (a : Act) (w : World), wpOps P L.toArray (fun e a' w' => Q e (addD ds a') w') is a w → wpOps P L.toArray Q is (addD ds a) w
 | [], _, _, h => h
 | i :: rest, a, w, h => by
  unfold wpOps at h ⊢
  cases ho : L.toArray[i]? with
  | none =>
   simp only [ho] at h ⊢
   exact QFR rest a w h
  | some o =>
   simp only [ho] at h ⊢
   by_cases hw : Region.wanted o (yielded L.toArray a.tmps) = true
   ·rw [if_pos hw] at h
    rw [if_pos (show Region.wanted o (yielded L.toArray (addD ds a).tmps) = true from hw)]
    rcases h with h | h
    ·exact .inl (QHh (Oper.wp_mono (fun a' w' h' => QFR rest a' w' h') h))
    ·refine .inr ⟨?_, QFb h.2⟩
     unfold Oper.asks
     rw [QFi]
     exact h.1
   ·rw [if_neg hw] at h
    rw [if_neg (show ¬Region.wanted o (yielded L.toArray (addD ds a).tmps) = true from hw), QG7]
    exact QFR rest _ w h
theorem ECI.regionD {id : Nat} {k : Nat} {ds : List Deferred} (h : ∀ a, Env n σ a → RO P L.toArray (fun e a' w' => Q e (addD ds a') w') a w) : ECI none k P n ds (.region id L.toArray true) Q σ w := fun a ha => by
 refine wpIn_wide.2 (wp_region_draw fun t => ?_)
 have h1 := QFR _ _ _ (h ⟨a.tmps, []⟩ ha.env t);have e : addD ds ⟨a.tmps, []⟩ = a := by
  obtain ⟨tm, df⟩ := a;have : df = ds := ha.ds;subst this
  rfl
 rw [e] at h1
 exact h1
theorem EX.ofD {ds : List Deferred} (h : EXI n ds Q .normal σ w) : EX n (fun e a' w' => Q e (addD ds a') w') .normal σ w := fun a ha => h _ ⟨⟨ha.size, rfl, ha.get⟩, by show a.defers ++ ds = ds; rw [ha.defers]; rfl⟩
/-- a drawn region that only reads -/
theorem EO.regionQ (hm : P.follows .mixedOrders = true) (hB : lexQ L 0 L = true) (h : EQ P n L (fun w' => Below w.heap.size w w') (fun a' => ∀ w', Below w.heap.size w w' → Q .normal a' w') L σ) : ∀ a, Env n σ a → RO P L.toArray Q a w := fun a ha => by
 refine QJU hm (wpAny_of_quiet (C := fun w' => Below w.heap.size w w') (Q := fun a' => ∀ w', Below w.heap.size w w' → Q .normal a' w') (fun _ w' hw' h => h w' hw') _ _ _ _ ⟨rfl, rfl, rfl, Nat.le_refl _, fun _ _ => rfl⟩ ?_)
 have := QBH (C := fun w' => Below w.heap.size w w') (P := P) (Z := fun a' => ∀ w', Below w.heap.size w w' → Q .normal a' w') (fun j o cs b hj => lex_sel hB o (List.mem_of_getElem? (by simpa using hj)) cs b) L 0 (Array.replicate L.toArray.size false) a (by simp) (by simp) (fun j hj => by omega) (fun j _ hj => by simp [Array.getD, hj]) hB (h a ha)
 simpa using this
end
theorem Z4.below {n0 : Nat} {ds : List Deferred} {W W' : World} (h : Z4 n0 ds W) (hb : Below W.heap.size W W') : Z4 n0 ds W' := fun d hd => by
 obtain ⟨D, h1, h2, h3⟩ := h d hd
 exact ⟨D, h1, h2, (hb.block D (Array.getElem?_eq_some_iff.1 h3).1).trans h3⟩
theorem Z4.keeps {n0 : Nat} {ds : List Deferred} {W W' : World} (h : Z4 n0 ds W) (hk : KeepsOthers W W') : Z4 n0 ds W' := fun d hd => by
 obtain ⟨D, h1, h2, h3⟩ := h d hd
 exact ⟨D, h1, h2, hk.same _ _ h3 rfl⟩
theorem Z4.cons {n0 D : Nat} {ds : List Deferred} {W : World} (h : Z4 n0 ds W) (hD : n0 ≤ D) (hd : W.heap[D]? = some (.deferred (some []))) : Z4 n0 ({ target := .collected D, args := #[] } :: ds) W := fun d hm => by
 rcases List.mem_cons.1 hm with rfl | h1
 ·exact ⟨D, hD, rfl, hd⟩
 ·exact h d h1
/-- the marks of a world that has been, still there -/
structure MarksIn (n0 : Nat) (ds : List Deferred) (W0 W : World) : Prop where
 marks : Z4 n0 ds W
 old : Z4 n0 ds W0
theorem Z4.refl {n0 : Nat} {ds : List Deferred} {W : World} (h : Z4 n0 ds W) : MarksIn n0 ds W W := ⟨h, h⟩
theorem MarksIn.below {n0 : Nat} {ds : List Deferred} {W0 W W' : World} (h : MarksIn n0 ds W0 W) (hb : Below W.heap.size W W') : MarksIn n0 ds W0 W' := ⟨h.marks.below hb, h.old⟩
theorem MarksIn.keeps {n0 : Nat} {ds : List Deferred} {W0 W W' : World} (h : MarksIn n0 ds W0 W) (hk : KeepsOthers W W') : MarksIn n0 ds W0 W' := ⟨h.marks.keeps hk, h.old⟩
theorem MarksIn.fresh {n0 D : Nat} {ds : List Deferred} {W0 W : World} (h : MarksIn n0 ds W0 W) (hD : W0.heap.size ≤ D) (hm : ({ target := .collected D, args := #[] } : Deferred) ∈ ds) : False := by
 obtain ⟨D', _, h2, h3⟩ := h.old _ hm;have := (Array.getElem?_eq_some_iff.1 h3).1
 injection h2 with h2 _
 injection h2 with h2
 omega
theorem MarksIn.grown {n0 B : Nat} {ds : List Deferred} {W0 W W' : World} {row : Option Nat} (h : MarksIn n0 ds W0 W) (h3 : W0.heap.size ≤ B) (hg : W.grownBy W' row) (hr : ∀ r, row = some r → B ≤ r) : MarksIn n0 ds W0 W' := ⟨fun d hd => by
 obtain ⟨D, k1, k2, k3⟩ := h.marks d hd;obtain ⟨D', _, k5, k6⟩ := h.old d hd;have e : D' = D := by rw [k2] at k5; injection k5 with k5 _; injection k5 with k5; exact k5.symm
 subst e;have hlt := (Array.getElem?_eq_some_iff.1 k6).1
 exact ⟨D', k1, k2, (hg.block D' (Array.getElem?_eq_some_iff.1 k3).1 (fun e => by have := hr D' e.symm; omega)).trans k3⟩, h.old⟩
/-- a store into a block of cells leaves what is no cells -/
theorem YJ {w w' : World} {g T : Nat} {cs : Array Value} (h : Blk w g T cs) (hg : w.grownBy w' (some g)) : KeepsOthers w w' := ⟨hg.size, fun j o ho hc => by
 refine (hg.block j (Array.getElem?_eq_some_iff.1 ho).1 fun e => ?_).trans ho
 injection e with e
 subst e
 unfold Blk at h
 rw [h] at ho
 injection ho with ho
 subst ho
 cases hc⟩
theorem QAp {n0 : Nat} {w w' : World} {base e size n : Nat} {v : Value} {xs : List Value} (h : w.ownsRow base e size v n xs) (ht : Took n0 w w') : w'.ownsRow base e size v n xs := by
 obtain ⟨hl, h0 | ⟨g, cap, cur, hv, hb, hk, h1⟩⟩ := h
 ·exact ⟨hl, .inl h0⟩
 ·exact ⟨hl, .inr ⟨g, cap, cur, hv, hb, ht.blk g e cur hk, h1⟩⟩
section
variable {P : Program} {ops : Array Oper} {Q : Exit → Act → World → Prop} {n l : Nat}
theorem QCA (hQ : ¬ LetsOut Q) : ∀ (L : List Oper) (a : Act) (w : World), (∀ o ∈ L, ∀ c, o.op ≠ .defer c) → wpList P ops Q L a w → wpListIn (Fence.wide.inRound l) n P ops Q L a w
 | [], _, _, _, h => h
 | o :: rest, a, w, hnd, h => by
  unfold wpListIn
  unfold wpList at h
  have hr : ∀ o ∈ rest, ∀ c, o.op ≠ .defer c := fun o ho => hnd o (List.mem_cons_of_mem _ ho)
  by_cases hw : Region.wanted o (yielded ops a.tmps) = true
  ·simp only [hw, if_true] at h ⊢
   rcases h with h | h
   ·exact Oper.wpIn_mono (fun a' w' h' => QCA hQ rest a' w' hr h') (QD4 (hnd o (List.mem_cons_self ..)) h)
   ·exact absurd h.2 hQ
  ·simp only [hw, if_false, Bool.false_eq_true] at h ⊢
   exact ⟨fun _ _ => trivial, QCA hQ rest _ _ hr h⟩
theorem QFa {ds : List Deferred} : ∀ (L : List Oper) (a : Act) (w : World), wpList P ops (fun e a' w' => Q e (addD ds a') w') L a w → wpList P ops Q L (addD ds a) w
 | [], _, _, h => h
 | o :: rest, a, w, h => by
  unfold wpList at h ⊢
  by_cases hw : Region.wanted o (yielded ops a.tmps) = true
  ·rw [if_pos hw] at h
   rw [if_pos (show Region.wanted o (yielded ops (addD ds a).tmps) = true from hw)]
   rcases h with h | h
   ·exact .inl (QHh (Oper.wp_mono (fun a' w' h' => QFa rest a' w' h') h))
   ·refine .inr ⟨?_, QFb h.2⟩
    unfold Oper.asks
    rw [QFi]
    exact h.1
  ·rw [if_neg hw] at h
   rw [if_neg (show ¬Region.wanted o (yielded ops (addD ds a).tmps) = true from hw), QG7]
   exact QFa rest _ w h
end
theorem QGR {L : List Oper} (h : QCc L.toArray = true) : ∀ o ∈ L, ∀ c, o.op ≠ .defer c := fun o ho => by
 obtain ⟨i, hi, rfl⟩ := List.getElem_of_mem ho
 exact QA6 h i _ (by simp [hi])
theorem YR {id : Nat} {Q : Exit → Act → World → Prop} (h : ¬LetsOut Q) : ¬LetsOut (Exit.inBlock id Q) := h
theorem Zs {K : Act → World → Prop} {Q : Exit → Act → World → Prop} (h : ¬LetsOut Q) : ¬LetsOut (Exit.then K Q) := h
theorem YU : ¬LetsOut (fun (_ : Exit) (_ : Act) (_ : World) => False) := fun ⟨_, _, h⟩ => h
section
variable {P : Program} {n : Nat} {σ : Sg} {w : World} {Q : Exit → Act → World → Prop} {L : List Oper}
theorem ECI.regionL {id l : Nat} (hQ : ¬LetsOut Q) (hnd : QCc L.toArray = true) (h : EL P n L Q L σ w) : ECI (some l) 0 P n [] (.region id L.toArray false) Q σ w := fun a ha =>
 wpIn_region_lit (QCA hQ L a w (QGR hnd) (h a ha.e))
theorem ECI.regionLD {id : Nat} {k : Nat} {ds : List Deferred} (h : EL P n L (fun e a' w' => Q e (addD ds a') w') L σ w) : ECI none k P n ds (.region id L.toArray false) Q σ w := fun a ha => by
 refine wpIn_wide.2 (wp_region_lit ?_);have h1 := QFa (ds := ds) L ⟨a.tmps, []⟩ w (h ⟨a.tmps, []⟩ ha.env);have e : addD ds ⟨a.tmps, []⟩ = a := by
  obtain ⟨tm, df⟩ := a;have : df = ds := ha.ds;subst this
  rfl
 rw [e] at h1
 exact h1
theorem EX.toI {e : Exit} (h : EXI n [] Q e σ w) : EX n Q e σ w := fun a ha => h a ha.g
theorem EX.doneM {fn : Func} {R : Ending → World → Prop} {v : Value} (hr : ∀ a, Env n σ a → (results fn a.tmps).run P w = .ok v w) (h : R (.returned v) w) : EX n (bodyPostM Fence.wide 0 P fn R) .ret σ w := fun a ha => by
 show LeavesInM Fence.wide 0 P fn a.tmps R a.defers .returning w
 rw [ha.defers]
 exact ⟨v, hr a ha, h⟩
end
section
variable {ro : Option Nat} {k : Nat} {P : Program} {n : Nat} {ds : List Deferred} {σ : Sg} {w : World} {Q : Exit → Act → World → Prop} {L : List Oper} {rest : List Oper}
theorem ELI.skip {d ty j t : Nat} {b : Bool} {op : Op} {pos : String} {af : Array Edge} {u : Value} (hj : ZS L j = some t) (ht : σ t = some u) (hb : QBf b u = false) (hd : Nat.blt d n = true) (next : ELI ro k P n ds L Q rest (ins σ d undef) w) : ELI ro k P n ds L Q (⟨some d, op, ty, pos, af, some (j, b)⟩ :: rest) σ w := fun a ha => by
 have hw : Region.wanted (⟨some d, op, ty, pos, af, some (j, b)⟩ : Oper) (yielded L.toArray a.tmps) = false := by
  simp only [Region.wanted, QC1 ha hj ht]
  cases u <;> first | rfl | (simp only [QBf] at hb; simpa using hb)
 unfold wpListIn
 rw [hw, if_neg (by simp)]
 exact ⟨fun _ _ => trivial, next _ (ha.put hd undef)⟩
theorem ELI.yieldg {d ty l j t : Nat} {b : Bool} {x y : Operand} {at' : Array TypeId} {pos : String} {af : Array Edge} {v : Value} {R : Ending → World → Prop} {fn : FuncId} {tmps : Array Value} {assign body : Code} (hj : ZS L j = some t) (ht : σ t = some (.bool b)) (hx : evS σ x = some (.func (.yield l) #[] #[])) (hy : evS σ y = some v) (hd : Nat.blt d n = true) (hi : (Instr.yield l #[v]).run P w = .ok (.round l fn tmps assign body) w) (hR : RoundIn Fence.wide 0 P l fn tmps assign body w R)
  (next : ∀ e w', R e w' → ∃ v, e = .returned v ∧ ELI ro k P n ds L Q rest (ins σ d v) w') : ELI ro k P n ds L Q (⟨some d, .call { callee := .value x, args := #[y], argTypes := at' }, ty, pos, af, some (j, b)⟩ :: rest) σ w := fun a ha => by
 have hr' : (execOp a.eval ⟨some d, .call { callee := .value x, args := #[y], argTypes := at' }, ty, pos, af, some (j, b)⟩).run P w = .ok (.round l fn tmps assign body) w := by
  simp only [execOp, resolve, List.map_toArray, List.map_cons, List.map_nil, ha.eval hx, ha.eval hy]
  simp [go_sem, Deferred.ofValue, hi]
 unfold wpListIn
 rw [if_pos (by simp [Region.wanted, QC1 ha hj ht])]
 refine ⟨fun _ _ => trivial, ?_⟩
 rw [QBO (QCb hr' (fun d h => by cases h)), hr']
 refine ⟨QBY _ _, RoundIn.mono (QDy hR) fun e w' he => ?_⟩
 obtain ⟨v, rfl, hv⟩ := next e w' he
 exact hv _ (ha.put hd v)
end
section
variable {P : Program} {n : Nat} {σ : Sg} {w : World}
end
theorem QGB {b m : Nat} {U : List Nat} {A : World} {D : Nat} {o : Obj} (o' : Obj) (hm : m ≤ D) (hd : A.heap[D]? = some o) (hc : o.isCells = false) : Soft b m U A (A.putObj D o') :=
 ⟨some D, grownBy_putObj' A D o', fun g e => by injection e with e; subst e; exact .inr ⟨hm, o, hd, hc⟩⟩
/-- the block that a pointer or a slice points to -/
def blk0 : Value → Option Nat
 | .pointer (some a) => some a.block
 | .slice (some a) _ _ => some a.block
 | _ => none
section
variable {P : Program} {n : Nat} {σ : Sg} {w : World} {Q : Exit → Act → World → Prop} {L : List Oper}
/-- when some of the head have come up -/
structure HInvA (n : Nat) (L : List Oper) (cls : List (List Nat)) (m : Nat) (alc : List Nat) (σ : Sg) (w : World) (Φ : Nat → (Nat → Value) → World → Prop) (D : Array Bool) (val : Nat → Value) (a : Act) (w' : World) : Prop where
 below : Below w.heap.size w w'
 size : a.tmps.size = n
 defers : a.defers = []
 new : ∀ i d, i < m → D.getD i false = true → ZS L i = some d → a.tmps[d]? = some (val i)
 old : ∀ t v, σ t = some v → (∀ k, k < m → D.getD k false = true → ZS L k ≠ some t) → a.tmps[t]? = some v
 says : ∀ i, i < m → D.getD i false = true → Φ i (res val i (clsAt cls i)) w'
 down : ∀ i, D.getD i false = true → ∀ j ∈ clsAt cls i, D.getD j false = true
 alc1 : ∀ i ∈ alc, i < m → D.getD i false = true → ∃ g, blk0 (val i) = some g ∧ w.heap.size ≤ g ∧ g < w'.heap.size
 alc2 : ∀ i ∈ alc, ∀ j ∈ alc, i < m → j < m → D.getD i false = true → D.getD j false = true → i ≠ j → blk0 (val i) ≠ blk0 (val j)
 high : ∀ i, m ≤ i → D.getD i false = false
end
section
variable {P : Program} {n : Nat} {σ : Sg} {w : World} {L : List Oper} {cls : List (List Nat)} {alc : List Nat} {val : Nat → Value} {a : Act} {w1 : World} {i m : Nat} {Q : Exit → Act → World → Prop} {Φ : Nat → (Nat → Value) → World → Prop}
end
end Go.Proofs.Ytlbfnimilcnihaa
namespace Go.Proofs.Ytlbfnimilcnihaa
open Go Go.RowKit Go.Maps Go.ChangeMaps Go.MapKept Go.WideElems
def R0 : Value → Option (DataW Unit × List MemPlace) := fun _ => some (.lit (.bool true), [])
/-- block b is a map of at most n entries; l: its entries -/
def MapV (P : Program) (k : TypeId) (w : World) (b n : Nat) (l : List (Value × Value)) : Prop :=
 ∃ es clock, w.heap[b]? = some (.map es clock) ∧ Fit P k R0 es clock ∧ es.size ≤ n ∧ es.toList.map (fun e => (e.key, e.val)) = l
section
variable {P : Program} {k : TypeId} {w w' : World} {b n r c : Nat} {l d : List (Value × Value)}
theorem MapV.lt (h : MapV P k w b n l) : b < w.heap.size := by
 obtain ⟨es, clock, hb, _⟩ := h
 exact (Array.getElem?_eq_some_iff.1 hb).1
theorem MapV.map (h : MapV P k w b n l) : ∃ es clock, w.heap[b]? = some (.map es clock) := by
 obtain ⟨es, clock, hb, _⟩ := h
 exact ⟨es, clock, hb⟩
theorem MapV.kept {row : Option Nat} (h : MapV P k w b n l) (hg : w.grownBy w' row) (hne : some b ≠ row) : MapV P k w' b n l := by
 have hlt := h.lt;obtain ⟨es, clock, hb, r⟩ := h
 exact ⟨es, clock, (hg.block b hlt hne).trans hb, r⟩
theorem MapV.below (h : MapV P k w b n l) (hb : Below w.heap.size w w') : MapV P k w' b n l :=
 h.kept (row := none) ⟨hb.os, hb.tape, hb.output, hb.size, fun k hk _ => hb.block k hk⟩ (by simp)
theorem MapV.len (h : MapV P k w b n l) : l.length ≤ n := by
 obtain ⟨es, clock, _, _, hs, rfl⟩ := h
 simpa using hs
theorem MapV.mono {m : Nat} (h : MapV P k w b n l) (hm : n ≤ m) : MapV P k w b m l := by
 obtain ⟨es, clock, h1, h2, hs, h3⟩ := h
 exact ⟨es, clock, h1, h2, by omega, h3⟩
theorem MapV.keys (h : MapV P k w b n l) : l.Pairwise fun p q => p.1 ≠ q.1 := by
 obtain ⟨es, clock, _, F, _, rfl⟩ := h;rw [List.pairwise_map]
 exact ((stamped_iff es clock).1 F.stamped).2.2
theorem MapV.store {t e : TypeId} {key val : Value} {kl : Lit} (h : MapV P k w b n l) (K : Keyed P k) (ht : P.underlying t = some (.map k e)) (hn : n < maxLen) (hkey : keyOf P k key = some kl) :
  ∃ w' l', (Instr.mapUpdate t (.map (some b)) key val).run P w = .ok () w' ∧ MapV P k w' b (n + 1) l' ∧ w.grownBy w' (some b) ∧ (key, val) ∈ l' ∧ (∀ x ∈ l', x = (key, val) ∨ (x ∈ l ∧ x.1 ≠ key)) ∧ ∀ x ∈ l, x ∈ l' ∨ x.1 = key := by
 obtain ⟨es, clock, hb, F, hs, rfl⟩ := h;have hgrow : ∀ o, w.grownBy (setBlock w b o) (some b) := fun o => ⟨rfl, rfl, rfl, by simp [setBlock], fun i _ hi => heap_setBlock_other hb _ (fun e => hi (by rw [e]))⟩
 obtain ⟨es', clock', hrun, F', _, _, _, _⟩ := fit_store (R' := R0) K ht hb F (Nat.lt_of_le_of_lt hs hn) (fun _ _ _ _ hz => hz) (val := val) hkey (yv := (.lit (.bool true), [])) rfl
 have huniq : ∀ es2 clock2, (Instr.mapUpdate t (.map (some b)) key val).run P w = .ok () (setBlock w b (.map es2 clock2)) → es' = es2 ∧ clock' = clock2 := fun es2 clock2 h2 => by
  rw [hrun] at h2
  injection h2 with _ e2
  have e3 := heap_setBlock_same hb (.map es' clock');rw [e2, heap_setBlock_same hb] at e3
  injection e3 with e3
  injection e3 with e4 e5
  exact ⟨e4.symm, e5.symm⟩
 rcases K.find w hkey es.toList F.keys with ⟨h1, h2⟩ | ⟨j, e0, h1, h2, h3⟩
 ·obtain ⟨rfl, rfl⟩ := huniq (es.push ⟨key, val, clock⟩) (clock + 1) (by simp [Instr.mapUpdate, run_underlying ht, MapKept.run_getObj_map hb, K.check w false hkey, h1, MapKept.run_setObj_map _ hb, Result.andThen, setBlock])
  refine ⟨_, _, hrun, ⟨_, _, heap_setBlock_same hb _, F', by simp; omega, rfl⟩, hgrow _, ?_, fun x hx => ?_, fun x hx => .inl ?_⟩
  ·simp
  ·simp only [Array.toList_push, List.map_append, List.map_cons, List.map_nil, List.mem_append, List.mem_singleton] at hx
   rcases hx with hx | hx
   ·refine .inr ⟨hx, ?_⟩
    obtain ⟨e1, he1, rfl⟩ := List.mem_map.1 hx
    exact h2 e1 he1
   ·exact .inl hx
  ·simp only [Array.toList_push, List.map_append, List.map_cons, List.map_nil, List.mem_append, List.mem_singleton]
   exact .inl hx
 ·have hj : es[j]? = some e0 := by simpa using h2
  obtain ⟨rfl, rfl⟩ := huniq (es.modify j (fun e' => { e' with key := key, val := val })) clock (by simp [Instr.mapUpdate, run_underlying ht, MapKept.run_getObj_map hb, K.check w false hkey, h1, hj, h3, K.stays w hkey, MapKept.run_setObj_map _ hb, Result.andThen, setBlock])
  have hlist : (es.modify j (fun e' => { e' with key := key, val := val })).toList = es.toList.set j { e0 with key := key, val := val } := by rw [Array.toList_modify, modify_eq_set _ _ _ _ h2]
  have hjl : j < es.toList.length := (List.getElem?_eq_some_iff.1 h2).1;refine ⟨_, _, hrun, ⟨_, _, heap_setBlock_same hb _, F', by simp; omega, rfl⟩, hgrow _, ?_, fun x hx => ?_, fun x hx => ?_⟩
  ·rw [hlist]
   exact List.mem_map.2 ⟨{ e0 with key := key, val := val }, List.mem_iff_getElem.2 ⟨j, by simpa using hjl, by simp⟩, rfl⟩
  ·rw [hlist] at hx
   obtain ⟨e1, he1, rfl⟩ := List.mem_map.1 hx;obtain ⟨i, hi, ex⟩ := List.getElem_of_mem he1;rw [List.getElem_set] at ex
   split at ex
   ·subst ex; exact .inl rfl
   ·rename_i hne
    have hi' : i < es.toList.length := by simpa using hi
    subst ex;refine .inr ⟨List.mem_map.2 ⟨_, List.getElem_mem hi', rfl⟩, ?_⟩;have h4 := other_key F h2 (List.getElem?_eq_getElem hi') (fun e1 => hne e1.symm)
    intro h5
    exact h4 (h5.trans h3.symm)
  ·rw [hlist]
   obtain ⟨e1, he1, rfl⟩ := List.mem_map.1 hx;obtain ⟨i, hi, ex⟩ := List.getElem_of_mem he1
   by_cases hij : i = j
   ·subst hij
    right
    rw [List.getElem?_eq_getElem hi, ex] at h2
    injection h2 with h2
    rw [h2]; exact h3
   ·left
    exact List.mem_map.2 ⟨e1, List.mem_iff_getElem.2 ⟨i, by simpa using hi, by rw [List.getElem_set, if_neg (fun e => hij e.symm)]; exact ex⟩, rfl⟩
/-- the map is ranged over by block r; d: what has come so far; c: how many are to come -/
def RangeV (P : Program) (k : TypeId) (w : World) (b r n : Nat) (l d : List (Value × Value)) (c : Nat) : Prop :=
 ∃ es clock since seen c0, w.heap[b]? = some (.map es clock) ∧ Fit P k R0 es clock ∧ es.size ≤ n ∧ es.toList.map (fun e => (e.key, e.val)) = l ∧
  w.heap[r]? = some (.mapIter (some b) since seen c0) ∧ (∀ x ∈ es.toList, x.born < since) ∧ (leftOf es seen).size = c ∧ since ≤ c0 ∧ since ≤ clock ∧
  (∀ x ∈ es.toList, seen.contains x.born = true → (x.key, x.val) ∈ d)
theorem RangeV.map (h : RangeV P k w b r n l d c) : MapV P k w b n l := by
 obtain ⟨es, clock, _, _, _, hb, F, hs, e, _⟩ := h
 exact ⟨es, clock, hb, F, hs, e⟩
theorem RangeV.lt (h : RangeV P k w b r n l d c) : r < w.heap.size := by
 obtain ⟨_, _, _, _, _, _, _, _, _, hr, _⟩ := h
 exact (Array.getElem?_eq_some_iff.1 hr).1
theorem RangeV.kept {row : Option Nat} (h : RangeV P k w b r n l d c) (hg : w.grownBy w' row) (h1 : some b ≠ row) (h2 : some r ≠ row) : RangeV P k w' b r n l d c := by
 have k1 := h.map.lt;have k2 := h.lt;obtain ⟨es, clock, since, seen, c0, hb, F, hs, e, hr, rest⟩ := h
 exact ⟨es, clock, since, seen, c0, (hg.block b k1 h1).trans hb, F, hs, e, (hg.block r k2 h2).trans hr, rest⟩
theorem RangeV.below (h : RangeV P k w b r n l d c) (hb : Below w.heap.size w w') : RangeV P k w' b r n l d c :=
 h.kept (row := none) ⟨hb.os, hb.tape, hb.output, hb.size, fun k hk _ => hb.block k hk⟩ (by simp) (by simp)
theorem MapV.range {t e : TypeId} (h : MapV P k w b n l) (ht : P.underlying t = some (.map k e)) :
  ∃ w', (Instr.range t (.map (some b))).run P w = .ok (.pointer (some ⟨w.heap.size, 0, none⟩)) w' ∧ RangeV P k w' b w.heap.size n l [] l.length ∧ Below w.heap.size w w' := by
 have hlt := h.lt;obtain ⟨es, clock, hb, F, hs, rfl⟩ := h;refine ⟨_, run_range_map w t k e b es clock ht hb, ⟨es, clock, clock, #[], clock, ((MapKept.heap_alloc w _).2 b hlt).trans hb, F, hs, rfl, (MapKept.heap_alloc w _).1, F.stamped.1, ?_, Nat.le_refl _, Nat.le_refl _, ?_⟩, (Below.refl _ _).alloc (Nat.le_refl _) _⟩
 ·simp [leftOf]
 ·intro x _ hx
  simp at hx
theorem RangeV.next (h : RangeV P k w b r n l d c) (ty : TypeId) :
  (c = 0 ∧ (∀ x ∈ l, x ∈ d) ∧ (Instr.next (.pointer (some ⟨r, 0, none⟩)) false ty).run P w = .ok (.tuple #[.bool false]) w) ∨
  ∃ key v w' c', (key, v) ∈ l ∧ (Instr.next (.pointer (some ⟨r, 0, none⟩)) false ty).run P w = .ok (.tuple #[.bool true, key, v]) w' ∧
   RangeV P k w' b r n l (d ++ [(key, v)]) c' ∧ c' < c ∧ w.grownBy w' (some r) ∧ w'.heap.size = w.heap.size ∧ (Instr.entry (.pointer (some ⟨r, 0, none⟩))).run P w' = .ok (.tuple #[key, v]) w' := by
 have hne : r ≠ b := fun e => by
  obtain ⟨es, clock, since, seen, c0, hb, _, _, _, hr, _⟩ := h;rw [e, hb] at hr
  cases hr
 obtain ⟨es, clock, since, seen, c0, hb, F, hs, rfl, hr, hold, rfl, hsc, hsk, hd⟩ := h
 rcases run_next_at (P := P) w ty r b since c0 seen es clock hr hb hold hsc with ⟨h0, hrun⟩ | ⟨e, he, w1, hal, hrun⟩
 ·refine .inl ⟨h0, fun x hx => ?_, hrun⟩
  obtain ⟨e1, he1, rfl⟩ := List.mem_map.1 hx
  exact hd e1 he1 (all_seen es seen h0 e1 he1)
 ·obtain ⟨hem, hes⟩ := mem_left he
  have hr1 : w1.heap[r]? = some (.mapIter (some b) since seen c0) := by rcases hal with rfl | rfl <;> exact hr
  have hb1 : w1.heap[b]? = some (.map es clock) := by rcases hal with rfl | rfl <;> exact hb
  have hset := heap_set (o' := .mapIter (some b) since (seen.push e.born) clock) hr1;have hb' : (setBlock w1 r (.mapIter (some b) since (seen.push e.born) clock)).heap[b]? = some (.map es clock) := (hset.2 b (fun e1 => hne e1.symm)).trans hb1
  have hst := (stamped_iff es clock).1 F.stamped;refine .inr ⟨e.key, e.val, _, _, List.mem_map.2 ⟨e, hem, rfl⟩, hrun, ⟨es, clock, since, seen.push e.born, clock, hb', F, hs, rfl, hset.1, hold, rfl, hsk, hsk, fun x hx hxs => ?_⟩, ?_, ?_, ?_, ?_⟩
  ·rw [Array.contains_iff_mem, Array.mem_push] at hxs
   rcases hxs with hxs | hxs
   ·exact List.mem_append.2 (.inl (hd x hx (Array.contains_iff_mem.2 hxs)))
   ·rw [born_inj hst.2.1 hx hem hxs]
    exact List.mem_append.2 (.inr (List.mem_singleton.2 rfl))
  ·exact left_shrinks es seen e he
  ·rcases hal with rfl | rfl <;> exact ⟨rfl, rfl, rfl, by simp [setBlock], fun i _ hi => hset.2 i (fun e1 => hi (by rw [e1]))⟩
  ·rcases hal with rfl | rfl <;> simp [setBlock]
  ·exact run_entry_at _ r b since seen es clock e hset.1 hb' hem hst.2.1
end
end Go.Proofs.Ytlbfnimilcnihaa
namespace Go.Proofs.Ytlbfnimilcnihaa
open Go Go.RowKit
/-- what taking the marks does, to all that is no mark -/
structure TookO (n0 : Nat) (w w' : World) : Prop where
 took : Took n0 w w'
 keep : ∀ (j : Nat) (o : Obj), w.heap[j]? = some o → (∀ x, o ≠ .deferred x) → w'.heap[j]? = some o
theorem QB1 {P : Program} {fn : Func} {tmps : Array Value} {R : Ending → World → Prop} {n0 k : Nat} : ∀ (ds : List Deferred) (w : World), Z4 n0 ds w → ds.Nodup → (∀ w', TookO n0 w w' → ∃ v, (results fn tmps).run P w' = .ok v w' ∧ R (.returned v) w') → LeavesInM Fence.wide k P fn tmps R ds .returning w
 | [], w, _, _, h => h w ⟨⟨Below.refl _ _, rfl, fun _ _ _ h => h⟩, fun _ _ h _ => h⟩
 | d :: ds, w, hm, hd, h => by
  obtain ⟨D, hD, rfl, hw⟩ := hm d (List.mem_cons_self ..);have ho : ∀ j, j ≠ D → (w.putObj D (.deferred none)).heap[j]? = w.heap[j]? := fun j hj => World.putObj_heap_other hj
  refine ⟨by simp, .inl ⟨D, _, rfl, run_takeDeferred hw, QB1 (n0 := n0) ds _ (fun d' hd' => ?_) (List.nodup_cons.1 hd).2 fun w' ht => h w' ?_⟩⟩
  ·obtain ⟨D', h1, rfl, h3⟩ := hm d' (List.mem_cons_of_mem _ hd')
   refine ⟨D', h1, rfl, (ho D' fun e => ?_).trans h3⟩
   subst e
   exact (List.nodup_cons.1 hd).1 hd'
  ·have hk : Kp n0 [] w (w.putObj D (.deferred none)) := Kp.putObj _ hD hw rfl
   refine ⟨⟨hk.below.trans ht.took.below, ht.took.size.trans (by simp), fun g T cs hg => ht.took.blk g T cs (hk.blk g T cs hg rfl)⟩, fun j o hj hn => ht.keep j o ((ho j fun e => ?_).trans hj) hn⟩
   subst e;rw [hw] at hj
   injection hj with hj
   exact hn _ hj.symm
section
variable {P : Program} {n : Nat} {ds : List Deferred} {σ : Sg} {w : World}
theorem EXI.doneO {fn : Func} {R : Ending → World → Prop} {n0 : Nat} {v : Value} (hm : Z4 n0 ds w) (hd : ds.Nodup) (hr : ∀ w', TookO n0 w w' → ∀ a, Env n σ a → (results fn a.tmps).run P w' = .ok v w') (h : ∀ w', TookO n0 w w' → R (.returned v) w') : EXI n ds (bodyPostM Fence.wide 0 P fn R) .ret σ w := fun a ha => by
 show LeavesInM Fence.wide 0 P fn a.tmps R a.defers .returning w
 rw [ha.ds]
 exact QB1 ds w hm hd fun w' ht => ⟨v, hr w' ht ⟨a.tmps, []⟩ ha.env, h w' ht⟩
end
section
variable {A B : World} {n0 g : Nat} {S : List Nat} {o : Obj}
theorem Kp.other (hn : n0 ≤ g) (ho : A.heap[g]? = some o) (hc : o.isCells = false) (hg : A.grownBy B (some g)) : Kp n0 S A B :=
 ⟨hg.os, hg.tape, hg.output, hg.size, fun k hk => hg.block k (by have := (Array.getElem?_eq_some_iff.1 ho).1; omega) (fun e => by injection e; omega),
  fun k T cs hq _ => hq.grown hg fun e => by
   injection e with e
   subst e
   unfold Blk at hq
   rw [ho] at hq
   injection hq with hq
   subst hq
   cases hc⟩
theorem ZT.low {b : Nat} (hg : A.grownBy B (some g)) (h : g < b) : ZT b A B := fun j o hb hj _ => (hg.block j (Array.getElem?_eq_some_iff.1 hj).1 fun e => by injection e; omega).trans hj
theorem Z4.other {ds : List Deferred} (h : Z4 n0 ds A) (ho : A.heap[g]? = some o) (hn : ∀ x, o ≠ .deferred x) (hg : A.grownBy B (some g)) : Z4 n0 ds B := fun d hd => by
 obtain ⟨D, h1, h2, h3⟩ := h d hd;refine ⟨D, h1, h2, (hg.block D (Array.getElem?_eq_some_iff.1 h3).1 fun e => ?_).trans h3⟩
 injection e with e
 subst e;rw [h3] at ho
 injection ho with ho
 exact hn _ ho.symm
theorem Z4.keepsFrom {ds : List Deferred} {b : Nat} (h : Z4 n0 ds A) (hb : b ≤ n0) (hk : ZT b A B) : Z4 n0 ds B := fun d hd => by
 obtain ⟨D, h1, h2, h3⟩ := h d hd
 exact ⟨D, h1, h2, hk D _ (by omega) h3 rfl⟩
theorem MarksIn.other {ds : List Deferred} {W0 : World} (h : MarksIn n0 ds W0 A) (ho : A.heap[g]? = some o) (hn : ∀ x, o ≠ .deferred x) (hg : A.grownBy B (some g)) : MarksIn n0 ds W0 B := ⟨h.marks.other ho hn hg, h.old⟩
theorem MarksIn.soft {ds : List Deferred} {W0 : World} {b m : Nat} {U : List Nat} (h : MarksIn n0 ds W0 A) (hm : W0.heap.size ≤ m) (hs : Soft b m U A B) : MarksIn n0 ds W0 B := by
 obtain ⟨row, hg, hr⟩ := hs;refine ⟨fun d hd => ?_, h.old⟩
 obtain ⟨D, k1, k2, k3⟩ := h.marks d hd;obtain ⟨D', _, k5, k6⟩ := h.old d hd;have e : D' = D := by rw [k2] at k5; injection k5 with k5 _; injection k5 with k5; exact k5.symm
 subst e;have hlt := (Array.getElem?_eq_some_iff.1 k6).1;refine ⟨D', k1, k2, (hg.block D' (Array.getElem?_eq_some_iff.1 k3).1 (fun e => ?_)).trans k3⟩
 rcases hr D' e.symm with ⟨_, T, cs, _, h2⟩ | ⟨h1, _⟩
 ·unfold Blk at h2
  rw [k3] at h2
  cases h2
 ·omega
end
theorem MapV.at_ {P : Program} {k : TypeId} {w w' : World} {b n : Nat} {l : List (Value × Value)} (h : MapV P k w b n l) (hk : ∀ o, w.heap[b]? = some o → (∀ x, o ≠ .deferred x) → w'.heap[b]? = some o) : MapV P k w' b n l := by
 obtain ⟨es, clock, h1, h2⟩ := h
 exact ⟨es, clock, hk _ h1 (fun x e => by cases e), h2⟩
theorem Soft.mono2 {b m c : Nat} {U : List Nat} {A B : World} (h : Soft b m U A B) (hb : c ≤ b) (hm : c ≤ m := by omega) : Soft c c U A B := let ⟨row, hg, hr⟩ := h; ⟨row, hg, fun g e => by
 rcases hr g e with ⟨h1, h3⟩ | ⟨h1, h2⟩
 ·exact .inl ⟨Nat.le_trans hb h1, h3⟩
 ·exact .inr ⟨Nat.le_trans hm h1, h2⟩⟩
/-- what stays in a round: kept by what is new, and by turning the loop's own object l -/
structure FrOk (Fr : World → World → Prop) (l : Nat) : Prop where
 below : ∀ {A B : World}, Below A.heap.size A B → Fr A B
 put : ∀ {A : World} {o o' : Obj}, A.heap[l]? = some o → o.isCells = false → Fr A (A.putObj l o')
 trans : ∀ {A B C : World}, Fr A B → Fr B C → A.heap.size ≤ B.heap.size → Fr A C
/-- all blocks from b on, and below c, are as they were -/
def Same (b c : Nat) (A B : World) : Prop := ∀ j, b ≤ j → j < c → j < A.heap.size → B.heap[j]? = A.heap[j]?
theorem Same.below {b c : Nat} {A B : World} (h : Below A.heap.size A B) : Same b c A B := fun j _ _ h3 => h.block j h3
theorem Same.trans {b c : Nat} {A B C : World} (h : Same b c A B) (k : Same b c B C) (hs : A.heap.size ≤ B.heap.size) : Same b c A C := fun j h1 h2 h3 => (k j h1 h2 (Nat.lt_of_lt_of_le h3 hs)).trans (h j h1 h2 h3)
theorem Same.grown {b c : Nat} {A B : World} {row : Option Nat} (h : A.grownBy B row) (hr : ∀ g, row = some g → g < b ∨ c ≤ g) : Same b c A B := fun j h1 h2 h3 => h.block j h3 fun e => by rcases hr j e.symm with h4 | h4 <;> omega
theorem Same.refl {b c : Nat} (A : World) : Same b c A A := fun _ _ _ _ => rfl
theorem QHc {b c l : Nat} (h : l < b ∨ c ≤ l) : FrOk (Same b c) l := ⟨Same.below, fun ho _ j h1 h2 _ => World.putObj_heap_other (by rcases h with h | h <;> omega), Same.trans⟩
/-- all blocks from b on are as they were -/
def Zu (b : Nat) (A B : World) : Prop := ∀ j, b ≤ j → j < A.heap.size → B.heap[j]? = A.heap[j]?
theorem Zu.below {b : Nat} {A B : World} (h : Below A.heap.size A B) : Zu b A B := fun j _ h3 => h.block j h3
theorem Zu.trans {b : Nat} {A B C : World} (h : Zu b A B) (k : Zu b B C) (hs : A.heap.size ≤ B.heap.size) : Zu b A C := fun j h1 h3 => (k j h1 (Nat.lt_of_lt_of_le h3 hs)).trans (h j h1 h3)
theorem Zu.refl {b : Nat} (A : World) : Zu b A A := fun _ _ _ => rfl
theorem Zu.grown {b : Nat} {A B : World} {row : Option Nat} (h : A.grownBy B row) (hr : ∀ g, row = some g → g < b) : Zu b A B := fun j h1 h3 => h.block j h3 fun e => by have := hr j e.symm; omega
theorem QGE {b l : Nat} (h : l < b) : FrOk (Zu b) l := ⟨Zu.below, fun ho _ j h1 _ => World.putObj_heap_other (by omega), Zu.trans⟩
def QFA (Fr : Nat → World → World → Prop) (n0 : Nat) (S : List Nat) (l : Nat) (J Jx : List It → World → Prop) (pre : List It) (W : World) (e : Ending) (W' : World) : Prop :=
 Kp n0 S W W' ∧ ZT (l + 1) W W' ∧ Fr l W W' ∧ ((e = .returned (.bool true) ∧ J pre W') ∨ (e = .returned (.bool false) ∧ Jx pre W'))
def QDo (Fr : Nat → World → World → Prop) (U : List Nat) (P : Program) (gf : Nat) (caps : Array Value) (ok : It → World → Prop) (n0 : Nat) (S : List Nat) (all : List (List Int)) (w : World) : Prop :=
 ∀ (l : Nat) (J Jx : List It → World → Prop) (W : World), Below w.heap.size w W → w.heap.size ≤ l → l < W.heap.size → Y0 (l + 1) (l + 1) U J → Y0 (l + 1) (l + 1) U Jx →
  (∀ pre x W1, ok x W1 → J pre W1 → (pre ++ [x]).map (·.1) <+: all → QKc P l #[x.2] W1 (QFA Fr n0 S l J Jx (pre ++ [x]) W1)) →
  J [] W → Calls P gf (#[.func (.yield l) #[] #[]] ++ caps) W fun e W' => (∃ v, e = .returned v) ∧ Kp n0 S W W' ∧ ((∃ xs : List It, xs.map (·.1) = all ∧ J xs W') ∨ (∃ pre : List It, pre ≠ [] ∧ pre.map (·.1) <+: all ∧ Jx pre W'))
section
variable {P : Program} {n : Nat} {ds : List Deferred} {σ : Sg} {w : World} {Q : Exit → Act → World → Prop}
/-- a range over a function whose body answers for more (Fr); its variable is no box; the body may leave by ret (its exit: ret) -/
theorem QFO {U : List Nat} {Fr : Nat → World → World → Prop} {k : Nat} {g : Operand} {d : Nat} {assign body : Code} {gf : Nat} {caps : Array Value} (hg : evS σ g = some (.func (.func gf) #[] caps)) (eg : ∀ args w, (callFunc gf args).run P w = .ok (.enter gf args) w) (hd : Nat.blt d n = true)
  {ok : It → World → Prop} {n0 : Nat} {S : List Nat} {all : List (List Int)} (hit : QDo Fr U P gf caps ok n0 S all w) (hF : FrOk (Fr (w.heap.size + 1)) (w.heap.size + 1)) (hn0 : n0 ≤ w.heap.size)
  (I Ix : List It → World → Prop) (hIS : Y0 w.heap.size w.heap.size U I) (hIxS : Y0 w.heap.size w.heap.size U Ix) (h0 : I [] w) (hok : OwnFrom w.heap.size ok) (σ1 : It → Sg)
  (hassign : ∀ l x W K, (∀ a', EnvG n [] (σ1 x) a' → K a' W) → ECI (some l) 0 P n [] assign (Exit.then K (fun _ _ _ => False)) (ins σ d x.2) W)
  (hbody : ∀ l pre x W, (pre ++ [x]).map (·.1) <+: all → ok x W → I pre W → w.heap.size + 2 ≤ W.heap.size → ECI (some l) 0 P n [] body (fun e _ W' => ZT w.heap.size W W' ∧ Kp n0 S W W' ∧ Fr (w.heap.size + 1) W W' ∧ ((e = .normal ∧ I (pre ++ [x]) W') ∨ (e = .ret ∧ Ix (pre ++ [x]) W'))) (σ1 x) W)
  (hdone : ∀ D xs W, w.heap.size ≤ D → xs.map (·.1) = all → I xs W → Kp n0 S w W → W.heap[D]? = some (.deferred (some [])) → EXI n ({ target := .collected D, args := #[] } :: ds) Q .normal σ W)
  (hstop : ∀ D pre W, w.heap.size ≤ D → pre ≠ [] → pre.map (·.1) <+: all → Ix pre W → Kp n0 S w W → W.heap[D]? = some (.deferred (some [])) → EXI n ({ target := .collected D, args := #[] } :: ds) Q .ret σ W) :
  ECI none k P n ds (.rangeFunc g #[d] assign body) Q σ w := fun a ha => by
 have hI := hIS.own;have hIx := hIxS.own;refine wpIn_rangeFunc fun fn hfn => ?_
 obtain ⟨rec, hrec⟩ : ∃ rec : LoopState → Option Code → Loop, rec = fun st pe => { state := st, pending := pe, fn, tmps := a.tmps, params := #[d], assign, body, defers := w.heap.size } := ⟨_, rfl⟩
 obtain ⟨W1, eW1⟩ : ∃ W1, W1 = (w.alloc (.deferred (some []))).alloc (.loop (rec .ready none)) := ⟨_, rfl⟩;have hL := World.alloc_heap_new (w.alloc (.deferred (some []))) (.loop (rec .ready none));rw [World.size_alloc, ← eW1] at hL;have hD : W1.heap[w.heap.size]? = some (.deferred (some [])) := by rw [eW1]; exact (Below.heap_alloc _ _ _ (by simp)).trans (World.alloc_heap_new w _)
 have hs1 : W1.heap.size = w.heap.size + 2 := by rw [eW1]; simp
 have hI1 : I [] W1 := by rw [eW1]; exact hI.alloc _ (hI.alloc _ h0)
 have hB1 : Below w.heap.size w W1 := by rw [eW1]; exact ((Below.refl w.heap.size w).alloc (Nat.le_refl _) _).alloc (by simp) _
 have hK1 : Kp n0 S w W1 := by rw [eW1]; exact (Kp.alloc w hn0 _).trans (Kp.alloc _ (by simp; omega) _)
 refine ⟨w.heap.size + 1, [{ target := .collected w.heap.size, args := #[] }], W1, { target := .fn (.func gf) caps, args := #[.func (.yield (w.heap.size + 1)) #[] #[]] }, W1, gf, #[.func (.yield (w.heap.size + 1)) #[] #[]] ++ caps, W1, ?_, ?_, ?_, ?_, QBY _ _, ?_⟩
 ·rw [eW1, hrec]; exact run_enterLoop_outer _ _ _ _ _
 ·simp only [resolve, ha.eval hg]
  simp [go_sem]
 ·intro f' hf'; trivial
 ·simp [invoke, go_sem, eg]
 ·refine CallsIn.mono (QCG (hit (w.heap.size + 1) (fun pre W => I pre W ∧ w.heap.size + 2 ≤ W.heap.size ∧ W.heap[w.heap.size + 1]? = some (.loop (rec .ready none)) ∧ W.heap[w.heap.size]? = some (.deferred (some [])))
   (fun pre W => Ix pre W ∧ w.heap.size + 2 ≤ W.heap.size ∧ W.heap[w.heap.size + 1]? = some (.loop (rec .done (some .ret))) ∧ W.heap[w.heap.size]? = some (.deferred (some [])))
   W1 hB1 (by omega) (by omega) ?_ ?_ ?_ ⟨hI1, by omega, hL, hD⟩)) ?_
  ·rintro s A B ⟨h1, h2, h3, h4⟩ hb
   exact ⟨hIS s A B h1 (hb.mono2 (by omega)), Nat.le_trans h2 hb.size, hb.other h3 rfl (by omega), hb.other h4 rfl (by omega)⟩
  ·rintro s A B ⟨h1, h2, h3, h4⟩ hb
   exact ⟨hIxS s A B h1 (hb.mono2 (by omega)), Nat.le_trans h2 hb.size, hb.other h3 rfl (by omega), hb.other h4 rfl (by omega)⟩
  ·rintro pre x W hokx ⟨hi, hsz, hl, hk⟩ hpf
   have hlt : w.heap.size + 1 < W.heap.size := by omega
   have hy := run_yield (P := P) (args := #[x.2]) hl (by rw [hrec]; rfl)
   rw [hrec] at hy;refine ⟨fn, _, assign, body, hy, roundIn_of_wpIn hfn (hassign (w.heap.size + 1) x W _ (fun a' ha' => ?_) _ (QIA ha hd))⟩
   refine ⟨_, run_beginRound hl (by rw [hrec]), ?_⟩
   obtain ⟨W2, eW2⟩ : ∃ W2, W2 = W.putObj (w.heap.size + 1) (.loop { rec .ready none with state := .busy }) := ⟨_, rfl⟩;have hl2 : W2.heap[w.heap.size + 1]? = some (.loop { rec .ready none with state := .busy }) := by rw [eW2]; exact World.putObj_heap_same hlt
   have hk2 : W2.heap[w.heap.size]? = some (.deferred (some [])) := by rw [eW2]; exact (World.putObj_heap_other (by omega)).trans hk
   have hw2 : Kp n0 S W W2 := by rw [eW2]; exact Kp.putObj _ (by omega) hl rfl
   have hkw2 : ZT (w.heap.size + 1 + 1) W W2 := fun j o hj ho _ => by rw [eW2]; exact (World.putObj_heap_other (by omega)).trans ho
   have hF2 : Fr (w.heap.size + 1) W W2 := by rw [eW2]; exact hF.put hl rfl
   have hi2 : I pre W2 := by rw [eW2]; exact hI.putObj _ hi (by omega) hl rfl
   have hok2 : ok x W2 := by rw [eW2]; exact hok.putObj _ hokx (by omega) hl rfl
   have hsz2 : w.heap.size + 2 ≤ W2.heap.size := Nat.le_trans hsz hw2.size;rw [← eW2];refine wpIn_mono (hbody (w.heap.size + 1) pre x W2 hpf hok2 hi2 hsz2 a' ha') ?_
   rintro e a3 W3 ⟨hk3, hp3, hf3, h3⟩
   have hl3 := hk3 _ _ (by omega) hl2 rfl
   have hd3 := hk3 _ _ (by omega) hk2 rfl
   have fin : ∀ jump : Option Code, ∃ W4, (Instr.endRound (w.heap.size + 1) jump).run P W3 = .ok (.bool jump.isNone) W4 ∧ W4 = W3.putObj (w.heap.size + 1) (.loop (rec (if jump.isNone then .ready else .done) jump)) ∧ (Kp n0 S W W4 ∧ ZT (w.heap.size + 1 + 1) W W4 ∧ Fr (w.heap.size + 1) W W4) ∧ w.heap.size + 2 ≤ W4.heap.size ∧ W4.heap[w.heap.size + 1]? = some (.loop (rec (if jump.isNone then .ready else .done) jump)) ∧ W4.heap[w.heap.size]? = some (.deferred (some [])) := fun jump => by
    have hr := run_endRound (P := P) jump hl3;rw [hrec] at hr ⊢;have hk4 : Kp n0 S W3 (W3.putObj (w.heap.size + 1) (.loop (rec (if jump.isNone then .ready else .done) jump))) := Kp.putObj _ (by omega) hl3 rfl
    rw [hrec] at hk4
    exact ⟨_, hr, rfl, ⟨hw2.trans (hp3.trans hk4), (hkw2.trans (hk3.mono (by omega))).trans fun j o hj ho _ => (World.putObj_heap_other (by omega)).trans ho, hF.trans (hF.trans hF2 hf3 hw2.size) (hF.put hl3 rfl) (Nat.le_trans hw2.size hp3.size)⟩, Nat.le_trans hsz2 (Nat.le_trans hp3.size hk4.size), World.putObj_heap_same (Array.getElem?_eq_some_iff.1 hl3).1, (World.putObj_heap_other (by omega)).trans hd3⟩
   rcases h3 with ⟨rfl, hi3⟩ | ⟨rfl, hi3⟩
   ·obtain ⟨W4, hr, e4, k4, s4, l4, d4⟩ := fin none
    exact ⟨_, W4, hr, k4.1, k4.2.1, k4.2.2, .inl ⟨rfl, by rw [e4]; exact hI.putObj _ hi3 (by omega) hl3 rfl, s4, l4, d4⟩⟩
   ·obtain ⟨W4, hr, e4, k4, s4, l4, d4⟩ := fin (some .ret)
    exact ⟨_, W4, hr, k4.1, k4.2.1, k4.2.2, .inr ⟨rfl, by rw [e4]; exact hIx.putObj _ hi3 (by omega) hl3 rfl, s4, l4, d4⟩⟩
  ·rintro e W2 ⟨⟨v, rfl⟩, hkk, ⟨xs, hS, hi, hsz, hl, hk⟩ | ⟨pre, hne, hS, hi, hsz, hl, hk⟩⟩
   ·refine ⟨none, _, by have := run_endLoop (P := P) hl (by rw [hrec]; simp); rw [hrec] at this; exact this, ?_⟩
    exact hdone w.heap.size xs _ (Nat.le_refl _) hS (hI.putObj _ hi (by omega) hl rfl) (hK1.trans (hkk.trans (Kp.putObj _ (by omega) hl rfl))) ((World.putObj_heap_other (by omega)).trans hk) _ ⟨ha.env, by rw [List.singleton_append, ha.ds]⟩
   ·refine ⟨some .ret, _, by have := run_endLoop (P := P) hl (by rw [hrec]; simp); rw [hrec] at this; exact this, wpIn_ret ?_⟩
    exact hstop w.heap.size pre _ (Nat.le_refl _) hne hS (hIx.putObj _ hi (by omega) hl rfl) (hK1.trans (hkk.trans (Kp.putObj _ (by omega) hl rfl))) ((World.putObj_heap_other (by omega)).trans hk) _ ⟨ha.env, by rw [List.singleton_append, ha.ds]⟩
/-- a range over a function whose body answers for more (Fr); its variable is no box; the body may leave by JC (its exit: (.exit xi)) -/
theorem QKx {U : List Nat} {Fr : Nat → World → World → Prop} {k : Nat} {g : Operand} {d : Nat} {assign body : Code} {gf : Nat} {caps : Array Value} (hg : evS σ g = some (.func (.func gf) #[] caps)) (eg : ∀ args w, (callFunc gf args).run P w = .ok (.enter gf args) w) (hd : Nat.blt d n = true) {xi : Nat}
  {ok : It → World → Prop} {n0 : Nat} {S : List Nat} {all : List (List Int)} (hit : QDo Fr U P gf caps ok n0 S all w) (hF : FrOk (Fr (w.heap.size + 1)) (w.heap.size + 1)) (hn0 : n0 ≤ w.heap.size)
  (I Ix : List It → World → Prop) (hIS : Y0 w.heap.size w.heap.size U I) (hIxS : Y0 w.heap.size w.heap.size U Ix) (h0 : I [] w) (hok : OwnFrom w.heap.size ok) (σ1 : It → Sg)
  (hassign : ∀ l x W K, (∀ a', EnvG n [] (σ1 x) a' → K a' W) → ECI (some l) 0 P n [] assign (Exit.then K (fun _ _ _ => False)) (ins σ d x.2) W)
  (hbody : ∀ l pre x W, (pre ++ [x]).map (·.1) <+: all → ok x W → I pre W → w.heap.size + 2 ≤ W.heap.size → ECI (some l) 0 P n [] body (fun e _ W' => ZT w.heap.size W W' ∧ Kp n0 S W W' ∧ Fr (w.heap.size + 1) W W' ∧ ((e = .normal ∧ I (pre ++ [x]) W') ∨ (e = (.exit xi) ∧ Ix (pre ++ [x]) W'))) (σ1 x) W)
  (hdone : ∀ D xs W, w.heap.size ≤ D → xs.map (·.1) = all → I xs W → Kp n0 S w W → W.heap[D]? = some (.deferred (some [])) → EXI n ({ target := .collected D, args := #[] } :: ds) Q .normal σ W)
  (hstop : ∀ D pre W, w.heap.size ≤ D → pre ≠ [] → pre.map (·.1) <+: all → Ix pre W → Kp n0 S w W → W.heap[D]? = some (.deferred (some [])) → EXI n ({ target := .collected D, args := #[] } :: ds) Q (.exit xi) σ W) :
  ECI none k P n ds (.rangeFunc g #[d] assign body) Q σ w := fun a ha => by
 have hI := hIS.own;have hIx := hIxS.own;refine wpIn_rangeFunc fun fn hfn => ?_
 obtain ⟨rec, hrec⟩ : ∃ rec : LoopState → Option Code → Loop, rec = fun st pe => { state := st, pending := pe, fn, tmps := a.tmps, params := #[d], assign, body, defers := w.heap.size } := ⟨_, rfl⟩
 obtain ⟨W1, eW1⟩ : ∃ W1, W1 = (w.alloc (.deferred (some []))).alloc (.loop (rec .ready none)) := ⟨_, rfl⟩;have hL := World.alloc_heap_new (w.alloc (.deferred (some []))) (.loop (rec .ready none));rw [World.size_alloc, ← eW1] at hL;have hD : W1.heap[w.heap.size]? = some (.deferred (some [])) := by rw [eW1]; exact (Below.heap_alloc _ _ _ (by simp)).trans (World.alloc_heap_new w _)
 have hs1 : W1.heap.size = w.heap.size + 2 := by rw [eW1]; simp
 have hI1 : I [] W1 := by rw [eW1]; exact hI.alloc _ (hI.alloc _ h0)
 have hB1 : Below w.heap.size w W1 := by rw [eW1]; exact ((Below.refl w.heap.size w).alloc (Nat.le_refl _) _).alloc (by simp) _
 have hK1 : Kp n0 S w W1 := by rw [eW1]; exact (Kp.alloc w hn0 _).trans (Kp.alloc _ (by simp; omega) _)
 refine ⟨w.heap.size + 1, [{ target := .collected w.heap.size, args := #[] }], W1, { target := .fn (.func gf) caps, args := #[.func (.yield (w.heap.size + 1)) #[] #[]] }, W1, gf, #[.func (.yield (w.heap.size + 1)) #[] #[]] ++ caps, W1, ?_, ?_, ?_, ?_, QBY _ _, ?_⟩
 ·rw [eW1, hrec]; exact run_enterLoop_outer _ _ _ _ _
 ·simp only [resolve, ha.eval hg]
  simp [go_sem]
 ·intro f' hf'; trivial
 ·simp [invoke, go_sem, eg]
 ·refine CallsIn.mono (QCG (hit (w.heap.size + 1) (fun pre W => I pre W ∧ w.heap.size + 2 ≤ W.heap.size ∧ W.heap[w.heap.size + 1]? = some (.loop (rec .ready none)) ∧ W.heap[w.heap.size]? = some (.deferred (some [])))
   (fun pre W => Ix pre W ∧ w.heap.size + 2 ≤ W.heap.size ∧ W.heap[w.heap.size + 1]? = some (.loop (rec .done (some (.exit xi)))) ∧ W.heap[w.heap.size]? = some (.deferred (some [])))
   W1 hB1 (by omega) (by omega) ?_ ?_ ?_ ⟨hI1, by omega, hL, hD⟩)) ?_
  ·rintro s A B ⟨h1, h2, h3, h4⟩ hb
   exact ⟨hIS s A B h1 (hb.mono2 (by omega)), Nat.le_trans h2 hb.size, hb.other h3 rfl (by omega), hb.other h4 rfl (by omega)⟩
  ·rintro s A B ⟨h1, h2, h3, h4⟩ hb
   exact ⟨hIxS s A B h1 (hb.mono2 (by omega)), Nat.le_trans h2 hb.size, hb.other h3 rfl (by omega), hb.other h4 rfl (by omega)⟩
  ·rintro pre x W hokx ⟨hi, hsz, hl, hk⟩ hpf
   have hlt : w.heap.size + 1 < W.heap.size := by omega
   have hy := run_yield (P := P) (args := #[x.2]) hl (by rw [hrec]; rfl)
   rw [hrec] at hy;refine ⟨fn, _, assign, body, hy, roundIn_of_wpIn hfn (hassign (w.heap.size + 1) x W _ (fun a' ha' => ?_) _ (QIA ha hd))⟩
   refine ⟨_, run_beginRound hl (by rw [hrec]), ?_⟩
   obtain ⟨W2, eW2⟩ : ∃ W2, W2 = W.putObj (w.heap.size + 1) (.loop { rec .ready none with state := .busy }) := ⟨_, rfl⟩;have hl2 : W2.heap[w.heap.size + 1]? = some (.loop { rec .ready none with state := .busy }) := by rw [eW2]; exact World.putObj_heap_same hlt
   have hk2 : W2.heap[w.heap.size]? = some (.deferred (some [])) := by rw [eW2]; exact (World.putObj_heap_other (by omega)).trans hk
   have hw2 : Kp n0 S W W2 := by rw [eW2]; exact Kp.putObj _ (by omega) hl rfl
   have hkw2 : ZT (w.heap.size + 1 + 1) W W2 := fun j o hj ho _ => by rw [eW2]; exact (World.putObj_heap_other (by omega)).trans ho
   have hF2 : Fr (w.heap.size + 1) W W2 := by rw [eW2]; exact hF.put hl rfl
   have hi2 : I pre W2 := by rw [eW2]; exact hI.putObj _ hi (by omega) hl rfl
   have hok2 : ok x W2 := by rw [eW2]; exact hok.putObj _ hokx (by omega) hl rfl
   have hsz2 : w.heap.size + 2 ≤ W2.heap.size := Nat.le_trans hsz hw2.size;rw [← eW2];refine wpIn_mono (hbody (w.heap.size + 1) pre x W2 hpf hok2 hi2 hsz2 a' ha') ?_
   rintro e a3 W3 ⟨hk3, hp3, hf3, h3⟩
   have hl3 := hk3 _ _ (by omega) hl2 rfl
   have hd3 := hk3 _ _ (by omega) hk2 rfl
   have fin : ∀ jump : Option Code, ∃ W4, (Instr.endRound (w.heap.size + 1) jump).run P W3 = .ok (.bool jump.isNone) W4 ∧ W4 = W3.putObj (w.heap.size + 1) (.loop (rec (if jump.isNone then .ready else .done) jump)) ∧ (Kp n0 S W W4 ∧ ZT (w.heap.size + 1 + 1) W W4 ∧ Fr (w.heap.size + 1) W W4) ∧ w.heap.size + 2 ≤ W4.heap.size ∧ W4.heap[w.heap.size + 1]? = some (.loop (rec (if jump.isNone then .ready else .done) jump)) ∧ W4.heap[w.heap.size]? = some (.deferred (some [])) := fun jump => by
    have hr := run_endRound (P := P) jump hl3;rw [hrec] at hr ⊢;have hk4 : Kp n0 S W3 (W3.putObj (w.heap.size + 1) (.loop (rec (if jump.isNone then .ready else .done) jump))) := Kp.putObj _ (by omega) hl3 rfl
    rw [hrec] at hk4
    exact ⟨_, hr, rfl, ⟨hw2.trans (hp3.trans hk4), (hkw2.trans (hk3.mono (by omega))).trans fun j o hj ho _ => (World.putObj_heap_other (by omega)).trans ho, hF.trans (hF.trans hF2 hf3 hw2.size) (hF.put hl3 rfl) (Nat.le_trans hw2.size hp3.size)⟩, Nat.le_trans hsz2 (Nat.le_trans hp3.size hk4.size), World.putObj_heap_same (Array.getElem?_eq_some_iff.1 hl3).1, (World.putObj_heap_other (by omega)).trans hd3⟩
   rcases h3 with ⟨rfl, hi3⟩ | ⟨rfl, hi3⟩
   ·obtain ⟨W4, hr, e4, k4, s4, l4, d4⟩ := fin none
    exact ⟨_, W4, hr, k4.1, k4.2.1, k4.2.2, .inl ⟨rfl, by rw [e4]; exact hI.putObj _ hi3 (by omega) hl3 rfl, s4, l4, d4⟩⟩
   ·obtain ⟨W4, hr, e4, k4, s4, l4, d4⟩ := fin (some (.exit xi))
    exact ⟨_, W4, hr, k4.1, k4.2.1, k4.2.2, .inr ⟨rfl, by rw [e4]; exact hIx.putObj _ hi3 (by omega) hl3 rfl, s4, l4, d4⟩⟩
  ·rintro e W2 ⟨⟨v, rfl⟩, hkk, ⟨xs, hS, hi, hsz, hl, hk⟩ | ⟨pre, hne, hS, hi, hsz, hl, hk⟩⟩
   ·refine ⟨none, _, by have := run_endLoop (P := P) hl (by rw [hrec]; simp); rw [hrec] at this; exact this, ?_⟩
    exact hdone w.heap.size xs _ (Nat.le_refl _) hS (hI.putObj _ hi (by omega) hl rfl) (hK1.trans (hkk.trans (Kp.putObj _ (by omega) hl rfl))) ((World.putObj_heap_other (by omega)).trans hk) _ ⟨ha.env, by rw [List.singleton_append, ha.ds]⟩
   ·refine ⟨some (.exit xi), _, by have := run_endLoop (P := P) hl (by rw [hrec]; simp); rw [hrec] at this; exact this, wpIn_exit ?_⟩
    exact hstop w.heap.size pre _ (Nat.le_refl _) hne hS (hIx.putObj _ hi (by omega) hl rfl) (hK1.trans (hkk.trans (Kp.putObj _ (by omega) hl rfl))) ((World.putObj_heap_other (by omega)).trans hk) _ ⟨ha.env, by rw [List.singleton_append, ha.ds]⟩
end
/-! ### What turns blocks of some types, at some places -/
inductive TurnsS (p : Nat → Prop) (U : List Nat) (A : World) : World → Prop
 | refl : TurnsS p U A A
 | more {B C : World} (h : TurnsS p U A B) (hb : Below B.heap.size B C) : TurnsS p U A C
 | turn {B C : World} {g T : Nat} {cs : Array Value} (h : TurnsS p U A B) (hg : B.grownBy C (some g)) (hp : p g) (hT : memB U T = true) (hq : Blk B g T cs) : TurnsS p U A C
section
variable {p : Nat → Prop} {U : List Nat} {A B C : World}
theorem TurnsS.size (h : TurnsS p U A B) : A.heap.size ≤ B.heap.size := by
 induction h with
 | refl => exact Nat.le_refl _
 | more _ hb ih => exact Nat.le_trans ih hb.size
 | turn _ hg _ _ _ ih => exact Nat.le_trans ih hg.size
theorem TurnsS.trans (h : TurnsS p U A B) (k : TurnsS p U B C) : TurnsS p U A C := by
 induction k with
 | refl => exact h
 | more _ hb ih => exact .more ih hb
 | turn _ hg hp hT hq ih => exact .turn ih hg hp hT hq
theorem TurnsS.of_below (hb : Below A.heap.size A B) : TurnsS p U A B := .more .refl hb
theorem Yq {g h T T2 : Nat} {cs ds : Array Value} (hq : Blk A g T cs) (hr : Blk A h T2 ds) (h1 : memB U T = false) (h2 : memB U T2 = true) : g ≠ h := fun e => by
 subst e
 unfold Blk at hq hr
 rw [hq] at hr
 injection hr with hr
 injection hr with _ hr
 rw [← hr, h1] at h2
 cases h2
theorem TurnsS.blk {g T : Nat} {cs : Array Value} (h : TurnsS p U A B) (hq : Blk A g T cs) (hT : memB U T = false) : Blk B g T cs := by
 induction h with
 | refl => exact hq
 | more _ hb ih => exact ih.below hb ih.lt
 | turn _ hg _ hT2 hr ih => exact ih.grown hg fun e => Yq ih hr hT hT2 (Option.some.inj e)
theorem TurnsS.row {base e size n : Nat} {v : Value} {xs : List Value} (h : TurnsS p U A B) (ho : A.ownsRow base e size v n xs) (hT : memB U e = false) : B.ownsRow base e size v n xs := by
 obtain ⟨hl, h0 | ⟨g, cap, cur, hv, hb, hk, h1⟩⟩ := ho
 ·exact ⟨hl, .inl h0⟩
 ·exact ⟨hl, .inr ⟨g, cap, cur, hv, hb, h.blk (cs := cur) hk hT, h1⟩⟩
theorem TurnsS.keeps (h : TurnsS p U A B) : KeepsOthers A B := by
 induction h with
 | refl => exact ⟨Nat.le_refl _, fun _ _ h _ => h⟩
 | more _ hb ih => exact ⟨Nat.le_trans ih.size hb.size, fun j o hj hc => (QDF hb).same j o (ih.same j o hj hc) hc⟩
 | turn _ hg _ _ hq ih => exact ⟨Nat.le_trans ih.size hg.size, fun j o hj hc => (YJ hq hg).same j o (ih.same j o hj hc) hc⟩
theorem TurnsS.kp {n0 : Nat} {S : List Nat} (h : TurnsS p U A B) (hS : ∀ T, memB U T = true → memB S T = true) (hp : ∀ g, p g → n0 ≤ g) (hn : n0 ≤ A.heap.size) : Kp n0 S A B := by
 induction h with
 | refl => exact Kp.refl _ _ _
 | more h hb ih => exact ih.trans (Kp.of_below hb (Nat.le_trans hn h.size))
 | turn _ hg h1 h2 hq ih => exact ih.trans (Kp.grown hq (hS _ h2) (hp _ h1) hg)
theorem TurnsS.same {b c : Nat} (h : TurnsS p U A B) (hp : ∀ g, p g → g < b ∨ c ≤ g) : Same b c A B := by
 induction h with
 | refl => exact Same.refl _
 | more h hb ih => exact ih.trans (Same.below hb) h.size
 | turn h hg h1 _ _ ih => exact ih.trans (Same.grown hg fun g e => by injection e with e; subst e; exact hp _ h1) h.size
/-- an assertion that stays through single turns stays through all -/
theorem TurnsS.keep {J : World → Prop} (h : TurnsS p U A B) (hJ : ∀ X Y, J X → A.heap.size ≤ X.heap.size → Below X.heap.size X Y → J Y) (hK : ∀ X Y g T cs, J X → X.grownBy Y (some g) → p g → memB U T = true → Blk X g T cs → J Y) (h0 : J A) : J B := by
 induction h with
 | refl => exact h0
 | more h hb ih => exact hJ _ _ ih h.size hb
 | turn _ hg h1 h2 hq ih => exact hK _ _ _ _ _ ih hg h1 h2 hq
end
/-! ### Drafts and piles -/
theorem YI {w : World} {base b e size n : Nat} {v : Value} {xs : List Value} (ho : w.ownsRow base e size v n xs) (h : b ≤ base) : w.ownsRow b e size v n xs := by
 obtain ⟨hl, h0 | ⟨g, cap, cur, hv, hb, hk, h1⟩⟩ := ho
 ·exact ⟨hl, .inl h0⟩
 ·exact ⟨hl, .inr ⟨g, cap, cur, hv, Nat.le_trans h hb, hk, h1⟩⟩
structure OwnDr (w : World) (base : Nat) (v : Value) (d : Dr) : Prop where
 at_ : ∃ b sl, v = .pointer (some ⟨b, 0, none⟩) ∧ base ≤ b ∧ Blk w b 124 (stC d.s ++ [sl]).toArray ∧ w.ownsRow base 87 2 sl d.plan.length (spsC d.plan)
section
variable {w w' : World} {base : Nat} {v : Value} {d : Dr}
theorem QK4 : ∀ {l : List Value} {k : Nat} {u : Value}, l[k]? = some u → nth l k = some u := fun {l k u} h => (QG8 l k).trans h
theorem OwnDr.rd (h : OwnDr w base v d) : RdDr w w.heap.size v d := by
 obtain ⟨b, sl, e, _, hq, hr⟩ := h.at_
 exact ⟨b, sl, e, hq.lt, fun j u hu => hq.at (QK4 hu), Rd.of_own hr⟩
theorem OwnDr.below (h : OwnDr w base v d) (hb : Below w.heap.size w w') : OwnDr w' base v d := by
 obtain ⟨b, sl, e, h1, hq, hr⟩ := h.at_
 exact ⟨b, sl, e, h1, hq.below hb hq.lt, ZB hr hb (Nat.le_refl _)⟩
theorem OwnDr.turn {p : Nat → Prop} {U : List Nat} (h : OwnDr w base v d) (ht : TurnsS p U w w') (h1 : memB U 124 = false) (h2 : memB U 87 = false) : OwnDr w' base v d := by
 obtain ⟨b, sl, e, h3, hq, hr⟩ := h.at_
 exact ⟨b, sl, e, h3, ht.blk hq h1, ht.row hr h2⟩
theorem OwnDr.kp {n0 : Nat} {S : List Nat} (h : OwnDr w base v d) (ht : Kp n0 S w w') (h1 : memB S 124 = false) (h2 : memB S 87 = false) : OwnDr w' base v d := by
 obtain ⟨b, sl, e, h3, hq, hr⟩ := h.at_
 exact ⟨b, sl, e, h3, ht.blk _ _ _ hq h1, ht.row hr h2⟩
theorem OwnDr.soft {b m : Nat} {U : List Nat} (h : OwnDr w base v d) (ht : Soft b m U w w') (h1 : memB U 124 = false) (h2 : memB U 87 = false) : OwnDr w' base v d := by
 obtain ⟨c, sl, e, h3, hq, hr⟩ := h.at_
 exact ⟨c, sl, e, h3, ht.blk hq h1, ht.row hr h2⟩
theorem OwnDr.mono {b : Nat} (h : OwnDr w base v d) (hb : b ≤ base) : OwnDr w b v d := by
 obtain ⟨c, sl, e, h3, hq, hr⟩ := h.at_
 exact ⟨c, sl, e, Nat.le_trans hb h3, hq, YI hr hb⟩
end
abbrev VD := Value × Dr
def vd0 : VD := (undef, dr0)
theorem QBR {w : World} {B n c : Nat} {A : Option Addr} {xs : List Value} (hr : Rd w B 1 (.slice A n c) n xs) {k : Nat} (hk : k < xs.length) : ∃ b off, A = some ⟨b, off, none⟩ ∧ b < B ∧ w.cell? ⟨b, off + k, none⟩ = some (xs.getD k undef) := by
 have hn : n * 1 = xs.length := hr.len.symm;obtain ⟨b, off, e, hb, hc⟩ := hr.at_ (by omega)
 exact ⟨b, off, e, hb, hc k _ (by rw [Zg hk]; exact List.getElem?_eq_getElem hk)⟩
theorem QAK {w : World} {base e g m c : Nat} {xs : List Value} (h : w.ownsRow base e 1 (.slice (some ⟨g, 0, none⟩) m c) m xs) {k : Nat} (hk : k < xs.length) : w.cell? ⟨g, 0 + k, none⟩ = some (xs.getD k undef) := by
 obtain ⟨b, off, e1, _, h1⟩ := QBR (Rd.of_own h) hk
 injection e1 with e1
 injection e1 with e2 e3
 subst e2;subst e3
 exact h1
theorem Z6 {w : World} {base e size n : Nat} {v : Value} {xs : List Value} (h : w.ownsRow base e size v n xs) (hn : 0 < n) : ∃ g c, v = .slice (some ⟨g, 0, none⟩) n c := by
 obtain ⟨_, ⟨_, h0⟩ | ⟨g, cap, cur, hv, _⟩⟩ := h
 ·omega
 ·exact ⟨g, cap, hv⟩
theorem QCY {w : World} {base e size n c : Nat} {A : Option Addr} {xs : List Value} (h : w.ownsRow base e size (.slice A n c) n xs) : n ≤ c := by
 obtain ⟨hl, ⟨h0, h1⟩ | ⟨g2, cap, cur, hv, hb, hg, h1, h2, h3, h4⟩⟩ := h
 ·omega
 ·injection hv with _ _ hc
  omega
/-- the first k elements of a row of one's own -/
theorem QIf {w : World} {base e n k g c : Nat} {xs : List Value} (h : w.ownsRow base e 1 (.slice (some ⟨g, 0, none⟩) n c) n xs) (hk : k ≤ n) : w.ownsRow base e 1 (.slice (some ⟨g, 0, none⟩) k c) k (xs.take k) := by
 obtain ⟨hl, ⟨h0, _⟩ | ⟨g2, cap, cur, hv, hb, hg, h1, h2, h3, h4⟩⟩ := h
 ·cases h0
 ·injection hv with hv _ hc
  injection hv with hv
  injection hv with hv _
  subst hv;subst hc;refine ⟨by rw [List.length_take]; omega, .inr ⟨g, c, cur, rfl, hb, hg, by omega, h2, h3, ?_⟩⟩
  rw [← h4, List.take_take]
  congr 1
  omega
theorem QBJ {w w' : World} {g : Nat} (h : Touch w w' [g]) : w.grownBy w' (some g) := ⟨h.os, h.tape, h.output, h.size, fun k hk hn => h.block k hk (by simp; exact fun e => hn (congrArg some e))⟩
theorem TurnsS.own {p : Nat → Prop} {U : List Nat} {A B C : World} {base e size n : Nat} {v : Value} {xs : List Value} (h : TurnsS p U A B) (ho : B.ownsRow base e size v n xs) (hg : B.grownBy C v.ownBlock) (hp : ∀ g, v.ownBlock = some g → p g) (hU : memB U e = true) : TurnsS p U A C := by
 obtain ⟨_, ⟨h0, _⟩ | ⟨g, cap, cur, hv, _, hb, _⟩⟩ := ho
 ·subst h0
  exact .more h ⟨hg.os, hg.tape, hg.output, hg.size, fun k hk => hg.block k hk (fun e => by cases e)⟩
 ·subst hv
  exact .turn (g := g) (T := e) (cs := cur) h hg (hp g rfl) hU hb
theorem QBT {ps : List VD} {k : Nat} (hk : k < ps.length) : (ps.map Prod.fst).getD k undef = (ps.getD k vd0).1 := by
 rw [Zg (by simpa using hk), Zg hk]
 simp
theorem QHY : ∀ (l : List Value) (k : Nat) (v : Value), k < l.length → spl l k [v] = l.set k v := fun l k v hk => by
 rw [QB8 _ _ _ (by simp; omega)]
 simp [List.set_eq_take_append_cons_drop, hk]
/-- two elements change places -/
def swL {α : Type} (l : List α) (i j : Nat) (d : α) : List α := (l.set i (l.getD j d)).set j (l.getD i d)
theorem swL_len {α : Type} (l : List α) (i j : Nat) (d : α) : (swL l i j d).length = l.length := by simp [swL]
theorem QAP {α : Type} {l : List α} {i j : Nat} (d : α) (hi : i < l.length) (hj : j < l.length) : (swL l i j d).Perm l := by
 have h := Array.swap_perm (xs := l.toArray) (i := i) (j := j) (by simpa using hi) (by simpa using hj)
 have h2 := h.toList;rw [Array.toList_swap] at h2
 unfold swL
 rw [Zg hi, Zg hj]
 simpa using h2
theorem QFI {α : Type} {l : List α} {i j : Nat} (d : α) (hi : i < l.length) (hj : j < l.length) (k : Nat) : (swL l i j d).getD k d = swF (fun k => l.getD k d) i j k := by
 unfold swL swF
 simp only [List.getD_eq_getElem?_getD, List.getElem?_set, List.length_set]
 by_cases e1 : k = j
 ·subst e1
  by_cases e2 : k = i
  ·subst e2
   simp [hi]
  ·have e3 : ¬i = k := fun h => e2 h.symm
   simp [hj, e2, e3]
 ·have e4 : ¬j = k := fun h => e1 h.symm
  by_cases e2 : k = i
  ·subst e2
   simp [hi, e4]
  ·have e3 : ¬i = k := fun h => e2 h.symm
   simp [e1, e2, e3, e4]
theorem QKn {ps : List VD} {i j : Nat} (hi : i < ps.length) (hj : j < ps.length) : (swL ps i j vd0).map Prod.fst = ((ps.map Prod.fst).set i ((ps.getD j vd0).1)).set j ((ps.getD i vd0).1) := by
 unfold swL
 rw [List.map_set, List.map_set]
/-- a pile of one's own: its box bp, its row, its drafts; what may turn lies where p says -/
structure PileAt (p : Nat → Prop) (w : World) (base bp : Nat) (sl : Value) (ps : List VD) : Prop where
 box : Blk w bp 145 #[sl]
 pb : p bp
 row : w.ownsRow base 122 1 sl ps.length (ps.map Prod.fst)
 pr : ∀ g, sl.ownBlock = some g → p g
 drs : ∀ x ∈ ps, OwnDr w base x.1 x.2
theorem PileAt.below {p : Nat → Prop} {w w' : World} {base bp : Nat} {sl : Value} {ps : List VD} (h : PileAt p w base bp sl ps) (hb : Below w.heap.size w w') : PileAt p w' base bp sl ps :=
 ⟨h.box.below hb h.box.lt, h.pb, ZB h.row hb (Nat.le_refl _), h.pr, fun x hx => (h.drs x hx).below hb⟩
theorem PileAt.kp {p : Nat → Prop} {w w' : World} {base bp n0 : Nat} {S : List Nat} {sl : Value} {ps : List VD} (h : PileAt p w base bp sl ps) (hk : Kp n0 S w w') (h1 : memB S 124 = false) (h2 : memB S 87 = false) (h3 : memB S 145 = false) (h4 : memB S 122 = false) : PileAt p w' base bp sl ps :=
 ⟨hk.blk _ _ _ h.box h3, h.pb, hk.row h.row h4, h.pr, fun x hx => (h.drs x hx).kp hk h1 h2⟩
theorem PileAt.soft {p : Nat → Prop} {w w' : World} {base bp b m : Nat} {U : List Nat} {sl : Value} {ps : List VD} (h : PileAt p w base bp sl ps) (hk : Soft b m U w w') (h1 : memB U 124 = false) (h2 : memB U 87 = false) (h3 : memB U 145 = false) (h4 : memB U 122 = false) : PileAt p w' base bp sl ps :=
 ⟨hk.blk h.box h3, h.pb, hk.row h.row h4, h.pr, fun x hx => (h.drs x hx).soft hk h1 h2⟩
theorem PileAt.dr {p : Nat → Prop} {w : World} {base bp : Nat} {sl : Value} {ps : List VD} (h : PileAt p w base bp sl ps) {k : Nat} (hk : k < ps.length) : OwnDr w base (ps.getD k vd0).1 (ps.getD k vd0).2 := h.drs _ (Zo hk vd0)
/-- what holds of each element of a pile stays when they change places -/
def gD (ps : List VD) : Nat → Dr := fun k => (ps.getD k vd0).2
theorem QGf {ps : List VD} {i j : Nat} (hi : i < ps.length) (hj : j < ps.length) : gD (swL ps i j vd0) = swF (gD ps) i j := by
 funext k
 unfold gD
 rw [QFI vd0 hi hj]
 unfold swF
 split
 ·rfl
 ·split <;> rfl
theorem QJD (k : Nat) : ((k : Int) - 1).tdiv 2 = (parN k : Nat) := by
 unfold parN
 by_cases h : k = 0
 ·subst h; rfl
 ·rw [Int.tdiv_eq_ediv_of_nonneg (by omega)]
  omega
theorem QBS {a b : Dr} (h : ¬cmpD a b < 0) : leD b a := Classical.byContradiction fun hn => h (QJy.2 hn)
theorem QCj {a b : Dr} (h : cmpD a b < 0) : leD a b := Int.le_of_lt h
section
variable {n i : Nat} {g : Nat → Dr}
theorem DnI.fin1 (h : DnI n g i) (h1 : n ≤ 2 * i + 1) : YN n g := h.done fun k k0 kn e => by unfold parN at e; omega
theorem DnI.fin (h : DnI n g i) {j : Nat} (hm : ∀ k, 0 < k → k < n → parN k = i → leD (g j) (g k)) (hl : leD (g i) (g j)) : YN n g := h.done fun k k0 kn e => Y3 hl (hm k k0 kn e)
theorem QKR {k : Nat} (h0 : 0 < k) (h : parN k = i) : k = 2 * i + 1 ∨ k = 2 * i + 1 + 1 := by
 unfold parN at h
 omega
theorem QHs (h : n ≤ 2 * i + 1 + 1) : ∀ k, 0 < k → k < n → parN k = i → leD (g (2 * i + 1)) (g k) := fun k k0 kn e => by
 rcases QKR k0 e with rfl | rfl
 ·exact QAr _
 ·omega
theorem QGW (h : ¬cmpD (g (2 * i + 1 + 1)) (g (2 * i + 1)) < 0) : ∀ k, 0 < k → k < n → parN k = i → leD (g (2 * i + 1)) (g k) := fun k k0 kn e => by
 rcases QKR k0 e with rfl | rfl
 ·exact QAr _
 ·exact QBS h
theorem QEw (h : cmpD (g (2 * i + 1 + 1)) (g (2 * i + 1)) < 0) : ∀ k, 0 < k → k < n → parN k = i → leD (g (2 * i + 1 + 1)) (g k) := fun k k0 kn e => by
 rcases QKR k0 e with rfl | rfl
 ·exact QCj h
 ·exact QAr _
theorem QLw : parN (2 * i + 1) = i := by unfold parN; omega
theorem QMz : parN (2 * i + 1 + 1) = i := by unfold parN; omega
end
theorem YN.congr {n : Nat} {g g' : Nat → Dr} (h : YN n g) (e : ∀ k, k < n → g' k = g k) : YN n g' := fun k h0 hk => by
 rw [e k hk, e (parN k) (by unfold parN; omega)]
 exact h k h0 hk
theorem QMi {ps : List VD} {x : VD} {k : Nat} (hk : k < ps.length) : gD (ps ++ [x]) k = gD ps k := by
 unfold gD
 rw [Zg (by simp; omega), Zg hk, List.getElem_append_left hk]
theorem QLL {ps : List VD} {n k : Nat} (hk : k < n) (hn : n ≤ ps.length) : gD (ps.take n) k = gD ps k := by
 unfold gD
 rw [Zg (by rw [List.length_take]; omega), Zg (by omega), List.getElem_take]
theorem QIn {ps : List VD} {n : Nat} (h : ps.length = n + 1) : ps = ps.take n ++ [ps.getD n vd0] := by
 rw [Zg (by omega)]
 rw [← List.take_succ_eq_append_getElem (by omega), List.take_of_length_le (by omega)]
theorem QKD {ps : List VD} (h : YN ps.length (gD ps)) : ∀ y ∈ ps, leD (gD ps 0) y.2 := fun y hy => by
 obtain ⟨k, hk, e⟩ := List.getElem_of_mem hy;have := h.top k hk
 unfold gD at this
 rw [Zg hk, e] at this
 exact this
/-- what stays of a pile when its best draft has been taken -/
theorem QIb {ps qs : List VD} {n : Nat} (hn : ps.length = n + 1) (hp : qs.Perm (swL ps 0 n vd0)) (hl : qs.getD n vd0 = ps.getD 0 vd0) (hh : YN n (gD qs)) :
  qs = qs.take n ++ [ps.getD 0 vd0] ∧ ps.Perm (ps.getD 0 vd0 :: qs.take n) ∧ YN (qs.take n).length (gD (qs.take n)) := by
 have hp2 : qs.Perm ps := hp.trans (QAP vd0 (by omega) (by omega))
 have hq : qs.length = n + 1 := by rw [hp2.length_eq]; exact hn
 have e := QIn hq;rw [hl] at e;refine ⟨e, ?_, ?_⟩
 ·have h1 := hp2.symm
  rw [e] at h1
  exact h1.trans (List.perm_append_comm (l₁ := qs.take n) (l₂ := [ps.getD 0 vd0]))
 ·rw [List.length_take, Nat.min_eq_left (by omega)]
  exact hh.congr fun k hk => QLL hk (by omega)
theorem QKI {ps : List VD} {n : Nat} (hn : ps.length = n + 1) (h : YN ps.length (gD ps)) : DnI n (gD (swL ps 0 n vd0)) 0 := by
 rw [hn] at h;refine DnI.start h fun k k0 kn => ?_
 rw [QGf (by omega) (by omega)]
 unfold swF
 rw [if_neg (by omega), if_neg (by omega)]
theorem QKm {ps : List VD} {n : Nat} (hn : ps.length = n + 1) : (swL ps 0 n vd0).getD n vd0 = ps.getD 0 vd0 := by
 rw [QFI vd0 (by omega) (by omega)]
 unfold swF
 split
 ·rename_i e; subst e; rfl
 ·rw [if_pos rfl]
theorem QDs {ps : List VD} {i j k : Nat} (hi : i < ps.length) (hj : j < ps.length) (h1 : k ≠ i) (h2 : k ≠ j) : (swL ps i j vd0).getD k vd0 = ps.getD k vd0 := by
 rw [QFI vd0 hi hj]
 unfold swF
 rw [if_neg h1, if_neg h2]
/-! ### What a step makes of a state -/
theorem QJi (s : ST) : (mvS s).mv = s.mv + 1 := by
 unfold mvS
 split <;> rfl
theorem QMS (n : Nat) (s : ST) : (mvN n s).mv = s.mv + n := by
 induction n with
 | zero => simp [mvN]
 | succ n ih => rw [mvN, QJi, ih]; omega
theorem QI4 (s : ST) (u : Bool) : s.mv ≤ (Zr s u).mv := by
 unfold Zr
 split
 ·show s.mv ≤ (mvS s).mv
  rw [QJi]
  omega
 ·exact Int.le_refl _
theorem QEy (s : ST) (ts : List TW) (u : Bool) : (midS s ts u).t0 = s.t0 ∧ (midS s ts u).t1 = s.t1 ∧ (midS s ts u).cost = s.cost := by
 obtain ⟨_, b, c, d⟩ := QD7 (2 * Z3 (Zq ts) s.lk.length - 1) (Zr s u);obtain ⟨e, f, g⟩ := QB7 s u
 exact ⟨b.trans e, c.trans f, d.trans g⟩
def tkn (s : ST) (u : Bool) : Nat := if u = true then s.t1 else s.t0
theorem QI7 (s : ST) (ts : List TW) (u : Bool) : (tkS s ts u).t0 = (if u = true then s.t0 else s.t0 + ts.length) ∧ (tkS s ts u).t1 = (if u = true then s.t1 + ts.length else s.t1) := by
 obtain ⟨a, b, _⟩ := QEy s ts u
 exact ⟨by show (if u = true then (midS s ts u).t0 else (midS s ts u).t0 + _) = _; rw [a], by show (if u = true then (midS s ts u).t1 + _ else (midS s ts u).t1) = _; rw [b]⟩
theorem QHT (s : ST) (ts : List TW) (u : Bool) : (tkS s ts u).t0 + (tkS s ts u).t1 = s.t0 + s.t1 + ts.length := by
 obtain ⟨a, b⟩ := QI7 s ts u;rw [a, b]
 cases u <;> simp <;> omega
theorem QFF (s : ST) (ts : List TW) (u v : Bool) : tkn (tkS s ts u) v = if v = u then tkn s u + ts.length else tkn s v := by
 obtain ⟨a, b⟩ := QI7 s ts u
 unfold tkn
 rw [a, b]
 cases u <;> cases v <;> simp
theorem QF7 (s : ST) (ts : List TW) (u : Bool) : (tkS s ts u).cost = s.cost + QCq (runT s ts u).stop ts := by
 show (midS s ts u).cost + _ = _
 rw [(QEy s ts u).2.2]
theorem QMD {s : ST} {ts : List TW} (u : Bool) (h : 0 < Z3 (Zq ts) s.lk.length) : s.mv < (tkS s ts u).mv := by
 show s.mv < (mvN _ (Zr s u)).mv
 rw [QMS];have := QI4 s u
 omega
theorem QMF (s : ST) (ts : List TW) (u : Bool) : (tkS s ts u).fr = (runT s ts u).stop := rfl
theorem QE6 {l : LK} {s : ST} {ts : List TW} {u : Bool} (h : StOk l s) (ht : ∀ t ∈ ts, twB l t = true) (hf : fitB l.length ts = true) (h8 : s.t0 + s.t1 + ts.length ≤ 8) (h0 : 0 < ts.length) :
  0 ≤ QCq (runT s ts u).stop ts ∧ QCq (runT s ts u).stop ts ≤ 14000000 * ts.length := by
 obtain ⟨_, _, _, _, r5, r6⟩ := QFM (u := u) h ht hf h8;obtain ⟨e1, e2, e3, e4, e5⟩ := QAT h.ok;have hb := QBk (f := fun t => t.weight * ((runT s ts u).stop - t.arrive)) (l := ts) (a := 0) (b := 14000000) fun t hm => by
  obtain ⟨a1, _, a3, _⟩ := QBA (ht t hm);have := QLm hm;have r7 := (r6 h0).1;refine ⟨Int.mul_nonneg a3.1 (by omega), Int.le_trans (Int.mul_le_mul a3.2 (show _ ≤ 140000 by omega) (by omega) (by omega)) (by omega)⟩
 unfold QCq
 omega
theorem QME (s : ST) (ts : List TW) (u : Bool) : ∃ h, (tkS s ts u).lk = lkW s.lk h := by
 obtain ⟨h, e⟩ := QFV (2 * Z3 (Zq ts) s.lk.length - 1) (Zr s u);refine ⟨h, ?_⟩
 show (mvN _ (Zr s u)).lk = _
 rw [e, QCL]
 rfl
theorem QId {l : LK} {ts : List TW} (ht : ∀ t ∈ ts, twB l t = true) (hl : lkB l = true) (h8 : ts.length ≤ 8) (h0 : 0 < ts.length) : 0 < Z3 (Zq ts) l.length := by
 have h1 := (QAT hl).1;have h2 := QFZ ht h8 hl
 exact QEs (by omega) (by omega)
theorem StOk.take {l : LK} {s : ST} {ts : List TW} {u : Bool} (h : StOk l s) (ht : ∀ t ∈ ts, twB l t = true) (hf : fitB l.length ts = true) (h8 : s.t0 + s.t1 + ts.length ≤ 8) (h0 : 0 < ts.length) : StOk l (tkS s ts u) := by
 have hsum := QHT s ts u;obtain ⟨k, hk⟩ := QME s ts u;have el : s.lk.length = l.length := by rw [h.lk]; rfl
 obtain ⟨e1, e2, e3, e4, e5⟩ := QAT h.ok;obtain ⟨r1, r2, r3, r4, r5, r6⟩ := QFM (u := u) h ht hf h8;have hp := QCX ht h.ok hf;have hc := QE6 (u := u) h ht hf h8 h0;have hp0 := h.fr;have hc0 := h.cost;have hlk : (tkS s ts u).lk = lkW l (tkS s ts u).lk.high := by rw [hk, h.lk]; rfl
 refine ⟨hlk, h.ok, ?_, ?_, ?_⟩
 ·rw [hsum]
  have hw := QGV (QFE (u := u) h.wt h.okL) (by rw [QCL]; exact h.okL) (2 * Z3 (Zq ts) s.lk.length - 1)
  have hpu := QBk (f := (·.push)) (l := ts) (a := 0) (b := 100000) fun t hm => (QBA (ht t hm)).2.2.2
  have hs : sgB u = 1 ∨ sgB u = -1 := by cases u <;> simp [sgB]
  rw [el] at hw;have ex : midS s ts u = mvN (2 * Z3 (Zq ts) l.length - 1) (Zr s u) := by unfold midS; rw [el]
  rw [← ex] at hw;obtain ⟨w1, w2, w3, w4, w5, w6⟩ := hw;have eup : (tkS s ts u).up = (midS s ts u).up - sgB u * QCV ts := rfl;have elo : (tkS s ts u).lo = (midS s ts u).lo + sgB u * QCV ts := rfl;have ech : (tkS s ts u).ch = (midS s ts u).ch := rfl;have eba : (tkS s ts u).ba = (midS s ts u).ba := rfl;have emv : (tkS s ts u).mv = (midS s ts u).mv := rfl;have ell : (tkS s ts u).lk = (midS s ts u).lk := rfl;refine ⟨?_, ?_, by rw [ech]; omega, by rw [emv]; omega, by rw [eba, ell]; exact w5, by rw [eba, ell]; exact w6⟩
  ·rw [eup]
   unfold QCV
   rcases hs with hs | hs <;> rw [hs] <;> omega
  ·rw [elo]
   unfold QCV
   rcases hs with hs | hs <;> rw [hs] <;> omega
 ·rw [hsum, QMF]
  have := (r6 h0).2
  omega
 ·rw [hsum, QF7]
  omega
/-! ### The drafts that follow -/
abbrev QS := Bool → List TW
def waitL (q : QS) (s : ST) (u : Bool) : List TW := (q u).drop (tkn s u)
def oneD (q : QS) (d : Dr) (u : Bool) (n : Nat) : Dr := ⟨tkS d.s ((waitL q d.s u).take n) u, d.plan ++ [⟨u, n⟩]⟩
def fitN (q : QS) (s : ST) (u : Bool) (n : Nat) : Bool := fitB s.lk.length ((waitL q s u).take n)
/-- the numbers of tows that fit, one after another, from 1 on -/
def cntU (q : QS) (s : ST) (u : Bool) : List Nat := ((List.range (waitL q s u).length).map (· + 1)).takeWhile (fitN q s u)
def QBD (q : QS) (d : Dr) (u : Bool) : List Dr := (cntU q d.s u).map (oneD q d u)
def nextL (q : QS) (d : Dr) : List Dr := QBD q d false ++ QBD q d true
def Yx (q : QS) (s : ST) : Bool := decide (s.t0 = (q false).length) && decide (s.t1 = (q true).length)
structure QOk (l : LK) (q : QS) : Prop where
 tw : ∀ u, ∀ t ∈ q u, twB l t = true
 len : (q false).length + (q true).length ≤ 8
 lk : lkB l = true
def stL (l : LK) : ST := ⟨l, 0, 0, 0, 0, 0, 0, 0, 0, 0⟩
theorem QMJ {l : LK} (h : lkB l = true) : StOk l (stL l) := by
 have := QFc h;refine ⟨rfl, h, ⟨?_, ?_, ?_, ?_, ?_, fun _ => rfl⟩, ?_, ?_⟩ <;> simp [stL] <;> omega
/-- a draft: what its plan comes to -/
def stP (q : QS) (s : ST) (p : List SP) : ST := p.foldl (fun s x => tkS s ((waitL q s x.up).take x.tows.toNat) x.up) s
structure DrOk (l : LK) (q : QS) (d : Dr) : Prop where
 st : StOk l d.s
 le : ∀ u, tkn d.s u ≤ (q u).length
 eq : d.s = stP q (stL l) d.plan
 len : d.plan.length ≤ d.s.t0 + d.s.t1
 pos : ∀ x ∈ d.plan, 1 ≤ x.tows ∧ x.tows ≤ 8
theorem QCp {l : LK} {q : QS} (h : lkB l = true) : DrOk l q ⟨stL l, []⟩ := ⟨QMJ h, fun u => by cases u <;> exact Nat.zero_le _, rfl, Nat.le_refl _, fun x hx => by cases hx⟩
def remD (q : QS) (s : ST) : Nat := ((q false).length - s.t0) + ((q true).length - s.t1)
theorem YW (q : QS) (s : ST) (u : Bool) : (waitL q s u).length = (q u).length - tkn s u := by simp [waitL]
theorem QID {q : QS} {s : ST} {u : Bool} {n : Nat} (h : n ∈ cntU q s u) : 1 ≤ n ∧ n ≤ (waitL q s u).length ∧ fitN q s u n = true := by
 have h2 := List.takeWhile_subset _ h;have h3 : fitN q s u n = true := by
  have := List.all_takeWhile (l := (List.range (waitL q s u).length).map (· + 1)) (p := fitN q s u)
  exact List.all_eq_true.1 this n h
 obtain ⟨k, hk, rfl⟩ := List.mem_map.1 h2;have := List.mem_range.1 hk
 exact ⟨by omega, by omega, h3⟩
theorem DrOk.lkl {l : LK} {q : QS} {d : Dr} (h : DrOk l q d) : d.s.lk.length = l.length := by rw [h.st.lk]; rfl
section
variable {l : LK} {q : QS} {d : Dr} {u : Bool} {n : Nat}
theorem Zk (h2 : n ≤ (waitL q d.s u).length) : ((waitL q d.s u).take n).length = n := by rw [List.length_take]; omega
theorem Yr (hq : QOk l q) : ∀ t ∈ (waitL q d.s u).take n, twB l t = true := fun t ht => hq.tw u t (List.mem_of_mem_drop (List.mem_of_mem_take ht))
theorem QBy (hq : QOk l q) (h : DrOk l q d) (h2 : n ≤ (waitL q d.s u).length) : d.s.t0 + d.s.t1 + n ≤ 8 := by
 have a := h.le false;have b := h.le true;have c := hq.len;rw [YW] at h2
 cases u <;> simp [tkn] at a b h2 <;> omega
theorem DrOk.one (hq : QOk l q) (h : DrOk l q d) (h1 : 1 ≤ n) (h2 : n ≤ (waitL q d.s u).length) (hf : fitN q d.s u n = true) : DrOk l q (oneD q d u n) := by
 have ht := Zk (q := q) (d := d) h2;have hs := QBy hq h h2;have hst := h.st.take (u := u) (Yr hq) (by have := hf; unfold fitN at this; rw [h.lkl] at this; exact this) (by rw [ht]; exact hs) (by omega)
 refine ⟨hst, fun v => ?_, ?_, ?_, fun x hx => ?_⟩
 ·show tkn (tkS d.s _ u) v ≤ _
  rw [QFF, ht];rw [YW] at h2;have := h.le v;have := h.le u
  split
  ·rename_i e; subst e; omega
  ·assumption
 ·show tkS d.s _ u = stP q (stL l) (d.plan ++ [⟨u, n⟩])
  unfold stP
  rw [List.foldl_append]
  show _ = tkS (stP q (stL l) d.plan) ((waitL q (stP q (stL l) d.plan) u).take n) u
  rw [← h.eq]
 ·show (d.plan ++ [_]).length ≤ (tkS d.s _ u).t0 + (tkS d.s _ u).t1
  rw [QHT, ht, List.length_append, List.length_singleton];have := h.len
  omega
 ·rcases List.mem_append.1 hx with hx | hx
  ·exact h.pos x hx
  ·rw [List.mem_singleton.1 hx]
   show 1 ≤ (n : Int) ∧ (n : Int) ≤ 8
   omega
theorem QHe (h : DrOk l q d) (h2 : n ≤ (waitL q d.s u).length) : remD q (oneD q d u n).s + n = remD q d.s := by
 have ht := Zk (q := q) (d := d) h2;obtain ⟨a, b⟩ := QI7 d.s ((waitL q d.s u).take n) u;have c := h.le false;have e := h.le true
 show ((q false).length - (tkS d.s _ u).t0) + ((q true).length - (tkS d.s _ u).t1) + n = _
 rw [a, b, ht]
 unfold remD
 rw [YW] at h2
 cases u <;> simp [tkn] at c e h2 ⊢ <;> omega
theorem QMe (hq : QOk l q) (h : DrOk l q d) (h1 : 1 ≤ n) (h2 : n ≤ (waitL q d.s u).length) (hf : fitN q d.s u n = true) : leD d (oneD q d u n) := by
 have ht := Zk (q := q) (d := d) h2;have hs := QBy hq h h2;have hc := (QE6 (u := u) h.st (Yr hq) (by have := hf; unfold fitN at this; rw [h.lkl] at this; exact this) (by rw [ht]; exact hs) (by omega)).1
 have hm := QMD (s := d.s) (ts := (waitL q d.s u).take n) u (by rw [h.lkl]; exact QId (Yr hq) hq.lk (by omega) (by omega))
 have e1 : (oneD q d u n).s.cost = d.s.cost + QCq (runT d.s ((waitL q d.s u).take n) u).stop ((waitL q d.s u).take n) := QF7 _ _ _;have e2 : d.s.mv < (oneD q d u n).s.mv := hm
 unfold leD
 rw [QAX]
 unfold cmpK keyD
 simp only
 have a1 : cmpI d.s.cost (oneD q d u n).s.cost = 0 ∨ cmpI d.s.cost (oneD q d u n).s.cost = -1 := by
  unfold cmpI
  split
  ·exact .inr rfl
  ·rw [if_neg (by omega)]; exact .inl rfl
 have a2 : cmpI d.s.mv (oneD q d u n).s.mv = -1 := by
  unfold cmpI
  rw [if_pos e2]
 rw [a2]
 rcases a1 with a1 | a1 <;> rw [a1] <;> simp [or3]
end
theorem QJh {l : LK} {q : QS} {d e : Dr} (he : e ∈ nextL q d) : ∃ u n, 1 ≤ n ∧ n ≤ (waitL q d.s u).length ∧ fitN q d.s u n = true ∧ e = oneD q d u n := by
 unfold nextL QBD at he
 rcases List.mem_append.1 he with he | he <;>
 ·obtain ⟨n, hn, rfl⟩ := List.mem_map.1 he
  obtain ⟨a, b, c⟩ := QID hn
  exact ⟨_, n, a, b, c, rfl⟩
theorem QBr {l : LK} {q : QS} {d e : Dr} (hq : QOk l q) (h : DrOk l q d) (he : e ∈ nextL q d) : DrOk l q e ∧ leD d e ∧ remD q e.s < remD q d.s := by
 obtain ⟨u, n, a, b, c, rfl⟩ := QJh (l := l) he
 exact ⟨DrOk.one hq h a b c, QMe hq h a b c, by have := QHe h b; omega⟩
theorem QKJ {l : LK} {q : QS} {d : Dr} (h : DrOk l q d) : Yx q d.s = true ↔ remD q d.s = 0 := by
 have a := h.le false;have b := h.le true
 unfold Yx remD
 rw [Bool.and_eq_true, decide_eq_true_iff, decide_eq_true_iff]
 simp [tkn] at a b
 omega
theorem QC9 {q : QS} {d : Dr} (h : remD q d.s = 0) : nextL q d = [] := by
 have h1 : ∀ u, (waitL q d.s u).length = 0 := fun u => by
  rw [YW]
  unfold remD at h
  cases u <;> simp [tkn] <;> omega
 have h2 : ∀ u, cntU q d.s u = [] := fun u => by unfold cntU; rw [h1]; rfl
 unfold nextL QBD
 rw [h2, h2]
 rfl
/-! ### All complete drafts that follow -/
def QAe (q : QS) : Nat → Dr → List Dr
 | 0, d => if Yx q d.s = true then [d] else []
 | k + 1, d => (if Yx q d.s = true then [d] else []) ++ (nextL q d).flatMap (QAe q k)
def QAH (q : QS) : Nat → Dr → Nat
 | 0, _ => 1
 | k + 1, d => 1 + ((nextL q d).map (QAH q k)).sum
theorem QCF {l : LK} {q : QS} (hq : QOk l q) : ∀ {k m : Nat} {d : Dr}, DrOk l q d → remD q d.s ≤ k → k ≤ m → QAe q m d = QAe q k d
 | 0, 0, d, _, _, _ => rfl
 | 0, m + 1, d, h, hr, _ => by
  rw [QAe, QAe, QC9 (by omega)]
  simp
 | k + 1, 0, _, _, _, hm => by omega
 | k + 1, m + 1, d, h, hr, hm => by
  rw [QAe, QAe]
  congr 1
  refine flatMap_same fun e he => ?_
  obtain ⟨h1, _, h3⟩ := QBr hq h he
  exact QCF hq h1 (by omega) (by omega)
where
 flatMap_same {α β : Type} {f g : α → List β} : ∀ {l : List α}, (∀ x ∈ l, f x = g x) → l.flatMap f = l.flatMap g
 | [], _ => rfl
 | x :: l, h => by rw [List.flatMap_cons, List.flatMap_cons, h x (List.mem_cons_self ..), flatMap_same fun y hy => h y (List.mem_cons_of_mem _ hy)]
theorem QDw {l : LK} {q : QS} (hq : QOk l q) : ∀ {k m : Nat} {d : Dr}, DrOk l q d → remD q d.s ≤ k → k ≤ m → QAH q m d = QAH q k d
 | 0, 0, d, _, _, _ => rfl
 | 0, m + 1, d, h, hr, _ => by
  rw [QAH, QAH, QC9 (by omega)]
  rfl
 | k + 1, 0, _, _, _, hm => by omega
 | k + 1, m + 1, d, h, hr, hm => by
  rw [QAH, QAH]
  congr 2
  refine List.map_congr_left fun e he => ?_
  obtain ⟨h1, _, h3⟩ := QBr hq h he
  exact QDw hq h1 (by omega) (by omega)
theorem QGl {l : LK} {q : QS} (hq : QOk l q) : ∀ {k : Nat} {d e : Dr}, DrOk l q d → e ∈ QAe q k d → DrOk l q e ∧ leD d e ∧ Yx q e.s = true
 | 0, d, e, h, he => by
  rw [QAe] at he
  split at he
  ·rename_i hc
   rw [List.mem_singleton.1 he]
   exact ⟨h, QAr _, hc⟩
  ·cases he
 | k + 1, d, e, h, he => by
  rw [QAe] at he
  rcases List.mem_append.1 he with he | he
  ·split at he
   ·rename_i hc
    rw [List.mem_singleton.1 he]
    exact ⟨h, QAr _, hc⟩
   ·cases he
  ·obtain ⟨x, hx, he⟩ := List.mem_flatMap.1 he
   obtain ⟨h1, h2, _⟩ := QBr hq h hx;obtain ⟨a, b, c⟩ := QGl hq h1 he
   exact ⟨a, Y3 h2 b, c⟩
/-! how many drafts there are at most -/
theorem pow3 (r : Nat) : 1 ≤ 3 ^ r := Nat.one_le_pow _ _ (by omega)
theorem QHX {f : Nat → Nat} {r : Nat} : ∀ (c : Nat), c ≤ r → (∀ n, 1 ≤ n → n ≤ c → f n ≤ 3 ^ (r - n)) → (((List.range c).map (· + 1)).map f).sum * 2 + 3 ^ (r - c) ≤ 3 ^ r
 | 0, _, _ => by simp
 | c + 1, hc, h => by
  have ih := QHX (f := f) (r := r) c (by omega) fun n h1 h2 => h n h1 (by omega)
  have h3 := h (c + 1) (by omega) (by omega)
  have e : 3 ^ (r - c) = 3 * 3 ^ (r - (c + 1)) := by
   rw [show r - c = (r - (c + 1)) + 1 by omega, Nat.pow_succ]
   omega
  rw [List.range_succ]
  simp only [List.map_append, List.sum_append, List.map_cons, List.map_nil, List.sum_cons, List.sum_nil]
  rw [e] at ih
  generalize 3 ^ (r - (c + 1)) = y at *
  generalize 3 ^ r = z at *
  omega
theorem QIW {α : Type} {p : α → Bool} {f : α → Nat} : ∀ (l : List α), ((l.takeWhile p).map f).sum ≤ (((l.takeWhile p) ++ (l.dropWhile p)).map f).sum := fun l => by
 rw [List.map_append, List.sum_append]
 omega
theorem QJK {f : Nat → Nat} {r c : Nat} {p : Nat → Bool} (hc : c ≤ r) (h : ∀ n, 1 ≤ n → n ≤ c → p n = true → f n ≤ 3 ^ (r - n)) : ((((List.range c).map (· + 1)).takeWhile p).map f).sum * 2 + 1 ≤ 3 ^ r := by
 have h1 := QHX (f := fun n => if p n = true then f n else 0) (r := r) c hc fun n a b => by
  split
  ·rename_i hp; exact h n a b hp
  ·exact Nat.zero_le _
 have h2 := QIW (p := p) (f := fun n => if p n = true then f n else 0) ((List.range c).map (· + 1))
 rw [List.takeWhile_append_dropWhile] at h2;have h3 : (((List.range c).map (· + 1)).takeWhile p).map (fun n => if p n = true then f n else 0) = (((List.range c).map (· + 1)).takeWhile p).map f := List.map_congr_left fun n hn => by
  have := List.all_takeWhile (l := (List.range c).map (· + 1)) (p := p);rw [if_pos (List.all_eq_true.1 this n hn)]
 rw [h3] at h2;have := pow3 (r - c)
 omega
theorem QHb {l : LK} {q : QS} (hq : QOk l q) : ∀ {k : Nat} {d : Dr}, DrOk l q d → QAH q k d ≤ 3 ^ (remD q d.s)
 | 0, d, _ => pow3 _
 | k + 1, d, h => by
  have hu : ∀ u, ((QBD q d u).map (QAH q k)).sum * 2 + 1 ≤ 3 ^ (remD q d.s) := fun u => by
   unfold QBD cntU
   rw [List.map_map];refine QJK (by rw [YW]; unfold remD; cases u <;> simp [tkn] <;> omega) fun n h1 h2 hf => ?_
   have := QHb hq (k := k) (DrOk.one hq h h1 h2 hf);have e := QHe h h2;rw [show remD q d.s - n = remD q (oneD q d u n).s by omega]
   exact this
  have a := hu false;have b := hu true;rw [QAH]
  unfold nextL
  rw [List.map_append, List.sum_append]
  omega
def insD (d : Dr) : List Dr → List Dr
 | [] => [d]
 | e :: l => if cmpD d e ≤ 0 then d :: e :: l else e :: insD d l
def QAQ : List Dr → List Dr
 | [] => []
 | d :: l => insD d (QAQ l)
theorem QC7 (d : Dr) : ∀ l, (insD d l).Perm (d :: l)
 | [] => .refl _
 | e :: l => by
  unfold insD
  split
  ·exact .refl _
  ·exact ((QC7 d l).cons e).trans (.swap d e l)
theorem Y2 : ∀ l, (QAQ l).Perm l
 | [] => .refl _
 | d :: l => (QC7 d _).trans ((Y2 l).cons d)
theorem QDH {d : Dr} : ∀ {l : List Dr}, l.Pairwise leD → (insD d l).Pairwise leD
 | [], _ => by simp [insD]
 | e :: l, h => by
  obtain ⟨h1, h2⟩ := List.pairwise_cons.1 h
  unfold insD
  split
  ·rename_i hc
   refine List.pairwise_cons.2 ⟨fun x hx => ?_, h⟩
   rcases List.mem_cons.1 hx with rfl | hx
   ·exact hc
   ·exact Y3 hc (h1 x hx)
  ·rename_i hc
   refine List.pairwise_cons.2 ⟨fun x hx => ?_, QDH h2⟩
   rcases List.mem_cons.1 ((QC7 d l).mem_iff.1 hx) with rfl | hx
   ·exact QIo hc
   ·exact h1 x hx
theorem QA3 : ∀ l, (QAQ l).Pairwise leD
 | [] => .nil
 | d :: l => QDH (QA3 l)
/-- drafts with one key are one -/
def Uniq (l : List Dr) : Prop := ∀ a, a ∈ l → ∀ b, b ∈ l → keyD a = keyD b → a = b
theorem QEd {a b : List Dr} (hu : Uniq a) (ha : a.Pairwise leD) (hb : b.Pairwise leD) (h : a.Perm b) : a = b :=
 h.eq_of_pairwise (fun x y hx hy h1 h2 => hu x hx y (h.mem_iff.2 hy) (QMf h1 h2)) ha hb
theorem QDt {a b : List Dr} (hu : Uniq a) (h : a.Perm b) : QAQ a = QAQ b :=
 QEd (fun x hx y hy => hu x ((Y2 a).mem_iff.1 hx) y ((Y2 a).mem_iff.1 hy)) (QA3 a) (QA3 b) ((Y2 a).trans (h.trans (Y2 b).symm))
theorem QG2 {d : Dr} {l : List Dr} (h : ∀ x ∈ l, leD d x) : QAQ (d :: l) = d :: QAQ l := by
 show insD d (QAQ l) = _
 cases e : QAQ l with
 | nil => rfl
 | cons x m =>
  unfold insD
  have hx : cmpD d x ≤ 0 := h x ((Y2 l).mem_iff.1 (by rw [e]; exact List.mem_cons_self ..))
  rw [if_pos hx]
theorem QLU {l : LK} {q : QS} {a b : Dr} (ha : DrOk l q a) (hb : DrOk l q b) (h : keyD a = keyD b) : a = b := by
 obtain ⟨s, p⟩ := a;obtain ⟨t, r⟩ := b
 unfold keyD at h
 simp only [Prod.mk.injEq] at h
 obtain ⟨_, _, h3⟩ := h;subst h3;have h1 := ha.eq;have h2 := hb.eq
 simp only at h1 h2
 rw [h1, h2]
/-! ### The search -/
def allD (l : LK) (q : QS) : List Dr := QAQ (QAe q 8 ⟨stL l, []⟩)
def descL (q : QS) (ps : List Dr) : List Dr := ps.flatMap (QAe q 8)
def YT (q : QS) (ps : List Dr) : Nat := (ps.map (QAH q 8)).sum
structure SI (l : LK) (q : QS) (out ps : List Dr) : Prop where
 ok : ∀ p ∈ ps, DrOk l q p
 eq : out ++ QAQ (descL q ps) = allD l q
theorem QFj {l : LK} {q : QS} (hq : QOk l q) {ps : List Dr} (h : ∀ p ∈ ps, DrOk l q p) {e : Dr} (he : e ∈ descL q ps) : DrOk l q e ∧ Yx q e.s = true ∧ ∃ p ∈ ps, leD p e := by
 obtain ⟨p, hp, he⟩ := List.mem_flatMap.1 he;obtain ⟨a, b, c⟩ := QGl hq (h p hp) he
 exact ⟨a, c, p, hp, b⟩
theorem QE5 {l : LK} {q : QS} (hq : QOk l q) {ps : List Dr} (h : ∀ p ∈ ps, DrOk l q p) : Uniq (descL q ps) := fun a ha b hb hk => QLU (QFj hq h ha).1 (QFj hq h hb).1 hk
theorem SI.start {l : LK} {q : QS} (h : lkB l = true) : SI l q [] [⟨stL l, []⟩] := by
 refine ⟨fun p hp => ?_, ?_⟩
 ·rw [List.mem_singleton.1 hp]
  exact QCp h
 ·simp [descL, allD]
theorem SI.stop {l : LK} {q : QS} {out : List Dr} (h : SI l q out []) : out = allD l q := by
 have := h.eq
 simpa [descL, QAQ] using this
theorem SI.perm {l : LK} {q : QS} (hq : QOk l q) {out ps qs : List Dr} (h : SI l q out ps) (hp : ps.Perm qs) : SI l q out qs :=
 ⟨fun p hm => h.ok p (hp.mem_iff.2 hm), by rw [← h.eq, QDt (QE5 hq h.ok) (hp.flatMap_right _)]; rfl⟩
theorem rem8 {l : LK} {q : QS} (hq : QOk l q) (s : ST) : remD q s ≤ 8 := by
 have := hq.len
 unfold remD
 omega
theorem QGk {l : LK} {q : QS} (hq : QOk l q) {d : Dr} (h : DrOk l q d) : QAe q 8 d = (if Yx q d.s = true then [d] else []) ++ descL q (nextL q d) := by
 rw [QAe]
 congr 1
 refine QCF.flatMap_same fun e he => ?_
 obtain ⟨h1, _, h3⟩ := QBr hq h he;have := rem8 hq d.s
 exact (QCF hq h1 (by omega) (by omega)).symm
theorem QGC {l : LK} {q : QS} (hq : QOk l q) {d : Dr} (h : DrOk l q d) : QAH q 8 d = 1 + YT q (nextL q d) := by
 rw [QAH]
 congr 2
 refine List.map_congr_left fun e he => ?_
 obtain ⟨h1, _, h3⟩ := QBr hq h he;have := rem8 hq d.s
 exact (QDw hq h1 (by omega) (by omega)).symm
/-- the best draft is taken: if it is complete it comes next; what follows it is put in -/
theorem SI.pop {l : LK} {q : QS} (hq : QOk l q) {out ps rest : List Dr} {d : Dr} (h : SI l q out ps) (hp : ps.Perm (d :: rest)) (hm : ∀ p ∈ ps, leD d p) :
  SI l q (if Yx q d.s = true then out ++ [d] else out) (rest ++ nextL q d) ∧ (Yx q d.s = true → (out ++ [d]) <+: allD l q) ∧ YT q (rest ++ nextL q d) < YT q ps := by
 have hd : DrOk l q d := h.ok d (hp.mem_iff.2 (List.mem_cons_self ..));have hr : ∀ p ∈ rest, DrOk l q p := fun p hx => h.ok p (hp.mem_iff.2 (List.mem_cons_of_mem _ hx))
 have h1 := h.perm hq hp;have he : descL q (d :: rest) = (if Yx q d.s = true then [d] else []) ++ descL q (nextL q d) ++ descL q rest := by
  unfold descL
  rw [List.flatMap_cons, QGk hq hd]
  rfl
 have hok : ∀ p ∈ rest ++ nextL q d, DrOk l q p := fun p hx => by
  rcases List.mem_append.1 hx with hx | hx
  ·exact hr p hx
  ·exact (QBr hq hd hx).1
 have hs : YT q (rest ++ nextL q d) < YT q ps := by
  have e1 : YT q ps = YT q (d :: rest) := (hp.map _).sum_nat;rw [e1]
  unfold YT
  rw [List.map_append, List.sum_append, List.map_cons, List.sum_cons, QGC hq hd]
  unfold YT
  omega
 by_cases hc : Yx q d.s = true
 ·have hn := QC9 ((QKJ hd).1 hc)
  rw [hn, if_pos hc] at he;have hmin : ∀ x ∈ descL q rest, leD d x := fun x hx => by
   obtain ⟨_, _, p, hp1, hp2⟩ := QFj hq hr hx
   exact Y3 (hm p (hp.mem_iff.2 (List.mem_cons_of_mem _ hp1))) hp2
  have e2 := h1.eq;rw [he] at e2;have e3 : QAQ ([d] ++ descL q [] ++ descL q rest) = d :: QAQ (descL q rest) := QG2 hmin;rw [e3] at e2;refine ⟨⟨hok, ?_⟩, fun _ => ⟨QAQ (descL q rest), ?_⟩, hs⟩
  ·rw [if_pos hc, hn, List.append_nil, List.append_assoc]
   exact e2
  ·rw [List.append_assoc]
   exact e2
 ·refine ⟨⟨hok, ?_⟩, fun h => absurd h hc, hs⟩
  rw [if_neg hc] at he ⊢;rw [← h1.eq, he]
  congr 1
  refine QDt (QE5 hq hok) ?_
  unfold descL
  rw [List.flatMap_append, List.nil_append]
  exact List.perm_append_comm
theorem QG3 {l : LK} {q : QS} (hq : QOk l q) : YT q [⟨stL l, []⟩] ≤ 6561 := by
 have h1 := QHb hq (k := 8) (QCp (q := q) hq.lk);have h2 := rem8 hq (stL l);have h3 : 3 ^ remD q (stL l) ≤ 3 ^ 8 := Nat.pow_le_pow_right (by omega) h2
 have h4 : QAH q 8 ⟨stL l, []⟩ ≤ 6561 := Nat.le_trans h1 h3
 unfold YT
 simp only [List.map_cons, List.map_nil, List.sum_cons, List.sum_nil]
 omega
theorem QDv {q : QS} : ∀ {ps : List Dr}, ps.length ≤ YT q ps
 | [] => Nat.le_refl _
 | p :: ps => by
  have := QDv (q := q) (ps := ps);have h1 : 1 ≤ QAH q 8 p := by rw [QAH]; omega
  unfold YT at *
  rw [List.map_cons, List.sum_cons, List.length_cons]
  omega
/-- a tow is put behind all that do not arrive later -/
def insT (x : TW) : List TW → List TW
 | [] => [x]
 | y :: l => if x.arrive < y.arrive then x :: y :: l else y :: insT x l
def Yo (l : List TW) : List TW := l.foldl (fun a x => insT x a) []
def fU (u : Bool) (ts : List TW) : List TW := ts.filter (fun t => t.up == u)
def qL (ts : List TW) (u : Bool) : List TW := Yo (fU u ts)
def ArrT (l : List TW) : Prop := l.Pairwise (fun a b => a.arrive ≤ b.arrive)
theorem QC6 (x : TW) : ∀ l, (insT x l).Perm (x :: l)
 | [] => .refl _
 | y :: l => by
  unfold insT
  split
  ·exact .refl _
  ·exact ((QC6 x l).cons y).trans (.swap x y l)
theorem QDG {x : TW} : ∀ {l : List TW}, ArrT l → ArrT (insT x l)
 | [], _ => by simp [insT, ArrT]
 | y :: l, h => by
  obtain ⟨h1, h2⟩ := List.pairwise_cons.1 h
  unfold insT
  split
  ·rename_i hc
   refine List.pairwise_cons.2 ⟨fun z hz => ?_, h⟩
   rcases List.mem_cons.1 hz with rfl | hz
   ·omega
   ·have := h1 z hz
    omega
  ·rename_i hc
   refine List.pairwise_cons.2 ⟨fun z hz => ?_, QDG h2⟩
   rcases List.mem_cons.1 ((QC6 x l).mem_iff.1 hz) with rfl | hz
   ·omega
   ·exact h1 z hz
theorem QG1 (l : List TW) (x : TW) : Yo (l ++ [x]) = insT x (Yo l) := by simp [Yo]
theorem QBz : ∀ (l a : List TW), (l.foldl (fun a x => insT x a) a).Perm (l ++ a)
 | [], a => .refl _
 | x :: l, a => by
  rw [List.foldl_cons];refine (QBz l _).trans (((QC6 x a).append_left l).trans ?_)
  exact List.perm_middle
theorem QB9 (l : List TW) : (Yo l).Perm l := by
 have := QBz l []
 rwa [List.append_nil] at this
theorem QBB : ∀ (l a : List TW), ArrT a → ArrT (l.foldl (fun a x => insT x a) a)
 | [], a, h => h
 | x :: l, a, h => QBB l _ (QDG h)
theorem QFK (l : List TW) : ArrT (Yo l) := QBB l [] .nil
theorem QCD {x : TW} : ∀ {P Q : List TW}, (∀ p ∈ P, ¬x.arrive < p.arrive) → (∀ q ∈ Q, x.arrive < q.arrive) → insT x (P ++ Q) = P ++ x :: Q
 | [], [], _, _ => rfl
 | [], q :: Q, _, h => by
  show insT x (q :: Q) = _
  unfold insT
  rw [if_pos (h q (List.mem_cons_self ..))]
  rfl
 | p :: P, Q, h, k => by
  show insT x (p :: (P ++ Q)) = _
  unfold insT
  rw [if_neg (h p (List.mem_cons_self ..)), QCD (fun z hz => h z (List.mem_cons_of_mem _ hz)) k]
  rfl
/-- the last of a sorted beginning does not arrive later: none does -/
theorem QKa {x y : TW} {P Q : List TW} (h : ArrT ((P ++ [y]) ++ Q)) (hy : ¬x.arrive < y.arrive) : ∀ p ∈ P ++ [y], ¬x.arrive < p.arrive := fun p hp => by
 have h1 := (List.pairwise_append.1 h).1
 rcases List.mem_append.1 hp with hp | hp
 ·have := (List.pairwise_append.1 h1).2.2 p hp y (List.mem_singleton.2 rfl)
  omega
 ·rw [List.mem_singleton.1 hp]
  exact hy
theorem QFP (ts : List TW) (u : Bool) : (qL ts u).Perm (fU u ts) := QB9 _
theorem QMP (ts : List TW) : (qL ts false).length + (qL ts true).length = ts.length := by
 rw [(QFP ts false).length_eq, (QFP ts true).length_eq]
 unfold fU
 induction ts with
 | nil => rfl
 | cons t ts ih =>
  rw [List.filter_cons, List.filter_cons]
  cases h : t.up <;> simp at ih ⊢ <;> omega
theorem QMO {ts : List TW} {u : Bool} {t : TW} (h : t ∈ qL ts u) : t ∈ ts ∧ t.up = u := by
 have := (QFP ts u).mem_iff.1 h
 unfold fU at this
 rw [List.mem_filter] at this
 exact ⟨this.1, by simpa using this.2⟩
/-- a tow changes places with the one ahead of it -/
theorem QJJ {x y : TW} (P R : List TW) : ((P ++ y :: x :: R).set (P.length + 1) y).set P.length x = P ++ x :: y :: R := by
 rw [List.set_append_right _ _ (by omega), show P.length + 1 - P.length = 1 by omega]
 rw [List.set_append_right _ _ (by omega), Nat.sub_self]
 rfl
theorem QLA {x y : TW} (P R : List TW) : (P ++ y :: x :: R).getD P.length tw0 = y ∧ (P ++ y :: x :: R).getD (P.length + 1) tw0 = x := by
 constructor <;> simp [List.getD]
theorem QC2 {α : Type} (p : α → Bool) : ∀ l : List α, l.takeWhile p = l.take (l.takeWhile p).length
 | [] => rfl
 | x :: l => by
  rw [List.takeWhile_cons]
  split
  ·rw [List.length_cons, List.take_succ_cons, ← QC2 p l]
  ·rfl
theorem QB6 {α : Type} {p : α → Bool} {d : α} : ∀ {l : List α}, (l.takeWhile p).length < l.length → p (l.getD (l.takeWhile p).length d) = false
 | [], h => by simp at h
 | x :: l, h => by
  rw [List.takeWhile_cons] at h ⊢
  split at h
  ·rename_i hp
   rw [if_pos hp];have := QB6 (d := d) (l := l) (p := p) (by simp at h; omega)
   simpa using this
  ·rename_i hp
   rw [if_neg hp]
   simpa using hp
section
variable {q : QS} {s : ST} {u : Bool} {n : Nat}
theorem QFn : (cntU q s u).length ≤ (waitL q s u).length := by
 have h : (cntU q s u).length ≤ ((List.range (waitL q s u).length).map (· + 1)).length := (List.takeWhile_sublist _).length_le
 simpa using h
theorem QKL (h : n < (cntU q s u).length) : (cntU q s u).getD n 0 = n + 1 := by
 have h1 := QFn (q := q) (s := s) (u := u);have e : cntU q s u = ((List.range (waitL q s u).length).map (· + 1)).take (cntU q s u).length := QC2 _ _;rw [e];rw [Zg (by rw [List.length_take, List.length_map, List.length_range]; omega), List.getElem_take]
 simp
theorem QLZ (h : n < (cntU q s u).length) : fitN q s u (n + 1) = true := by
 have := (QID (Zo h 0)).2.2
 rwa [QKL h] at this
theorem QCr (h : n ≤ (cntU q s u).length) (hl : n < (waitL q s u).length) : fitN q s u (n + 1) = true ↔ n < (cntU q s u).length := by
 refine ⟨fun hf => ?_, QLZ⟩
 rcases Nat.lt_or_ge n (cntU q s u).length with h1 | h1
 ·exact h1
 ·obtain rfl : n = (cntU q s u).length := by omega
  have h2 := QB6 (p := fitN q s u) (d := 0) (l := (List.range (waitL q s u).length).map (· + 1)) (by simpa [cntU] using hl)
  have e : ((List.range (waitL q s u).length).map (· + 1)).getD (cntU q s u).length 0 = (cntU q s u).length + 1 := by
   rw [Zg (by simpa using hl)]
   simp
  change fitN q s u (((List.range (waitL q s u).length).map (· + 1)).getD (cntU q s u).length 0) = false at h2;rw [e, hf] at h2
  cases h2
end
def cntN (q : QS) (d : Dr) (u : Bool) : Nat := (cntU q d.s u).length
theorem QC3 (q : QS) (d : Dr) : (nextL q d).length = cntN q d false + cntN q d true := by simp [nextL, QBD, cntN]
theorem QHC {α β : Type} {f : α → β} {l : List α} {n : Nat} {a : α} {b : β} (h : n < l.length) : (l.map f).getD n b = f (l.getD n a) := by
 rw [Zg (by simpa using h), Zg h, List.getElem_map]
theorem QHM {α : Type} {a b : List α} {d : α} {n : Nat} (h : n < a.length) : (a ++ b).getD n d = a.getD n d := by
 rw [Zg (by rw [List.length_append]; omega), Zg h, List.getElem_append_left h]
theorem QIN {α : Type} {a b : List α} {d : α} {n : Nat} : (a ++ b).getD (a.length + n) d = b.getD n d := by
 simp [List.getD_eq_getElem?_getD, List.getElem?_append_right]
theorem QGT {q : QS} {d : Dr} {u : Bool} {n : Nat} (h : n < cntN q d u) : (QBD q d u).getD n dr0 = oneD q d u (n + 1) := by
 unfold QBD
 rw [QHC (a := 0) h, QKL h]
theorem QK6 {q : QS} {d : Dr} {n : Nat} (h : n < cntN q d false) : (nextL q d).getD n dr0 = oneD q d false (n + 1) := by
 unfold nextL
 rw [QHM (by unfold QBD; rw [List.length_map]; exact h)]
 exact QGT h
theorem QK5 {q : QS} {d : Dr} {n : Nat} (h : n < cntN q d true) : (nextL q d).getD (cntN q d false + n) dr0 = oneD q d true (n + 1) := by
 unfold nextL
 have e : cntN q d false = (QBD q d false).length := by unfold QBD; rw [List.length_map]; rfl
 rw [e, QIN]
 exact QGT h
def allE (n : Nat) : List (List Int) := (List.range n).map fun i => [((i : Nat) : Int)]
theorem QBx {n : Nat} : allE (n + 1) = allE n ++ [[((n : Nat) : Int)]] := by
 unfold allE
 rw [List.range_succ, List.map_append]
 rfl
theorem QEY {x n : Nat} (h : x < n) : allE x ++ [[((x : Nat) : Int)]] <+: allE n := by
 rw [← QBx];obtain ⟨k, rfl⟩ : ∃ k, n = (x + 1) + k := ⟨n - (x + 1), by omega⟩
 generalize x + 1 = m
 unfold allE
 rw [List.range_add, List.map_append]
 exact List.prefix_append _ _
theorem QBd (n : Nat) : (allE n).length = n := by simp [allE]
theorem QEz {P : Program} {fn : Func} {X : Ending → World → Prop} : ¬LetsOut (bodyPost P fn fun e W' => (∃ v, e = .returned v) ∧ X e W') := fun ⟨_, _, ⟨_, h⟩, _⟩ => by cases h
section
variable {P : Program} {ops : Array Oper} {Q : Exit → Act → World → Prop}
theorem QIh {n : Nat} {o : Oper} {a : Act} {w : World} {K : Act → World → Prop} (hnd : ∀ c, o.op ≠ .defer c) (h : o.wp P a w K Q) : o.wpIn (FR none) n P a w K Q := by
 refine ⟨fun _ _ => trivial, ?_⟩
 rw [Oper.semAt_eq _ _ _ hnd]
 unfold Oper.wp at h
 generalize (execOp a.eval o).run P w = r at h ⊢
 have hd : ((FR none).depth.isSome = true → 1 ≤ n) := fun h => by simp [FR, Fence.wide] at h
 cases r with
 | ok x w' =>
  cases x
  case value => exact h
  case skip => exact h
  case defer => exact h
  case enter f args => exact ⟨hd, (callsIn_wide.2 h).mono fun e w'' he => by cases e <;> exact he⟩
  case row row args =>
   refine ⟨hd, fun c cs _ => ?_⟩
   obtain ⟨v, w'', hv, hs⟩ := h c cs
   exact ⟨v, w'', hv, stepsIn_wide.2 hs⟩
  all_goals exact h.elim
 | halt x w' => cases x <;> exact h
theorem QKf {n i : Nat} {a : Act} {w : World} {K : Act → World → Prop} (hnd : ∀ (i : Nat) (o : Oper), ops[i]? = some o → ∀ c, o.op ≠ .defer c) (hQ : ¬LetsOut Q) (h : wpOp P ops Q i K a w) : wpOpIn (FR none) n P ops Q i K a w := by
 unfold wpOp at h
 unfold wpOpIn
 cases ho : ops[i]? with
 | none =>
  simp only [ho] at h ⊢
  exact h
 | some o =>
  simp only [ho] at h ⊢
  by_cases hw : Region.wanted o (yielded ops a.tmps) = true
  ·simp only [hw, if_true] at h ⊢
   rcases h with h | h
   ·exact QIh (hnd i o ho) h
   ·exact absurd h.2 hQ
  ·simp only [hw, if_false, Bool.false_eq_true] at h ⊢
   exact ⟨fun _ _ => trivial, h⟩
variable {F : Fence} {kk : Nat}
theorem QF3 (hback : QDP ops = true) (I : Array Bool → Act → World → Prop)
  (hstep : ∀ (L : Array Bool) (a : Act) (w : World) (i : Nat) (o : Oper), L.size = ops.size → I L a w → L.getD i true = false → ops[i]? = some o → (∀ e ∈ o.after, Region.binds .any e = true → L.getD e.on false = true) →
   wpOpIn F kk P ops Q i (I (L.setIfInBounds i true)) a w)
  (hend : ∀ (L : Array Bool) (a : Act) (w : World), L.size = ops.size → I L a w → (∀ i, i < ops.size → L.getD i false = true) → Q .normal a w) :
  ∀ (fuel : Nat) (L : Array Bool) (a : Act) (w : World), L.size = ops.size → QD5 ops.size L ≤ fuel → I L a w → wpAnyIn F kk P .any ops Q fuel L a w := by
 have hall : ∀ (L : Array Bool), L.size = ops.size → Region.ready .any ops L = [] → ∀ i, i < ops.size → L.getD i false = true := by
  intro L hs hr i
  induction i using Nat.strongRecOn with
  | ind i ih =>
   intro hi
   rcases Bool.eq_false_or_eq_true (L.getD i false) with h | h
   ·exact h
   ·exfalso
    have hm : i ∈ Region.ready .any ops L := by
     refine mem_ready.2 ⟨?_, ops[i], Array.getElem?_eq_getElem hi, fun e he hb => ?_⟩
     ·simp [Array.getD, hs, hi] at h ⊢
      exact h
     ·have := QES hback (Array.getElem?_eq_getElem hi) he hb
      exact ih e.on this (by omega)
    rw [hr] at hm
    cases hm
 intro fuel
 induction fuel with
 | zero =>
  intro L a w hs hf hI;have hr : Region.ready .any ops L = [] := by
   refine List.eq_nil_iff_forall_not_mem.2 fun i hi => ?_
   obtain ⟨h1, o, ho, _⟩ := mem_ready.1 hi;have := QCZ (Array.getElem?_eq_some_iff.1 ho).1 hs h1
   omega
  exact ⟨hr, hend L a w hs hI (hall L hs hr)⟩
 | succ fuel ih =>
  intro L a w hs hf hI;refine ⟨fun hr => hend L a w hs hI (hall L hs hr), fun i hi => ?_⟩
  obtain ⟨h1, o, ho, h2⟩ := mem_ready.1 hi;have hlt := QCZ (Array.getElem?_eq_some_iff.1 ho).1 hs h1
  exact wpOpIn_mono (fun a' w' h => ih _ a' w' (by simpa using hs) (by omega) h) (hstep L a w i o hs hI h1 ho h2)
theorem QDR {id : Nat} {a : Act} {w : World} (hm : P.follows .mixedOrders = true) (hback : QDP ops = true) (I : Array Bool → Act → World → Prop)
  (h0 : I (Array.replicate ops.size false) a { w with drawn := w.drawn + 1 })
  (hstep : ∀ (L : Array Bool) (a : Act) (w : World) (i : Nat) (o : Oper), L.size = ops.size → I L a w → L.getD i true = false → ops[i]? = some o → (∀ e ∈ o.after, Region.binds .any e = true → L.getD e.on false = true) →
   wpOpIn F kk P ops Q i (I (L.setIfInBounds i true)) a w)
  (hend : ∀ (L : Array Bool) (a : Act) (w : World), L.size = ops.size → I L a w → (∀ i, i < ops.size → L.getD i false = true) → Q .normal a w) : (Code.region id ops true).wpIn F kk P Q a w := by
 refine wpIn_region_any hm (QF3 hback I hstep hend _ _ _ _ (by simp) ?_ h0)
 unfold QD5
 exact Nat.le_trans (List.length_filter_le _ _) (by simp)
end
section
variable {P : Program} {n : Nat} {σ : Sg} {w : World} {Q : Exit → Act → World → Prop} {L : List Oper}
theorem ECI.regionY {id : Nat} (hQ : ¬LetsOut Q) (hndf : QCc L.toArray = true) (cls : List (List Nat)) (m : Nat) (alc : List Nat) (Φ : Nat → (Nat → Value) → World → Prop) (hf : P.follows .mixedOrders = true) (hq : QAJ n cls m 0 L = true) (hml : Nat.ble m L.length = true)
  (hmono : ∀ i r w1 w2, Below w1.heap.size w1 w2 → Φ i r w1 → Φ i r w2)
  (hstep : ∀ i, i < m → QKd P n L Q cls m alc σ w Φ i)
  (hend : ∀ val w', Below w.heap.size w w' → Alc alc m val w w' → (∀ i, i < m → Φ i (res val i (clsAt cls i)) w') → ELI none 0 P n [] L Q (L.drop m) (sgEnd L σ val m) w') : ECI none 0 P n [] (.region id L.toArray true) Q σ w := by
 have hm : m ≤ L.length := by simpa [Nat.ble_eq] using hml
 have H := QEG hq;have hback : QDP L.toArray = true := by
  refine List.all_eq_true.2 fun i hi => ?_
  have hi' : i < L.length := by simpa using hi
  have ho : L.toArray[i]? = some L[i] := by simp [hi']
  rw [ho];refine Array.all_eq_true_iff_forall_mem.2 fun e he => ?_
  cases hb : Region.binds .any e with
  | false => rfl
  | true => simpa using H.back i L[i] (by simp [hi']) e he hb
 intro a ha0;have ha := ha0.e
 -- the tail's part
 have tailDone : ∀ (D : Array Bool) (i : Nat) (o : Oper), (∀ i, D.getD i false = true → ∀ j ∈ clsAt cls i, D.getD j false = true) → L[i]? = some o → (∀ e ∈ o.after, Region.binds .any e = true → D.getD e.on false = true) → ∀ j ∈ clsAt cls i, D.getD j false = true := by
  intro D i o hdown ho hdep j hj;obtain ⟨e, he, hb, h⟩ := H.dep i o ho j hj
  rcases h with rfl | h
  ·exact hdep e he hb
  ·exact hdown _ (hdep e he hb) j h
 have hEnd : ∀ (D : Array Bool) (val : Nat → Value) (a : Act) (w' : World), HInv n L cls m alc σ w Φ D val a w' → (∀ i, i < m → D.getD i false = true) → wpListIn (FR none) 0 P L.toArray Q (L.drop m) a w' := by
  intro D val a w' I hall;refine hend val w' I.below ⟨fun i hi hlt => I.alc1 i hi hlt (hall i hlt), fun i hi j hj h1 h2 hne => I.alc2 i hi j hj h1 h2 (hall i h1) (hall j h2) hne⟩ (fun i hi => I.says i hi (hall i hi)) a (Env.g ⟨I.size, I.defers, ?_⟩)
  have : ∀ k, k ≤ m → ∀ t v, sgEnd L σ val k t = some v → (∀ j, k ≤ j → j < m → ZS L j ≠ some t) → a.tmps[t]? = some v := by
   intro k
   induction k with
   | zero => intro _ t v ht hn; exact I.old t v ht fun j hj _ => hn j (Nat.zero_le _) hj
   | succ k ih =>
    intro hk t v ht hn
    unfold sgEnd at ht
    cases hd : ZS L k with
    | none =>
     simp only [hd] at ht
     exact ih (by omega) t v ht fun j h1 h2 => by
      rcases Nat.lt_or_ge k j with h | h
      ·exact hn j h h2
      ·obtain rfl : j = k := by omega
       rw [hd]; simp
    | some d =>
     simp only [hd] at ht
     unfold ins at ht
     cases e : Nat.beq t d with
     | true =>
      rw [e] at ht;have e' := Nat.eq_of_beq_eq_true e;subst e';rw [I.new k t (by omega) (hall k (by omega)) hd]
      exact ht
     | false =>
      rw [e] at ht
      exact ih (by omega) t v ht fun j h1 h2 => by
       rcases Nat.lt_or_ge k j with h | h
       ·exact hn j h h2
       ·obtain rfl : j = k := by omega
        rw [hd];intro e2
        injection e2 with e2
        exact Nat.ne_of_beq_eq_false e e2.symm
  exact fun t v ht => this m (Nat.le_refl _) t v ht fun j h1 h2 => by omega
 refine QDR hf hback (fun D a w' => (∃ val, HInv n L cls m alc σ w Φ D val a w') ∨ ∃ k, m < k ∧ k ≤ L.length ∧ (∀ i, D.getD i false = decide (i < k)) ∧ wpListIn (FR none) 0 P L.toArray Q (L.drop k) a w') ?_ ?_ ?_
 ·left
  have hno : ∀ i, (Array.replicate L.toArray.size false).getD i false = false := fun i => by
   by_cases h : i < L.toArray.size
   ·simp [Array.getD]
   ·simp [Array.getD]
  refine ⟨fun _ => undef, ⟨⟨rfl, rfl, rfl, Nat.le_refl _, fun _ _ => rfl⟩, ha.size, ha.defers, ?_, fun t v ht _ => ha.get t v ht, ?_, ?_, ?_, ?_, fun i _ => hno i⟩⟩
  ·intro i d _ h; rw [hno] at h; cases h
  ·intro i _ h; rw [hno] at h; cases h
  ·intro i h; rw [hno] at h; cases h
  ·intro i _ _ h; rw [hno] at h; cases h
  ·intro i _ j _ _ _ h; rw [hno] at h; cases h
 ·intro D a w1 i o hs hI hni ho hdep
  have hs' : D.size = L.length := by simpa using hs
  have ho' : L[i]? = some o := by simpa using ho
  have hil : i < L.length := (List.getElem?_eq_some_iff.1 ho').1;have hnd : D.getD i false = false := QAi (by omega) hni
  have takeTail : ∀ (k : Nat), k = i → m ≤ k → (∀ j, D.getD j false = decide (j < k)) → wpListIn (FR none) 0 P L.toArray Q (L.drop k) a w1 →
    wpOpIn (FR none) 0 P L.toArray Q i (fun a w' => (∃ val, HInv n L cls m alc σ w Φ (D.setIfInBounds i true) val a w') ∨ ∃ k, m < k ∧ k ≤ L.length ∧ (∀ j, (D.setIfInBounds i true).getD j false = decide (j < k)) ∧ wpListIn (FR none) 0 P L.toArray Q (L.drop k) a w') a w1 := by
   intro k hk hmk hD hw;subst hk;rw [List.drop_eq_getElem_cons hil] at hw;have e : L[k] = o := by rw [List.getElem?_eq_getElem hil] at ho'; injection ho'
   rw [e] at hw
   unfold wpListIn at hw
   have hnext : ∀ a w', wpListIn (FR none) 0 P L.toArray Q (L.drop (k + 1)) a w' → (∃ val, HInv n L cls m alc σ w Φ (D.setIfInBounds k true) val a w') ∨ ∃ k', m < k' ∧ k' ≤ L.length ∧ (∀ j, (D.setIfInBounds k true).getD j false = decide (j < k')) ∧ wpListIn (FR none) 0 P L.toArray Q (L.drop k') a w' := fun a w' h => .inr ⟨k + 1, by omega, by omega, fun j => by
    rw [set_get (by omega)]
    by_cases e : j = k
    ·subst e; simp
    ·rw [if_neg e, hD]
     by_cases h : j < k
     ·simp [h]; omega
     ·simp [h]; omega, h⟩
   unfold wpOpIn
   simp only [ho]
   split
   ·rename_i hw'
    rw [if_pos hw'] at hw
    exact Oper.wpIn_mono hnext hw
   ·rename_i hw'
    rw [if_neg hw'] at hw
    exact ⟨hw.1, hnext _ _ hw.2⟩
  rcases hI with ⟨val, I⟩ | ⟨k, hmk, hkl, hD, hw⟩
  ·have hcd := tailDone D i o I.down ho' hdep
   rcases Nat.lt_or_ge i m with him | him
   ·have henv : Env n (sgAt L cls m σ val i) a := by
     refine ⟨I.size, I.defers, fun t v ht => ?_⟩
     unfold sgAt at ht
     cases hfw : QDI L t (clsAt cls i) with
     | some j =>
      simp only [hfw] at ht
      obtain ⟨h1, h2⟩ := QAV hfw
      injection ht with ht
      have hj := hcd j h1;have hjm : j < m := by
       rcases Nat.lt_or_ge j m with h | h
       ·exact h
       ·rw [I.high j h] at hj; cases hj
      rw [I.new j t hjm hj h2, ht]
     | none =>
      simp only [hfw] at ht
      cases hob : oldB L cls i t m with
      | false => rw [hob] at ht; cases ht
      | true =>
       rw [hob] at ht;refine I.old t v ht fun k hk hdk hd => ?_
       rcases QBq hob k hk hd with rfl | h
       ·rw [hnd] at hdk; cases hdk
       ·have := I.down k hdk i h
        rw [hnd] at this; cases this
    have hjm : ∀ j, D.getD j false = true → j < m := fun j hj => by
     rcases Nat.lt_or_ge j m with h | h
     ·exact h
     ·rw [I.high j h] at hj; cases hj
    refine wpOpIn_mono ?_ (QKf (QA6 hndf) hQ (hstep i him val w1 a I.below henv fun j hj => I.says j (hjm j (hcd j hj)) (hcd j hj)))
    rintro a' w' ⟨v, rfl, hb, hphi, halc⟩
    left
    have hgrow : Below w.heap.size w w' := I.below.trans (hb.mono I.below.size);have hdi : ZS L i = o.dst := dstOf_at ho';refine ⟨upd val i v, ⟨hgrow, ?_, ?_, ?_, ?_, ?_, ?_, ?_, ?_, ?_⟩⟩
    ·rw [QCU]; exact I.size
    ·cases ZS L i <;> exact I.defers
    ·intro k d hk hdk hd
     rw [set_get (by omega)] at hdk
     by_cases e : k = i
     ·subst e
      have hdn : d < n := H.small k o d ho' hk (by rw [← hdi]; exact hd)
      rw [hd]
      simp only [Act.put, upd, if_true]
      rw [Array.getElem?_setIfInBounds_self_of_lt (by rw [I.size]; exact hdn)]
     ·rw [if_neg e] at hdk
      have hok : ∃ p, L[k]? = some p := ⟨L[k]'(by omega), by simp [show k < L.length by omega]⟩
      obtain ⟨p, hp⟩ := hok;have hne : ZS L i ≠ some d := by
       intro h'
       rcases Nat.lt_or_gt_of_ne e with hlt | hgt
       ·exact H.dist k i p o d hp ho' hlt him (by rw [← dstOf_at hp]; exact hd) (by rw [← hdi]; exact h')
       ·exact H.dist i k o p d ho' hp hgt hk (by rw [← hdi]; exact h') (by rw [← dstOf_at hp]; exact hd)
      have := I.new k d hk hdk hd
      simp only [upd, if_neg e]
      cases hdi' : ZS L i with
      | none => exact this
      | some d' =>
       have : d' ≠ d := fun h => hne (by rw [hdi', h])
       simp only [Act.put, Array.getElem?_setIfInBounds_ne this]
       assumption
    ·intro t u ht hno
     have h1 : a.tmps[t]? = some u := I.old t u ht fun k hk hdk => hno k hk (by rw [set_get (by omega)]; split <;> simp [hdk])
     have h2 : ZS L i ≠ some t := hno i him (by rw [set_get (by omega), if_pos rfl])
     cases hdi' : ZS L i with
     | none => exact h1
     | some d' =>
      have : d' ≠ t := fun h => h2 (by rw [hdi', h])
      simp only [Act.put, Array.getElem?_setIfInBounds_ne this]
      exact h1
    ·intro k hk hdk
     rw [set_get (by omega)] at hdk
     by_cases e : k = i
     ·subst e; exact hphi
     ·rw [if_neg e] at hdk
      have hni' : i ∉ clsAt cls k := fun h => by
       have := I.down k hdk i h;rw [hnd] at this; cases this
      rw [QDX e hni']
      exact hmono k _ w1 w' hb (I.says k hk hdk)
    ·intro k hdk j hj
     rw [set_get (by omega)] at hdk ⊢
     by_cases e : k = i
     ·subst e
      rw [hcd j hj]; simp
     ·rw [if_neg e] at hdk
      rw [I.down k hdk j hj]; simp
    ·intro k hk hkm hdk
     rw [set_get (by omega)] at hdk
     by_cases e : k = i
     ·subst e
      obtain ⟨h1, h2⟩ := halc hk
      exact ⟨w1.heap.size, by simp [upd, h1], I.below.size, h2⟩
     ·rw [if_neg e] at hdk
      obtain ⟨g, h1, h2, h3⟩ := I.alc1 k hk hkm hdk
      exact ⟨g, by simp [upd, e, h1], h2, Nat.lt_of_lt_of_le h3 hb.size⟩
    ·intro k hk j hj hkm hjm' hdk hdj hne
     rw [set_get (by omega)] at hdk hdj
     by_cases e : k = i
     ·subst e
      have e2 : j ≠ k := Ne.symm hne;rw [if_neg e2] at hdj;obtain ⟨h1, _⟩ := halc hk;obtain ⟨g, h3, _, h5⟩ := I.alc1 j hj hjm' hdj
      simp only [upd, if_true, if_neg e2, h1, h3]
      intro h
      injection h with h
      injection h with h
      injection h with h
      omega
     ·rw [if_neg e] at hdk
      by_cases e2 : j = i
      ·subst e2
       obtain ⟨h1, _⟩ := halc hj;obtain ⟨g, h3, _, h5⟩ := I.alc1 k hk hkm hdk
       simp only [upd, if_true, if_neg e, h1, h3]
       intro h
       injection h with h
       injection h with h
       injection h with h
       omega
      ·rw [if_neg e2] at hdj
       simp only [upd, if_neg e, if_neg e2]
       exact I.alc2 k hk j hj hkm hjm' hdk hdj hne
    ·intro k hk
     rw [set_get (by omega), if_neg (by omega)]
     exact I.high k hk
   ·have hall : ∀ j, j < i → D.getD j false = true := fun j hj => hcd j (H.tail i o ho' him j hj)
    have him' : i = m := by
     rcases Nat.lt_or_ge m i with h | h
     ·have := hall m h
      rw [I.high m (Nat.le_refl _)] at this; cases this
     ·omega
    subst him'
    exact takeTail i rfl (Nat.le_refl _) (fun j => by
     by_cases h : j < i
     ·rw [hall j h]; simp [h]
     ·rw [I.high j (by omega)]; simp [h]) (hEnd D val a w1 I hall)
  ·have hcd : ∀ j, j < i → D.getD j false = true := fun j hj => by
    have hmi : m ≤ i := by
     have := hD i;rw [hnd] at this;have : ¬ i < k := by simpa using this.symm
     omega
    have hdn : ∀ i, D.getD i false = true → ∀ j ∈ clsAt cls i, D.getD j false = true := by
     intro x hx y hy;rw [hD] at hx ⊢;have hx' : x < k := by simpa using hx
     obtain ⟨p, hp⟩ : ∃ p, L[x]? = some p := ⟨L[x]'(by omega), by simp [show x < L.length by omega]⟩
     have : ∀ (x : Nat) (p : Oper), L[x]? = some p → ∀ y ∈ clsAt cls x, y < x := by
      intro x
      induction x using Nat.strongRecOn with
      | ind x ih =>
       intro p hp y hy;obtain ⟨e, he, hb, h⟩ := H.dep x p hp y hy;have h1 := H.back x p hp e he hb
       rcases h with rfl | h
       ·exact h1
       ·obtain ⟨q, hq⟩ : ∃ q, L[e.on]? = some q := by
         have : x < L.length := (List.getElem?_eq_some_iff.1 hp).1
         exact ⟨L[e.on]'(by omega), by simp [show e.on < L.length by omega]⟩
        have := ih e.on h1 q hq y h
        omega
     have := this x p hp y hy
     simp
     omega
    exact tailDone D i o hdn ho' hdep j (H.tail i o ho' hmi j hj)
   have hik : k = i := by
    have h1 := hD i;rw [hnd] at h1;have h2 : ¬ i < k := by simpa using h1.symm
    rcases Nat.lt_or_ge k i with h | h
    ·have := hcd k h
     rw [hD] at this
     simp at this
    ·omega
   exact takeTail k hik (by omega) hD hw
 ·intro D a w1 hs hI hall
  have hs' : D.size = L.length := by simpa using hs
  rcases hI with ⟨val, I⟩ | ⟨k, hmk, hkl, hD, hw⟩
  ·have hmL : m = L.length := by
    rcases Nat.lt_or_ge m L.length with h | h
    ·have := hall m (by simpa using h)
     rw [I.high m (Nat.le_refl _)] at this; cases this
    ·omega
   have := hEnd D val a w1 I fun i hi => hall i (by simp; omega)
   rw [hmL, List.drop_length] at this
   exact this
  ·have hk : k = L.length := by
    rcases Nat.lt_or_ge k L.length with h | h
    ·have := hall k (by simpa using h)
     rw [hD] at this
     simp at this
    ·omega
   rw [hk, List.drop_length] at hw
   exact hw
theorem ELI.ends {ro : Option Nat} {k m : Nat} {ds : List Deferred} {val : Nat → Value} {rest : List Oper} {cs : List Value} (hv : QIS val 0 cs) (hl : Nat.ble m (lenV cs) = true) (h : ELI ro k P n ds L Q rest (sgEnd L σ (nthV cs) m) w) : ELI ro k P n ds L Q rest (sgEnd L σ val m) w := by
 have e : sgEnd L σ val m = sgEnd L σ (nthV cs) m := QBM m fun j hj => by
  have := QEZ hv j (by rw [← Yw]; have := Nat.le_of_ble_eq_true hl; omega)
  rwa [Nat.zero_add] at this
 rw [e]
 exact h
end
theorem QCB {A B C D E : World → Prop} : ¬LetsOut (fun e _ W' => A W' ∧ B W' ∧ C W' ∧ ((e = Exit.normal ∧ D W') ∨ (e = Exit.ret ∧ E W'))) := fun ⟨_, _, h⟩ => by
 rcases h.2.2.2 with ⟨h1, _⟩ | ⟨h1, _⟩ <;> cases h1
theorem Yk {xi : Nat} {A B C D E : World → Prop} : ¬LetsOut (fun e _ W' => A W' ∧ B W' ∧ C W' ∧ ((e = Exit.normal ∧ D W') ∨ (e = Exit.exit xi ∧ E W'))) := fun ⟨_, _, h⟩ => by
 rcases h.2.2.2 with ⟨h1, _⟩ | ⟨h1, _⟩ <;> cases h1
theorem Soft.none {b m : Nat} {U : List Nat} {A B : World} (h : Soft b m [] A B) : Soft b m U A B := let ⟨row, hg, hr⟩ := h; ⟨row, hg, fun g e => by
 rcases hr g e with ⟨_, T, cs, h1, _⟩ | h2
 ·cases h1
 ·exact .inr h2⟩
theorem Kp.soft {n0 b m : Nat} {S : List Nat} {W A B : World} (h : Kp n0 S W A) (hs : Soft b m [] A B) (hm : n0 ≤ m) (hn : n0 ≤ W.heap.size) : Kp n0 S W B := by
 obtain ⟨row, hg, hr⟩ := hs
 cases row with
 | none => exact h.trans (Kp.of_below ⟨hg.os, hg.tape, hg.output, hg.size, fun k hk => hg.block k hk (fun e => by cases e)⟩ (Nat.le_trans hn h.size))
 | some g =>
  rcases hr g rfl with ⟨_, T, cs, h1, _⟩ | ⟨h1, o, h2, h3⟩
  ·cases h1
  ·exact h.trans (Kp.other (by omega) h2 h3 hg)
theorem QAh {P : Program} {fn : Func} {tmps : Array Value} {R : Ending → World → Prop} {n0 k : Nat} {Z : World → Prop} (hZ : ∀ A D, Z A → n0 ≤ D → A.heap[D]? = some (.deferred (some [])) → Z (A.putObj D (.deferred none))) : ∀ (ds : List Deferred) (w : World), Z4 n0 ds w → ds.Nodup → Z w → (∀ w', TookO n0 w w' → Z w' → ∃ v, (results fn tmps).run P w' = .ok v w' ∧ R (.returned v) w') → LeavesInM Fence.wide k P fn tmps R ds .returning w
 | [], w, _, _, hz, h => h w ⟨⟨Below.refl _ _, rfl, fun _ _ _ h => h⟩, fun _ _ h _ => h⟩ hz
 | d :: ds, w, hm, hd, hz, h => by
  obtain ⟨D, hD, rfl, hw⟩ := hm d (List.mem_cons_self ..);have ho : ∀ j, j ≠ D → (w.putObj D (.deferred none)).heap[j]? = w.heap[j]? := fun j hj => World.putObj_heap_other hj
  refine ⟨by simp, .inl ⟨D, _, rfl, run_takeDeferred hw, QAh (n0 := n0) hZ ds _ (fun d' hd' => ?_) (List.nodup_cons.1 hd).2 (hZ _ _ hz hD hw) fun w' ht => h w' ?_⟩⟩
  ·obtain ⟨D', h1, rfl, h3⟩ := hm d' (List.mem_cons_of_mem _ hd')
   refine ⟨D', h1, rfl, (ho D' fun e => ?_).trans h3⟩
   subst e
   exact (List.nodup_cons.1 hd).1 hd'
  ·have hk : Kp n0 [] w (w.putObj D (.deferred none)) := Kp.putObj _ hD hw rfl
   refine ⟨⟨hk.below.trans ht.took.below, ht.took.size.trans (by simp), fun g T cs hg => ht.took.blk g T cs (hk.blk g T cs hg rfl)⟩, fun j o hj hn => ht.keep j o ((ho j fun e => ?_).trans hj) hn⟩
   subst e;rw [hw] at hj
   injection hj with hj
   exact hn _ hj.symm
section
variable {P : Program} {n : Nat} {ds : List Deferred} {σ : Sg} {w : World}
theorem EXI.doneZ {fn : Func} {R : Ending → World → Prop} {n0 : Nat} {v : Value} {Z : World → Prop} (hm : Z4 n0 ds w) (hd : ds.Nodup) (hz : Z w) (hZ : ∀ A D, Z A → n0 ≤ D → A.heap[D]? = some (.deferred (some [])) → Z (A.putObj D (.deferred none))) (hr : ∀ w', TookO n0 w w' → ∀ a, Env n σ a → (results fn a.tmps).run P w' = .ok v w') (h : ∀ w', TookO n0 w w' → Z w' → R (.returned v) w') : EXI n ds (bodyPostM Fence.wide 0 P fn R) .ret σ w := fun a ha => by
 show LeavesInM Fence.wide 0 P fn a.tmps R a.defers .returning w
 rw [ha.ds]
 exact QAh hZ ds w hm hd hz fun w' ht hz' => ⟨v, hr w' ht ⟨a.tmps, []⟩ ha.env, h w' ht hz'⟩
theorem EXI.doneZN {fn : Func} {R : Ending → World → Prop} {n0 : Nat} {v : Value} {Z : World → Prop} (hm : Z4 n0 ds w) (hd : ds.Nodup) (hz : Z w) (hZ : ∀ A D, Z A → n0 ≤ D → A.heap[D]? = some (.deferred (some [])) → Z (A.putObj D (.deferred none))) (hr : ∀ w', TookO n0 w w' → ∀ a, Env n σ a → (results fn a.tmps).run P w' = .ok v w') (h : ∀ w', TookO n0 w w' → Z w' → R (.returned v) w') : EXI n ds (bodyPostM Fence.wide 0 P fn R) .normal σ w := fun a ha => by
 show LeavesInM Fence.wide 0 P fn a.tmps R a.defers .returning w
 rw [ha.ds]
 exact QAh hZ ds w hm hd hz fun w' ht hz' => ⟨v, hr w' ht ⟨a.tmps, []⟩ ha.env, h w' ht hz'⟩
end
theorem TurnsS.kpT {p : Nat → Prop} {U S : List Nat} {n0 : Nat} {w0 A B : World} (h : Kp n0 S w0 A) (ht : TurnsS p U A B) (hp : ∀ g, p g → w0.heap.size ≤ g) (hn : n0 ≤ w0.heap.size) : Kp n0 S w0 B :=
 ht.keep (J := fun X => Kp n0 S w0 X) (fun X Y hX _ hb => hX.trans (Kp.of_below hb (Nat.le_trans hn hX.size))) (fun X Y g T cs hX hg hg2 _ _ => hX.turn hg (hp g hg2) hn) h
theorem TurnsS.softI {p : Nat → Prop} {U : List Nat} {b m : Nat} {J : List It → World → Prop} {s : List It} {A B : World} (h : J s A) (ht : TurnsS p U A B) (hp : ∀ g, p g → b ≤ g) (hJ : Y0 b m U J) : J s B :=
 ht.keep (J := fun X => J s X) (fun X Y hX _ hb => hJ _ _ _ hX (Soft.of_below hb)) (fun X Y g T cs hX hg hg2 hT hq => hJ _ _ _ hX ⟨some g, hg, fun k e => by injection e with e; subst e; exact .inl ⟨hp g hg2, T, cs, hT, hq⟩⟩) h
theorem PileAt.weak {p p' : Nat → Prop} {w : World} {base bp : Nat} {sl : Value} {ps : List VD} (h : PileAt p w base bp sl ps) (hb : p' bp) (hr : ∀ g, sl.ownBlock = some g → p' g) : PileAt p' w base bp sl ps := ⟨h.box, hb, h.row, hr, h.drs⟩
theorem PileAt.same {p : Nat → Prop} {w w' : World} {base bp : Nat} {sl : Value} {ps : List VD} (h : PileAt p w base bp sl ps) (hb : base ≤ bp) (hs : Zu base w w') : PileAt p w' base bp sl ps := by
 have hblk : ∀ {g T : Nat} {cs : Array Value}, base ≤ g → Blk w g T cs → Blk w' g T cs := fun hg hq => (hs _ hg hq.lt).trans hq
 have hrow : ∀ {e size n : Nat} {v : Value} {xs : List Value}, w.ownsRow base e size v n xs → w'.ownsRow base e size v n xs := fun ho => by
  obtain ⟨hl, h0 | ⟨g, cap, cur, hv, hb, hk, h1⟩⟩ := ho
  ·exact ⟨hl, .inl h0⟩
  ·exact ⟨hl, .inr ⟨g, cap, cur, hv, hb, hblk hb (cs := cur) hk, h1⟩⟩
 refine ⟨hblk hb h.box, h.pb, hrow h.row, h.pr, fun x hx => ?_⟩
 obtain ⟨b, s, e, h1, h2, h3⟩ := (h.drs x hx).at_
 exact ⟨b, s, e, h1, hblk h1 h2, hrow h3⟩
theorem QBQ {w w' : World} {base e size n : Nat} {v : Value} {xs : List Value} (ho : w.ownsRow base e size v n xs) (hs : Zu base w w') : w'.ownsRow base e size v n xs := by
 obtain ⟨hl, h0 | ⟨g, cap, cur, hv, hb, hk, h1⟩⟩ := ho
 ·exact ⟨hl, .inl h0⟩
 ·exact ⟨hl, .inr ⟨g, cap, cur, hv, hb, (hs g hb (Blk.lt (cs := cur) hk)).trans hk, h1⟩⟩
theorem OwnDr.same {w w' : World} {base : Nat} {v : Value} {d : Dr} (h : OwnDr w base v d) (hs : Zu base w w') : OwnDr w' base v d := by
 obtain ⟨b, sl, e, h1, h2, h3⟩ := h.at_
 exact ⟨b, sl, e, h1, (hs b h1 h2.lt).trans h2, QBQ h3 hs⟩
theorem Zu.mono {b c : Nat} {A B : World} (h : Zu b A B) (hc : b ≤ c) : Zu c A B := fun j h1 h2 => h j (Nat.le_trans hc h1) h2
/-- the pile's slice lies in a new box -/
theorem PileAt.moved {p : Nat → Prop} {w w' : World} {base bp g : Nat} {sl : Value} {ps : List VD} {cs : Array Value} (h : PileAt p w base bp sl ps) (hq : Blk w g 145 cs) (hg : w.grownBy w' (some g)) (hq2 : Blk w' g 145 #[sl]) (hp : p g) : PileAt p w' base g sl ps := by
 refine ⟨hq2, hp, ZG h.row hq rfl hg, h.pr, fun x hx => ?_⟩
 obtain ⟨b, s, e, h1, h2, h3⟩ := (h.drs x hx).at_
 exact ⟨b, s, e, h1, h2.grown hg fun e => Yq (U := [145]) h2 hq rfl rfl (Option.some.inj e), ZG h3 hq rfl hg⟩
theorem DrOk.plan8 {l : LK} {q : QS} {d : Dr} (hq : QOk l q) (h : DrOk l q d) : d.plan.length ≤ 8 := by
 have := h.len;have := QBy hq h (u := false) (n := 0) (Nat.zero_le _)
 omega
theorem QD0 {α : Type} {a b : List α} {i : Nat} (h : a <+: b) (hi : i < a.length) : a[i]? = b[i]? := by
 obtain ⟨t, rfl⟩ := h;rw [List.getElem?_append_left hi]
theorem QFQ {N : Nat} {pre : List It} {x : It} (h : (pre ++ [x]).map (·.1) <+: allE N) : pre.length < N ∧ x.1 = [((pre.length : Nat) : Int)] := by
 have hl := h.length_le;rw [List.length_map, List.length_append, List.length_singleton, QBd] at hl;refine ⟨hl, ?_⟩;have h1 : ((pre ++ [x]).map (·.1))[pre.length]? = (allE N)[pre.length]? := QD0 h (by simp)
 rw [List.map_append, List.getElem?_append_right (by simp)] at h1
 simp only [List.length_map, Nat.sub_self, List.map_cons, List.map_nil, List.getElem?_cons_zero] at h1
 unfold allE at h1
 rw [List.getElem?_map, List.getElem?_range hl] at h1
 injection h1
/-- what is handed: a draft, by its number among all complete ones -/
def okP (l : LK) (q : QS) (b : Nat) (x : It) (W : World) : Prop := OwnDr W b x.2 ((allD l q).getD (x.1.getD 0 0).toNat dr0)
theorem QMQ {l : LK} {q : QS} {b n : Nat} {v : Value} {W : World} {out : List Dr} {d : Dr} (hn : n = out.length) (h : OwnDr W b v d) (hp : (out ++ [d]) <+: allD l q) : okP l q b ([((n : Nat) : Int)], v) W := by
 have hl := hp.length_le;rw [List.length_append, List.length_singleton] at hl;have h1 : (out ++ [d])[out.length]? = (allD l q)[out.length]? := QD0 hp (by simp)
 rw [List.getElem?_append_right (by simp)] at h1
 simp only [Nat.sub_self, List.getElem?_cons_zero] at h1
 have h2 : (allD l q).getD out.length dr0 = d := by
  rw [List.getD_eq_getElem?_getD, ← h1]
  rfl
 unfold okP
 rw [show ([((n : Nat) : Int)] : List Int).getD 0 0 = ((n : Nat) : Int) from rfl, Int.toNat_natCast, hn, h2]
 exact h
theorem QK3 {l : LK} {q : QS} {n : Nat} {out : List Dr} {d : Dr} {xs : List It} {v : Value} (hx : xs.map (·.1) = allE out.length) (hn : n = out.length) (hp : (out ++ [d]) <+: allD l q) : (xs ++ [([((n : Nat) : Int)], v)]).map (·.1) <+: allE (allD l q).length := by
 have hl := hp.length_le;rw [List.length_append, List.length_singleton] at hl;rw [List.map_append, hx, hn]
 exact QEY (by omega)
theorem QIz {xs : List It} {v : Value} {out : List Dr} {d : Dr} (hx : xs.map (·.1) = allE out.length) : (xs ++ [([((out.length : Nat) : Int)], v)]).map (·.1) = allE (out ++ [d]).length := by
 rw [List.map_append, hx, List.length_append, List.length_singleton]
 exact QBx.symm
theorem QA4 {q : QS} {a b : List Dr} (h : a.Perm b) : YT q a = YT q b := (h.map _).sum_nat
/-- the state of the search's loop -/
structure LS where
 xs : List It
 out : List Dr
 ps : List VD
 sl : Value
 bp : Nat
 ds : List Deferred
theorem QJZ {w : World} {g base T : Nat} {v : Value} (h : Blk w g T #[v]) (hb : base ≤ g) : w.ownsRow base T 1 (.slice (some ⟨g, 0, none⟩) 1 1) 1 [v] := ⟨rfl, .inr ⟨g, 1, #[v], rfl, hb, h, Nat.le_refl _, by simp [maxLen], rfl, rfl⟩⟩
/-- a pile's drafts, as they stand in a search -/
theorem SI.bound {l : LK} {q : QS} (hq : QOk l q) {out : List Dr} {ps : List VD} (h : SI l q out (ps.map Prod.snd)) : ∀ x ∈ ps, x.2.plan.length ≤ 1000000 := fun x hx => by
 have := (h.ok x.2 (List.mem_map_of_mem (f := Prod.snd) hx)).plan8 hq
 omega
theorem QEx {l : LK} {q : QS} (hq : QOk l q) {out rest : List Dr} {d : Dr} {ps : List VD} {n : Nat} (h : SI l q out (rest ++ nextL q d)) (hp : (ps.map Prod.snd).Perm (rest ++ (nextL q d).take n)) : ∀ x ∈ ps, x.2.plan.length ≤ 1000000 := fun x hx => by
 have h1 := hp.mem_iff.1 (List.mem_map_of_mem (f := Prod.snd) hx);have h2 : x.2 ∈ rest ++ nextL q d := by
  rcases List.mem_append.1 h1 with h1 | h1
  ·exact List.mem_append_left _ h1
  ·exact List.mem_append_right _ (List.mem_of_mem_take h1)
 have := (h.ok x.2 h2).plan8 hq
 omega
theorem QHt {q : QS} {rest : List Dr} {d : Dr} {ps : List VD} {n : Nat} (hs : YT q (rest ++ nextL q d) ≤ 6561) (hp : (ps.map Prod.snd).Perm (rest ++ (nextL q d).take n)) : ps.length ≤ 6561 := by
 have h1 := hp.length_eq;have h2 := QDv (q := q) (ps := rest ++ nextL q d);rw [List.length_map, List.length_append, List.length_take] at h1;rw [List.length_append] at h2
 omega
theorem QCd {q : QS} {rest : List Dr} {d : Dr} {ps qs : List VD} {n : Nat} {v : Value} (hn : n < (nextL q d).length) (hp : (ps.map Prod.snd).Perm (rest ++ (nextL q d).take n)) (hq : qs.Perm (ps ++ [(v, (nextL q d).getD n dr0)])) : (qs.map Prod.snd).Perm (rest ++ (nextL q d).take (n + 1)) := by
 have h1 := hq.map Prod.snd;rw [List.map_append] at h1;have e : (nextL q d).take (n + 1) = (nextL q d).take n ++ [(nextL q d).getD n dr0] := Z1 hn;rw [e, ← List.append_assoc]
 exact h1.trans (hp.append_right _)
theorem QGJ {ps rest : List VD} {x : VD} (h : ps.Perm (x :: rest)) : (ps.map Prod.snd).Perm (x.2 :: rest.map Prod.snd) := h.map Prod.snd
theorem QKy {ps : List VD} {x : VD} (h : ∀ y ∈ ps, leD x.2 y.2) : ∀ p ∈ ps.map Prod.snd, leD x.2 p := fun p hp => by
 obtain ⟨y, hy, rfl⟩ := List.mem_map.1 hp
 exact h y hy
theorem QBh {l : LK} {ts : List TW} (h : towE l ts = 0) : lkB l = true ∧ ts.length ≤ 8 ∧ ∀ t ∈ ts, twB l t = true := by
 unfold towE at h
 split at h
 ·rename_i h1
  split at h
  ·cases h
  ·rename_i h2
   split at h
   ·rename_i h3
    exact ⟨h1, by omega, List.all_eq_true.1 h3⟩
   ·cases h
 ·cases h
theorem QG6 {l : LK} {ts : List TW} (h : towE l ts = 0) : QOk l (qL ts) := by
 obtain ⟨h1, h2, h3⟩ := QBh h
 exact ⟨fun u t ht => h3 t (QMO ht).1, by rw [QMP]; exact h2, h1⟩
def QB4 (l : LK) (ts : List TW) : List SP × Int × Int :=
 if towE l ts = 0 then (match allD l (qL ts) with | [] => ([], 0, 0) | d :: _ => (d.plan, d.s.cost, 0)) else ([], 0, towE l ts)
theorem QGq {l : LK} {ts : List TW} (h : ¬towE l ts = 0) : QB4 l ts = ([], 0, towE l ts) := if_neg h
theorem QE9 {l : LK} {ts : List TW} (h : towE l ts = 0) (h2 : allD l (qL ts) = []) : QB4 l ts = ([], 0, 0) := by
 unfold QB4
 rw [if_pos h, h2]
theorem QE8 {l : LK} {ts : List TW} (h : towE l ts = 0) (h2 : 0 < (allD l (qL ts)).length) : QB4 l ts = (((allD l (qL ts)).getD 0 dr0).plan, ((allD l (qL ts)).getD 0 dr0).s.cost, 0) := by
 unfold QB4
 rw [if_pos h]
 cases e : allD l (qL ts) with
 | nil => rw [e] at h2; cases h2
 | cons d r => rfl
/-! ### Thrift -/
def updB (b : Option Dr) (d : Dr) : Option Dr := match b with
 | none => some d
 | some e => if e.s.up < d.s.up then some d else some e
def thrL (most : Int) (l : List Dr) : List Dr := l.takeWhile fun d => decide (d.s.cost ≤ most)
def thrB (l : List Dr) : Option Dr := l.foldl updB none
def Y5 (l : LK) (ts : List TW) (most : Int) : List SP × Int × Int :=
 if towE l ts = 0 then (match thrB (thrL most (allD l (qL ts))) with | none => ([], 0, 7) | some d => (d.plan, d.s.cost, 0)) else ([], 0, towE l ts)
theorem QHV {l : LK} {ts : List TW} {most : Int} (h : ¬towE l ts = 0) : Y5 l ts most = ([], 0, towE l ts) := if_neg h
theorem QCO {l : LK} {ts : List TW} {most : Int} (h : towE l ts = 0) (h2 : thrB (thrL most (allD l (qL ts))) = none) : Y5 l ts most = ([], 0, 7) := by
 unfold Y5
 rw [if_pos h, h2]
theorem QCN {l : LK} {ts : List TW} {most : Int} {d : Dr} (h : towE l ts = 0) (h2 : thrB (thrL most (allD l (qL ts))) = some d) : Y5 l ts most = (d.plan, d.s.cost, 0) := by
 unfold Y5
 rw [if_pos h, h2]
theorem QIV (l : List Dr) (d : Dr) : thrB (l ++ [d]) = updB (thrB l) d := by simp [thrB]
section
variable {most : Int} {l : List Dr} {k : Nat}
theorem QHU : (thrL most l).length ≤ l.length := (List.takeWhile_sublist _).length_le
theorem QKk : thrL most l = l.take (thrL most l).length := QC2 _ _
theorem QJC (h : k < (thrL most l).length) : (thrL most l).getD k dr0 = l.getD k dr0 := by
 have h1 := QHU (most := most) (l := l);rw [Zg h, Zg (by omega)]
 have e : (thrL most l)[k]? = (l.take (thrL most l).length)[k]? := congrArg (fun z => z[k]?) QKk
 rw [List.getElem?_eq_getElem h, List.getElem?_take, if_pos h, List.getElem?_eq_getElem (by omega)] at e
 injection e
/-- one more that is allowed, and the first that is not -/
theorem QJB (hk : k ≤ (thrL most l).length) (hl : k < l.length) (hc : (l.getD k dr0).s.cost ≤ most) : k < (thrL most l).length := by
 rcases Nat.lt_or_ge k (thrL most l).length with h | h
 ·exact h
 ·obtain rfl : k = (thrL most l).length := by omega
  have := QB6 (p := fun d : Dr => decide (d.s.cost ≤ most)) (d := dr0) (l := l) hl
  change decide ((l.getD (thrL most l).length dr0).s.cost ≤ most) = false at this;rw [decide_eq_true hc] at this
  cases this
theorem QI_ (hk : k ≤ (thrL most l).length) (hc : most < (l.getD k dr0).s.cost) : k = (thrL most l).length := by
 rcases Nat.lt_or_ge k (thrL most l).length with h | h
 ·have h1 := Zo h dr0
  have h2 := List.all_eq_true.1 (List.all_takeWhile (l := l) (p := fun d : Dr => decide (d.s.cost ≤ most))) _ h1
  rw [QJC h] at h2;have := of_decide_eq_true h2
  omega
 ·omega
theorem QJA (h : k < (thrL most l).length) : thrB ((thrL most l).take (k + 1)) = updB (thrB ((thrL most l).take k)) (l.getD k dr0) := by
 rw [Z1 (d := dr0) h, QIV, QJC h]
end
theorem Soft.low {b m : Nat} {U : List Nat} {A B : World} {g T : Nat} {cs : Array Value} (h : Soft b m U A B) (hq : Blk A g T cs) (h1 : g < b) (h2 : g < m) : Blk B g T cs := by
 obtain ⟨row, hg, hr⟩ := h;refine hq.grown hg fun e => ?_
 rcases hr g e.symm with ⟨h3, _⟩ | ⟨h3, _⟩ <;> omega
theorem QG5 {P : Program} {n : Nat} {σ : Sg} {w : World} {fn : Func} {c1 c2 c3 : Tmp} {t1 t2 t3 : TypeId} {p1 p2 p3 : Addr} {v1 v2 v3 : Value} (h : fn.results = #[.cell c1 t1, .cell c2 t2, .cell c3 t3]) (hc1 : σ c1 = some (.pointer (some p1))) (hc2 : σ c2 = some (.pointer (some p2))) (hc3 : σ c3 = some (.pointer (some p3))) (hl1 : (loadVar t1 p1).run P w = .ok v1 w) (hl2 : (loadVar t2 p2).run P w = .ok v2 w) (hl3 : (loadVar t3 p3).run P w = .ok v3 w) (a : Act) (ha : Env n σ a) : (results fn a.tmps).run P w = .ok (.tuple #[v1, v2, v3]) w := by
 have h1 : a.tmps.getD c1 undef = .pointer (some p1) := ha.eval (x := .tmp c1) hc1;have h2 : a.tmps.getD c2 undef = .pointer (some p2) := ha.eval (x := .tmp c2) hc2;have h3 : a.tmps.getD c3 undef = .pointer (some p3) := ha.eval (x := .tmp c3) hc3;rw [Array.getD_eq_getD_getElem?] at h1 h2 h3
 simp [results, h, h1, h2, h3, asAddr, hl1, hl2, hl3]
/-- how many tows of a direction a plan takes -/
def sumU (u : Bool) (p : List SP) : Int := ((p.filter fun x => x.up == u).map (·.tows)).sum
def Zb (q : QS) (u : Bool) (p : List SP) : Int := ((q u).length : Int) - sumU u p
def okAt (q : QS) (p : List SP) (k : Nat) : Bool := inB 1 (Zb q (p.getD k sp0).up (p.take k)) (p.getD k sp0).tows
def okC (q : QS) (p : List SP) : Bool := (List.range p.length).all (okAt q p) && (decide (Zb q false p = 0) && decide (Zb q true p = 0))
def sAt (l : LK) (q : QS) (p : List SP) (k : Nat) : ST := stP q (stL l) (p.take k)
def twAt (l : LK) (q : QS) (p : List SP) (k : Nat) : List TW := (waitL q (sAt l q p k) (p.getD k sp0).up).take (p.getD k sp0).tows.toNat
def QBE (l : LK) (q : QS) (p : List SP) (k : Nat) : Bool := fitB (sAt l q p k).lk.length (twAt l q p k)
def fitC (l : LK) (q : QS) (p : List SP) : Bool := (List.range p.length).all (QBE l q p)
def QEr (l : LK) (q : QS) (p : List SP) (k : Nat) : RN := runT (sAt l q p k) (twAt l q p k) (p.getD k sp0).up
def QBC (l : LK) (q : QS) (p : List SP) (k : Nat) : List RN := (List.range k).map (QEr l q p)
def Z0 (l : LK) (ts : List TW) (p : List SP) : Int :=
 if towE l ts = 0 then (if okC (qL ts) p = true then (if fitC l (qL ts) p = true then 0 else 8) else 4) else towE l ts
theorem QBL (u : Bool) : sumU u [] = 0 := rfl
theorem QEo (u : Bool) (p : List SP) (x : SP) : sumU u (p ++ [x]) = if x.up = u then sumU u p + x.tows else sumU u p := by
 unfold sumU
 rw [List.filter_append]
 by_cases h : x.up = u
 ·rw [if_pos h]
  simp [h]
 ·rw [if_neg h]
  simp [h]
theorem Yn {p : List SP} {k : Nat} (u : Bool) (h : k < p.length) : sumU u (p.take (k + 1)) = if (p.getD k sp0).up = u then sumU u (p.take k) + (p.getD k sp0).tows else sumU u (p.take k) := by
 rw [Z1 h, QEo]
theorem QCS {l : LK} {q : QS} {p : List SP} {k : Nat} (h : k < p.length) : sAt l q p (k + 1) = tkS (sAt l q p k) (twAt l q p k) (p.getD k sp0).up := by
 unfold sAt stP
 rw [Z1 h, List.foldl_append]
 rfl
theorem QDx (l : LK) (q : QS) (p : List SP) (k : Nat) : QBC l q p (k + 1) = QBC l q p k ++ [QEr l q p k] := by
 unfold QBC
 rw [List.range_succ, List.map_append]
 rfl
theorem QC8 {a b n : Int} (h : inB a b n = true) : a ≤ n ∧ n ≤ b := (Zy ..).1 h
theorem QHN {f : Nat → Bool} {n k : Nat} (h : (List.range n).all f = true) (hk : k < n) : f k = true := List.all_eq_true.1 h k (List.mem_range.2 hk)
theorem QFz {f : Nat → Bool} {n : Nat} (h : ∀ k, k < n → f k = true) : (List.range n).all f = true := List.all_eq_true.2 fun k hk => h k (List.mem_range.1 hk)
theorem QDn {f : Nat → Bool} {n k : Nat} (hk : k < n) (h : f k = false) : (List.range n).all f = false := by
 cases e : (List.range n).all f with
 | false => rfl
 | true => rw [QHN e hk] at h; cases h
/-- while the steps are in order, the counts lie within the queues -/
theorem QLI {q : QS} {p : List SP} {k : Nat} (hk : k ≤ p.length) (h : ∀ i, i < k → okAt q p i = true) (u : Bool) : 0 ≤ sumU u (p.take k) ∧ 0 ≤ Zb q u (p.take k) := by
 induction k with
 | zero => rw [List.take_zero, Zb, QBL]; omega
 | succ k ih =>
  obtain ⟨h1, h2⟩ := ih (by omega) (fun i hi => h i (by omega))
  obtain ⟨a, b⟩ := QC8 (h k (by omega))
  unfold Zb at *
  rw [Yn u (by omega)]
  split
  ·rename_i e
   rw [e] at b
   omega
  ·omega
/-- while the steps fit, too: the state is that of a draft -/
theorem QGn {l : LK} {q : QS} {p : List SP} (hq : QOk l q) : ∀ {k : Nat}, k ≤ p.length → (∀ i, i < k → okAt q p i = true) → (∀ i, i < k → QBE l q p i = true) → DrOk l q ⟨sAt l q p k, p.take k⟩ ∧ ∀ u, ((tkn (sAt l q p k) u : Nat) : Int) = sumU u (p.take k)
 | 0, _, _, _ => ⟨QCp hq.lk, fun u => by cases u <;> rfl⟩
 | k + 1, hk, h, hf => by
  obtain ⟨h1, h2⟩ := QGn hq (k := k) (by omega) (fun i hi => h i (by omega)) (fun i hi => hf i (by omega))
  obtain ⟨a, b⟩ := QC8 (h k (by omega))
  have hu := h2 (p.getD k sp0).up;have hw : (p.getD k sp0).tows.toNat ≤ (waitL q (sAt l q p k) (p.getD k sp0).up).length := by
   rw [YW]
   unfold Zb at b
   omega
  have hfit := hf k (by omega)
  have h3 := DrOk.one (d := ⟨sAt l q p k, p.take k⟩) (u := (p.getD k sp0).up) (n := (p.getD k sp0).tows.toNat) hq h1 (by omega) hw hfit
  have e : (⟨(p.getD k sp0).up, (((p.getD k sp0).tows.toNat : Nat) : Int)⟩ : SP) = p.getD k sp0 := by
   rw [Int.toNat_of_nonneg (by omega)]
  have e2 : oneD q ⟨sAt l q p k, p.take k⟩ (p.getD k sp0).up (p.getD k sp0).tows.toNat = ⟨sAt l q p (k + 1), p.take (k + 1)⟩ := by
   unfold oneD
   rw [e, QCS (by omega), Z1 (d := sp0) (by omega)]
   rfl
  rw [e2] at h3;refine ⟨h3, fun u => ?_⟩
  rw [QCS (by omega), QFF, Yn u (by omega)]
  have hl : (twAt l q p k).length = (p.getD k sp0).tows.toNat := by
   unfold twAt
   rw [List.length_take]
   omega
  by_cases eu : u = (p.getD k sp0).up
  ·subst eu
   rw [if_pos rfl, if_pos rfl, hl];have := h2 (p.getD k sp0).up
   omega
  ·rw [if_neg eu, if_neg (fun e => eu e.symm)]
   exact h2 u
theorem QHk {q : QS} {p : List SP} (h : (List.range p.length).all (okAt q p) = true) : ∀ {k : Nat}, k ≤ p.length → (k : Int) ≤ sumU false (p.take k) + sumU true (p.take k)
 | 0, _ => by rw [List.take_zero, QBL, QBL]; omega
 | k + 1, hk => by
  have ih := QHk h (k := k) (by omega)
  obtain ⟨a, b⟩ := QC8 (QHN h (show k < p.length by omega))
  rw [Yn false (by omega), Yn true (by omega)]
  cases hu : (p.getD k sp0).up
  ·rw [if_pos rfl, if_neg (by decide)]
   omega
  ·rw [if_neg (by decide), if_pos rfl]
   omega
theorem QFT {q : QS} {p : List SP} (h : okC q p = true) : (List.range p.length).all (okAt q p) = true ∧ Zb q false p = 0 ∧ Zb q true p = 0 := by
 unfold okC at h
 rw [Bool.and_eq_true, Bool.and_eq_true] at h
 exact ⟨h.1, of_decide_eq_true h.2.1, of_decide_eq_true h.2.2⟩
theorem QJe {l : LK} {q : QS} {p : List SP} (hq : QOk l q) (h : okC q p = true) : p.length ≤ 8 := by
 obtain ⟨h1, h2, h3⟩ := QFT h;have := QHk h1 (Nat.le_refl _);have := hq.len;rw [List.take_length] at *
 unfold Zb at h2 h3
 omega
def volL (x : List LR) (y : List LT) (d : Nat) : List Bd := (List.range x.length).map fun i => volD x y i d
def YK (x : List LR) (y : List LT) (n : Nat) : List (List Bd) := (List.range n).map fun d => volL x y (d + 1)
/-- the first k volumes have been laid -/
def firstL (x : List LR) (y : List LT) (k : Nat) : List Bd := (List.range x.length).map fun i => if i < k then volD x y i 0 else bd0
/-- the inflow of the first k reaches has been added -/
def infL (x : List LR) (y : List LT) (d k : Nat) : List Bd := (List.range x.length).map fun i => if i < k then plusB (volD x y i d) (x.getD i lr0).inf else volD x y i d
/-- the first j locks have been looked at -/
def lockL (x : List LR) (y : List LT) (d j : Nat) : List Bd := (List.range x.length).map fun i => plusB (plusB (volD x y i d) (x.getD i lr0).inf) (lkD y j i)
theorem QCf {α : Type} {f : Nat → α} (n : Nat) : ((List.range n).map f).length = n := by simp
theorem YC {α : Type} {f : Nat → α} {n i : Nat} (d : α) (h : i < n) : ((List.range n).map f).getD i d = f i := by
 rw [Zg (by simpa using h)]
 simp
theorem QBm {α : Type} {f g : Nat → α} {n i : Nat} (hg : ∀ k, k < n → g k = if k = i then g i else f k) : ((List.range n).map f).set i (g i) = (List.range n).map g := by
 apply List.ext_getElem?
 intro k;rw [List.getElem?_set]
 by_cases h : k < n
 ·by_cases e : i = k
  ·subst e
   simp [h]
  ·have := hg k h
   rw [if_neg (fun h => e h.symm)] at this
   simp [h, e, this]
 ·by_cases e : i = k
  ·subst e
   simp [h]
  ·simp [h, e]
theorem firstL_zero (x : List LR) (y : List LT) : firstL x y 0 = List.replicate x.length bd0 := by
 unfold firstL
 apply List.ext_getElem?
 intro k
 by_cases h : k < x.length <;> simp [h]
theorem QGh {x : List LR} {y : List LT} {k : Nat} (h : k < x.length) : (firstL x y k).set k (volD x y k 0) = firstL x y (k + 1) := by
 have := QBm (f := fun i => if i < k then volD x y i 0 else bd0) (g := fun i => if i < k + 1 then volD x y i 0 else bd0) (n := x.length) (i := k) (fun j hj => by
  by_cases e : j = k
  ·subst e; rw [if_pos rfl]
  ·rw [if_neg e]
   by_cases h2 : j < k
   ·rw [if_pos h2, if_pos (by omega)]
   ·rw [if_neg h2, if_neg (by omega)])
 simp only [if_pos (Nat.lt_succ_self k)] at this
 exact this
theorem QHG (x : List LR) (y : List LT) : firstL x y x.length = volL x y 0 := List.map_congr_left fun i hi => if_pos (List.mem_range.1 hi)
theorem QE1 (x : List LR) (y : List LT) (d : Nat) : infL x y d 0 = volL x y d := List.map_congr_left fun i hi => if_neg (Nat.not_lt_zero i)
theorem QDc {x : List LR} {y : List LT} {d k : Nat} (h : k < x.length) : (infL x y d k).getD k bd0 = volD x y k d := by
 unfold infL
 rw [YC _ h, if_neg (Nat.lt_irrefl k)]
theorem QE2 {x : List LR} {y : List LT} {d k : Nat} (h : k < x.length) : (infL x y d k).set k (plusB (volD x y k d) (x.getD k lr0).inf) = infL x y d (k + 1) := by
 have := QBm (f := fun i => if i < k then plusB (volD x y i d) (x.getD i lr0).inf else volD x y i d) (g := fun i => if i < k + 1 then plusB (volD x y i d) (x.getD i lr0).inf else volD x y i d) (n := x.length) (i := k) (fun j hj => by
  by_cases e : j = k
  ·subst e; rw [if_pos rfl]
  ·rw [if_neg e]
   by_cases h2 : j < k
   ·rw [if_pos h2, if_pos (by omega)]
   ·rw [if_neg h2, if_neg (by omega)])
 simp only [if_pos (Nat.lt_succ_self k)] at this
 exact this
theorem QIc (a : Bd) : plusB a bd0 = a := by
 cases a
 simp [plusB, bd0]
theorem QGe (x : List LR) (y : List LT) (d : Nat) : infL x y d x.length = lockL x y d 0 := List.map_congr_left fun i hi => by
 rw [if_pos (List.mem_range.1 hi), QJw, QIc]
theorem QD1 (a b c : Bd) : plusB (plusB a b) c = plusB a (plusB b c) := by
 simp only [plusB, Bd.mk.injEq]
 omega
theorem QBU {x : List LR} {y : List LT} {d j i : Nat} (h : i < x.length) : (lockL x y d j).getD i bd0 = plusB (plusB (volD x y i d) (x.getD i lr0).inf) (lkD y j i) := YC _ h
theorem QEA {x : List LR} {y : List LT} {d j : Nat} (h : j + 1 < x.length) :
  ((lockL x y d j).set j (plusB ((lockL x y d j).getD j bd0) (oppB (movT (y.getD j lt0))))).set (j + 1) (plusB ((lockL x y d j).getD (j + 1) bd0) (movT (y.getD j lt0))) = lockL x y d (j + 1) := by
 rw [QBU (by omega), QBU h]
 have e1 := QBm (f := fun i => plusB (plusB (volD x y i d) (x.getD i lr0).inf) (lkD y j i)) (g := fun i => if i = j then plusB (plusB (plusB (volD x y i d) (x.getD i lr0).inf) (lkD y j i)) (oppB (movT (y.getD j lt0))) else plusB (plusB (volD x y i d) (x.getD i lr0).inf) (lkD y j i)) (n := x.length) (i := j) (fun k hk => by
  by_cases e : k = j
  ·subst e; rw [if_pos rfl]; exact (if_pos rfl).symm
  ·rw [if_neg e, if_neg e])
 simp only [if_true] at e1
 have e2 := QBm (f := fun i => if i = j then plusB (plusB (plusB (volD x y i d) (x.getD i lr0).inf) (lkD y j i)) (oppB (movT (y.getD j lt0))) else plusB (plusB (volD x y i d) (x.getD i lr0).inf) (lkD y j i)) (g := fun i => plusB (plusB (volD x y i d) (x.getD i lr0).inf) (lkD y (j + 1) i)) (n := x.length) (i := j + 1) (fun k hk => by
  rw [QEC]
  by_cases e : k = j
  ·subst e
   rw [if_pos rfl, if_neg (by omega), ← QD1 (plusB _ _)]
   exact (if_pos rfl).symm
  ·rw [if_neg e, if_neg e]
   by_cases e3 : k = j + 1
   ·subst e3
    rw [if_pos rfl, if_pos rfl, QEC, if_neg (by omega), if_pos rfl]
   ·rw [if_neg e3, if_neg e3])
 unfold lockL
 rw [e1, ← e2]
 congr 1
 rw [QEC, if_neg (by omega), if_pos rfl, QD1 (plusB _ _)]
theorem lockL_all (x : List LR) (y : List LT) (d : Nat) : lockL x y d y.length = volL x y (d + 1) := List.map_congr_left fun i hi => (QEl x y i d).symm
theorem Zc (x : List LR) (y : List LT) (d : Nat) : (volL x y d).length = x.length := QCf _
theorem QAU (x : List LR) (y : List LT) (d k : Nat) : (infL x y d k).length = x.length := QCf _
theorem YA (x : List LR) (y : List LT) (d k : Nat) : (lockL x y d k).length = x.length := QCf _
theorem QEK (x : List LR) (y : List LT) (k : Nat) : (firstL x y k).length = x.length := QCf _
theorem Zt (x : List LR) (y : List LT) (n : Nat) : (YK x y n).length = n := QCf _
theorem YY {x : List LR} {y : List LT} {n d : Nat} (h : d < n) : (YK x y n).getD d [] = volL x y (d + 1) := YC _ h
/-! ### Bounds -/
structure ChOk (x : List LR) (y : List LT) (days : Int) : Prop where
 n10 : x.length ≤ 10
 yl : y.length + 1 = x.length
 lr : ∀ r ∈ x, lrB r = true
 lt : ∀ k ∈ y, ltB k = true
 days : 0 ≤ days ∧ days ≤ 60
theorem QEP {x : List LR} {y : List LT} {days : Int} (h : chE x y days = 0) : ChOk x y days := by
 unfold chE at h
 split at h
 ·cases h
 ·rename_i h1
  split at h
  ·cases h
  ·rename_i h2
   split at h
   ·rename_i h3
    split at h
    ·rename_i h4
     split at h
     ·rename_i h5
      exact ⟨by omega, by omega, List.all_eq_true.1 h3, List.all_eq_true.1 h4, (Zy ..).1 h5⟩
     ·cases h
    ·cases h
   ·cases h
def Mid (M : Int) (b : Bd) : Prop := (-M ≤ b.lo ∧ b.lo ≤ M) ∧ -M ≤ b.hi ∧ b.hi ≤ M
theorem Mid.plus {M K : Int} {a b : Bd} (h : Mid M a) (k : Mid K b) : Mid (M + K) (plusB a b) := by
 obtain ⟨⟨h1, h2⟩, h3, h4⟩ := h;obtain ⟨⟨k1, k2⟩, k3, k4⟩ := k
 unfold plusB
 exact ⟨⟨by simp only; omega, by simp only; omega⟩, by simp only; omega, by simp only; omega⟩
theorem Mid.opp {M : Int} {a : Bd} (h : Mid M a) : Mid M (oppB a) := by
 obtain ⟨⟨h1, h2⟩, h3, h4⟩ := h
 exact ⟨⟨by show -M ≤ -a.hi; omega, by show -a.hi ≤ M; omega⟩, by show -M ≤ -a.lo; omega, by show -a.lo ≤ M; omega⟩
theorem Mid.mono {M K : Int} {a : Bd} (h : Mid M a) (hk : M ≤ K) : Mid K a := by
 obtain ⟨⟨h1, h2⟩, h3, h4⟩ := h
 exact ⟨⟨by omega, by omega⟩, by omega, by omega⟩
theorem Mid.zero {M : Int} (h : 0 ≤ M) : Mid M bd0 := ⟨⟨by show -M ≤ 0; omega, by show (0 : Int) ≤ M; omega⟩, by show -M ≤ 0; omega, by show (0 : Int) ≤ M; omega⟩
theorem QJm {k : LT} (h : ltB k = true) : Mid 100000000 (movT k) := by
 unfold ltB at h
 rw [Bool.and_eq_true, Zy, QFx] at h;obtain ⟨⟨h1, h2⟩, h3, h4, h5⟩ := h;have a := Int.mul_nonneg h1 h3;have b := Int.mul_le_mul h2 (show k.cyc.lo ≤ 100 by omega) h3 (by omega)
 have c := Int.mul_nonneg h1 (show 0 ≤ k.cyc.hi by omega)
 have d := Int.mul_le_mul h2 h5 (by omega) (by omega)
 exact ⟨⟨by show _ ≤ k.fill * k.cyc.lo; omega, by show k.fill * k.cyc.lo ≤ _; omega⟩, by show _ ≤ k.fill * k.cyc.hi; omega, by show k.fill * k.cyc.hi ≤ _; omega⟩
theorem QLF : Mid 100000000 (movT lt0) := ⟨⟨by decide, by decide⟩, by decide, by decide⟩
theorem QH7 {y : List LT} (h : ∀ k ∈ y, ltB k = true) (i : Nat) : Mid 100000000 (movT (y.getD i lt0)) := by
 by_cases hi : i < y.length
 ·exact QJm (h _ (Zo hi lt0))
 ·have e : y.getD i lt0 = lt0 := by simp [List.getD, show y.length ≤ i by omega]
  rw [e]
  exact QLF
theorem QHz {y : List LT} (h : ∀ k ∈ y, ltB k = true) (j i : Nat) : Mid 200000000 (lkD y j i) := by
 unfold lkD
 refine (Mid.plus (M := 100000000) (K := 100000000) ?_ ?_).mono (by omega)
 ·split
  ·exact (QH7 h i).opp
  ·exact Mid.zero (by omega)
 ·split
  ·exact QH7 h _
  ·exact Mid.zero (by omega)
theorem QD_ {r : LR} (h : lrB r = true) : (0 ≤ r.vol ∧ r.vol ≤ 1000000000000) ∧ Mid 1000000000000 r.inf := by
 unfold lrB at h
 rw [Bool.and_eq_true, Bool.and_eq_true, Zy, Zy, QFx] at h
 exact ⟨h.1.1, ⟨⟨by omega, by omega⟩, by omega, by omega⟩⟩
theorem QF4 {x : List LR} {y : List LT} {days : Int} (h : ChOk x y days) {i : Nat} (hi : i < x.length) : ∀ (d : Nat), Mid (1000000000000 + d * 1000200000000) (volD x y i d)
 | 0 => by
  have := (QD_ (h.lr _ (Zo hi lr0))).1;rw [QEk]
  exact ⟨⟨by simp only; omega, by simp only; omega⟩, by simp only; omega, by simp only; omega⟩
 | d + 1 => by
  rw [QEl]
  exact (((QF4 h hi d).plus (QD_ (h.lr _ (Zo hi lr0))).2).plus (QHz h.lt y.length i)).mono (by omega)
theorem QCe {x : List LR} {y : List LT} {days : Int} (h : ChOk x y days) {i d : Nat} (hi : i < x.length) (hd : d ≤ 60) : Mid 100000000000000 (volD x y i d) := (QF4 h hi d).mono (by omega)
theorem QD8 {x : List LR} {y : List LT} {days : Int} (h : ChOk x y days) {i d : Nat} (j : Nat) (hi : i < x.length) (hd : d ≤ 60) : Mid 200000000000000 (plusB (plusB (volD x y i d) (x.getD i lr0).inf) (lkD y j i)) :=
 (((QCe h hi hd).plus (QD_ (h.lr _ (Zo hi lr0))).2).plus (QHz h.lt j i)).mono (by omega)
def byte (x : Int) : Prop := 0 ≤ x ∧ x ≤ 255
theorem Zv {x : Int} (h : byte x) : IntKind.i64.wrap x = x := IntWalk.i64_in _ ⟨by have := h.1; omega, by have := h.2; omega⟩
structure Sml where
 a0 : Int
 a1 : Int
 a2 : Int
 a3 : Int
 a4 : Int
 hi : Bool
 tows : List (Int × Int × Int × Int × Int)
 steps : List (Int × Int)
structure SmlOk (x : Sml) : Prop where
 a0 : byte x.a0
 a1 : byte x.a1
 a2 : byte x.a2
 a3 : byte x.a3
 a4 : byte x.a4
 t : ∀ p ∈ x.tows, byte p.1 ∧ byte p.2.1 ∧ byte p.2.2.1 ∧ byte p.2.2.2.1 ∧ byte p.2.2.2.2
 s : ∀ p ∈ x.steps, byte p.1 ∧ byte p.2
theorem QBi {a : Int} {n : Int} (h : byte a) (hn : 0 < n) : 0 ≤ a.tmod n ∧ a.tmod n < n := ⟨Int.tmod_nonneg _ h.1, Int.tmod_lt_of_pos _ hn⟩
theorem QEc {α β : Type} (f : α → β) (l : List α) (d : α) {i : Nat} (h : i < l.length) : (l.take (i + 1)).map f = (l.take i).map f ++ [f (l.getD i d)] := by
 rw [Z1 (d := d) h, List.map_append]
 rfl
/-! ### Plans that fit -/
structure PlOk (l : LK) (q : QS) (d : Dr) : Prop where
 dr : DrOk l q d
 sum : ∀ u, ((tkn d.s u : Nat) : Int) = sumU u d.plan
 at_ : ∀ i, i < d.plan.length → okAt q d.plan i = true ∧ QBE l q d.plan i = true
theorem PlOk.start {l : LK} {q : QS} (h : lkB l = true) : PlOk l q ⟨stL l, []⟩ := ⟨QCp h, fun u => by cases u <;> rfl, fun i hi => by cases hi⟩
theorem QIr {p : List SP} {x : SP} : (p ++ [x]).getD p.length sp0 = x := by simp
theorem PlOk.one {l : LK} {q : QS} {d : Dr} {u : Bool} {n : Nat} (hq : QOk l q) (h : PlOk l q d) (h1 : 1 ≤ n) (h2 : n ≤ (waitL q d.s u).length) (hf : fitN q d.s u n = true) : PlOk l q (oneD q d u n) := by
 have ht := Zk (q := q) (d := d) h2;have hpl : (oneD q d u n).plan = d.plan ++ [⟨u, n⟩] := rfl;refine ⟨h.dr.one hq h1 h2 hf, fun v => ?_, fun i hi => ?_⟩
 ·rw [hpl, QEo]
  show ((tkn (tkS d.s _ u) v : Nat) : Int) = _
  rw [QFF, ht];have := h.sum v;have hu := h.sum u
  by_cases e : v = u
  ·subst e
   rw [if_pos rfl, if_pos rfl]
   show _ = sumU v d.plan + (n : Int)
   omega
  ·rw [if_neg e, if_neg (fun h => e h.symm)]
   exact this
 ·rw [hpl] at hi ⊢
  rw [List.length_append, List.length_singleton] at hi
  rcases Nat.lt_or_ge i d.plan.length with h3 | h3
  ·obtain ⟨a, b⟩ := h.at_ i h3
   have e1 : (d.plan ++ [(⟨u, n⟩ : SP)]).getD i sp0 = d.plan.getD i sp0 := QHM h3;have e2 : (d.plan ++ [(⟨u, n⟩ : SP)]).take i = d.plan.take i := List.take_append_of_le_length (by omega)
   have e3 : sAt l q (d.plan ++ [(⟨u, n⟩ : SP)]) i = sAt l q d.plan i := by unfold sAt; rw [e2]
   unfold okAt QBE twAt at *
   rw [e1, e2, e3]
   exact ⟨a, b⟩
  ·obtain rfl : i = d.plan.length := by omega
   have e1 : (d.plan ++ [(⟨u, n⟩ : SP)]).getD d.plan.length sp0 = ⟨u, n⟩ := QIr;have e2 : (d.plan ++ [(⟨u, n⟩ : SP)]).take d.plan.length = d.plan := List.take_left;have e3 : sAt l q (d.plan ++ [(⟨u, n⟩ : SP)]) d.plan.length = d.s := by unfold sAt; rw [e2]; exact h.dr.eq.symm
   unfold okAt QBE twAt
   rw [e1, e2, e3];refine ⟨?_, ?_⟩
   ·rw [Zy]
    have hu := h.sum u;rw [YW] at h2;have := h.dr.le u
    show 1 ≤ (n : Int) ∧ (n : Int) ≤ Zb q u d.plan
    unfold Zb
    omega
   ·show fitB d.s.lk.length ((waitL q d.s u).take ((n : Int)).toNat) = true
    rw [Int.toNat_natCast]
    exact hf
theorem PlOk.ok {l : LK} {q : QS} {d : Dr} (h : PlOk l q d) (hc : Yx q d.s = true) : okC q d.plan = true ∧ fitC l q d.plan = true := by
 refine ⟨?_, QFz fun i hi => (h.at_ i hi).2⟩
 unfold okC
 unfold Yx at hc
 rw [Bool.and_eq_true, decide_eq_true_iff, decide_eq_true_iff] at hc;have a := h.sum false;have b := h.sum true;have c1 : tkn d.s false = d.s.t0 := rfl;have c2 : tkn d.s true = d.s.t1 := rfl;rw [Bool.and_eq_true, Bool.and_eq_true, decide_eq_true_iff, decide_eq_true_iff]
 unfold Zb
 exact ⟨QFz fun i hi => (h.at_ i hi).1, by omega, by omega⟩
abbrev V4 := Int × Int × Int × Int
abbrev V3 := Int × Int × Int
def z4 : V4 := (0, 0, 0, 0)
def z3 : V3 := (0, 0, 0)
def e4C (p : V4) : List Value := [.int .u8 p.1, .int .u8 p.2.1, .int .u8 p.2.2.1, .int .u8 p.2.2.2]
def e3C (p : V3) : List Value := [.int .u8 p.1, .int .u8 p.2.1, .int .u8 p.2.2]
def e4s (l : List V4) : List Value := l.flatMap e4C
def e3s (l : List V3) : List Value := l.flatMap e3C
def u8s (l : List Int) : List Value := l.map fun x => .int .u8 x
theorem QIB (p : V4) : (e4C p).length = 4 := rfl
theorem QIC (p : V3) : (e3C p).length = 3 := rfl
theorem QLS (l : List V4) : (e4s l).length = l.length * 4 := Yi QIB l
theorem QLT (l : List V3) : (e3s l).length = l.length * 3 := Yi QIC l
theorem QKi (l : List Int) : (u8s l).length = l.length := by simp [u8s]
theorem QIs (l : List V4) (k : Nat) (hk : k < l.length) (w : World) (B : Nat) (A : Option Addr) (n c : Nat) (hr : Rd w B 4 (.slice A n c) n (e4s l)) :
  ∃ b off, A = some ⟨b, off, none⟩ ∧ b < B ∧ w.cell? ⟨b, off + k * 4, none⟩ = some (.int .u8 (l.getD k z4).1) ∧ w.cell? ⟨b, off + k * 4 + 1, none⟩ = some (.int .u8 (l.getD k z4).2.1) ∧ w.cell? ⟨b, off + k * 4 + 2, none⟩ = some (.int .u8 (l.getD k z4).2.2.1) ∧ w.cell? ⟨b, off + k * 4 + 3, none⟩ = some (.int .u8 (l.getD k z4).2.2.2) := by
 have hl : n * 4 = l.length * 4 := by rw [← hr.len, QLS]
 obtain ⟨b, off, rfl, hb, hc⟩ := hr.at_ (by omega)
 have e : l.getD k z4 = l[k] := by simp [hk]
 rw [e];have g := fun j hj => QBZ QIB l k hk j hj
 exact ⟨b, off, rfl, hb, hc (k * 4) _ (g 0 (by omega)), hc (k * 4 + 1) _ (g 1 (by omega)), hc (k * 4 + 2) _ (g 2 (by omega)), hc (k * 4 + 3) _ (g 3 (by omega))⟩
theorem QIt (l : List V3) (k : Nat) (hk : k < l.length) (w : World) (B : Nat) (A : Option Addr) (n c : Nat) (hr : Rd w B 3 (.slice A n c) n (e3s l)) :
  ∃ b off, A = some ⟨b, off, none⟩ ∧ b < B ∧ w.cell? ⟨b, off + k * 3, none⟩ = some (.int .u8 (l.getD k z3).1) ∧ w.cell? ⟨b, off + k * 3 + 1, none⟩ = some (.int .u8 (l.getD k z3).2.1) ∧ w.cell? ⟨b, off + k * 3 + 2, none⟩ = some (.int .u8 (l.getD k z3).2.2) := by
 have hl : n * 3 = l.length * 3 := by rw [← hr.len, QLT]
 obtain ⟨b, off, rfl, hb, hc⟩ := hr.at_ (by omega)
 have e : l.getD k z3 = l[k] := by simp [hk]
 rw [e];have g := fun j hj => QBZ QIC l k hk j hj
 exact ⟨b, off, rfl, hb, hc (k * 3) _ (g 0 (by omega)), hc (k * 3 + 1) _ (g 1 (by omega)), hc (k * 3 + 2) _ (g 2 (by omega))⟩
theorem QIU (l : List Int) (k : Nat) (hk : k < l.length) (w : World) (B : Nat) (A : Option Addr) (n c : Nat) (hr : Rd w B 1 (.slice A n c) n (u8s l)) :
  ∃ b off, A = some ⟨b, off, none⟩ ∧ b < B ∧ w.cell? ⟨b, off + k, none⟩ = some (.int .u8 (l.getD k 0)) := by
 have hl : n * 1 = l.length * 1 := by have h1 := hr.len; rw [QKi] at h1; omega
 obtain ⟨b, off, rfl, hb, hc⟩ := hr.at_ (by omega)
 have e : l.getD k 0 = l[k] := by simp [hk]
 rw [e]
 exact ⟨b, off, rfl, hb, hc k _ (by simp [u8s, hk])⟩
/-! ### Chains -/
structure Chn where
 rs : List V4
 ls : List V3
 dy : Int
structure ChnOk (c : Chn) : Prop where
 r : ∀ p ∈ c.rs, byte p.1 ∧ byte p.2.1 ∧ byte p.2.2.1 ∧ byte p.2.2.2
 l : ∀ p ∈ c.ls, byte p.1 ∧ byte p.2.1 ∧ byte p.2.2
 d : byte c.dy
def lrS (v : V4) : LR := ⟨100 * v.1, 60 * v.2.1, ⟨v.2.2.1, v.2.2.1 + v.2.2.2⟩⟩
def ltS (k : V3) : LT := ⟨k.1, ⟨k.2.1.tmod 20, k.2.1.tmod 20 + k.2.2.tmod 20⟩⟩
def rsS (c : Chn) : List LR := (c.rs.take 8).map lrS
def lsN (c : Chn) (n : Nat) : List LT := (List.range n).map fun i => ltS (c.ls.getD i z3)
theorem QFX (c : Chn) (n : Nat) : (lsN c n).length = n := by simp [lsN]
theorem QJq (c : Chn) (n : Nat) : lsN c (n + 1) = lsN c n ++ [ltS (c.ls.getD n z3)] := by
 unfold lsN
 rw [List.range_succ, List.map_append]
 rfl
theorem QD9 (a b : List LR) : lrsC (a ++ b) = lrsC a ++ lrsC b := List.flatMap_append
theorem QGZ (a b : List LT) : ltsC (a ++ b) = ltsC a ++ ltsC b := List.flatMap_append
theorem QHv {c : Chn} (h : ChnOk c) (i : Nat) : byte (c.ls.getD i z3).1 ∧ byte (c.ls.getD i z3).2.1 ∧ byte (c.ls.getD i z3).2.2 := by
 by_cases hi : i < c.ls.length
 ·exact h.l _ (Zo hi z3)
 ·have : c.ls.getD i z3 = z3 := by simp [List.getD, List.getElem?_eq_none (by omega : c.ls.length ≤ i)]
  rw [this]
  exact ⟨⟨by decide, by decide⟩, ⟨by decide, by decide⟩, by decide, by decide⟩
theorem QMa {k : V3} (h : byte k.1 ∧ byte k.2.1 ∧ byte k.2.2) : ltB (ltS k) = true := by
 obtain ⟨h1, h2, h3⟩ := h;have a := QBi h2 (n := 20) (by decide)
 have b := QBi h3 (n := 20) (by decide)
 unfold byte at h1
 unfold ltB bdB ltS
 simp only [Bool.and_eq_true, Zy, decide_eq_true_iff]
 omega
theorem QMc {v : V4} (h : byte v.1 ∧ byte v.2.1 ∧ byte v.2.2.1 ∧ byte v.2.2.2) : lrB (lrS v) = true := by
 obtain ⟨h1, h2, h3, h4⟩ := h
 unfold byte at *
 unfold lrB bdB lrS
 simp only [Bool.and_eq_true, Zy, decide_eq_true_iff]
 omega
theorem QKP {c : Chn} (h : ChnOk c) (h0 : 0 < (rsS c).length) {dd : Int} (hd : 0 ≤ dd ∧ dd ≤ 30) : chE (rsS c) (lsN c ((rsS c).length - 1)) dd = 0 := by
 have h8 : (rsS c).length ≤ 8 := by unfold rsS; rw [List.length_map, List.length_take]; omega
 unfold chE
 rw [if_neg (by omega), if_neg (by rw [QFX]; omega), if_pos, if_pos, if_pos ((Zy ..).2 (by omega))]
 ·refine List.all_eq_true.2 fun t ht => ?_
  unfold lsN at ht
  obtain ⟨i, _, rfl⟩ := List.mem_map.1 ht
  exact QMa (QHv h i)
 ·refine List.all_eq_true.2 fun t ht => ?_
  unfold rsS at ht
  obtain ⟨v, hv, rfl⟩ := List.mem_map.1 ht
  exact QMc (h.r v (List.mem_of_mem_take hv))
theorem QKQ {y : List LT} {dd : Int} : chE [] y dd = 4 := by
 unfold chE
 rw [if_neg (by simp), if_pos (.inl rfl)]
/-! ### Volumes that are true -/
structure InB (way : Nat) (v : List Int) (b : List Bd) : Prop where
 len : v.length = b.length
 at_ : ∀ i, i < b.length → (b.getD i bd0).lo ≤ v.getD i 0 ∧ v.getD i 0 ≤ (b.getD i bd0).hi
 lo : way = 0 → 0 < b.length → v.getD 0 0 = (b.getD 0 bd0).lo
 hi : way = 1 → 0 < b.length → v.getD 0 0 = (b.getD 0 bd0).hi
theorem QBN {α : Type} {l : List α} {k i : Nat} {z d : α} (hk : k < l.length) : (l.set k z).getD i d = if i = k then z else l.getD i d := by
 by_cases h : i = k
 ·subst h
  rw [if_pos rfl]
  simp [List.getD, hk]
 ·rw [if_neg h]
  simp only [List.getD]
  rw [List.getElem?_set_ne (fun e => h e.symm)]
theorem InB.set {way : Nat} {v : List Int} {b : List Bd} {k : Nat} {z : Int} {d : Bd} (h : InB way v b) (hk : k < b.length) (hz : d.lo ≤ z ∧ z ≤ d.hi) (h0 : k = 0 → (way = 0 → z = d.lo) ∧ (way = 1 → z = d.hi)) : InB way (v.set k z) (b.set k d) := by
 have hkv : k < v.length := by rw [h.len]; exact hk
 refine ⟨by rw [List.length_set, List.length_set, h.len], fun i hi => ?_, fun hw hl => ?_, fun hw hl => ?_⟩
 ·rw [List.length_set] at hi
  rw [QBN hkv, QBN hk]
  split
  ·exact hz
  ·exact h.at_ i hi
 ·rw [List.length_set] at hl
  rw [QBN hkv, QBN hk]
  split
  ·rename_i e; exact (h0 e.symm).1 hw
  ·exact h.lo hw hl
 ·rw [List.length_set] at hl
  rw [QBN hkv, QBN hk]
  split
  ·rename_i e; exact (h0 e.symm).2 hw
  ·exact h.hi hw hl
def Pick (way : Nat) (low : Bool) (b : Bd) (r : Int) : Prop := b.lo ≤ r ∧ r ≤ b.hi ∧ (way = 0 → r = if low = true then b.lo else b.hi) ∧ (way = 1 → r = if low = true then b.hi else b.lo)
theorem InB.inf {way : Nat} {v : List Int} {x : List LR} {y : List LT} {d k : Nat} {r : Int} (h : InB way v (infL x y d k)) (hk : k < x.length) (hr : Pick way true (x.getD k lr0).inf r) : InB way (v.set k (v.getD k 0 + r)) (infL x y d (k + 1)) := by
 have hl : k < (infL x y d k).length := by rw [QAU]; exact hk
 have ha := h.at_ k hl;rw [QDc hk] at ha;rw [← QE2 hk];obtain ⟨r1, r2, r3, r4⟩ := hr;refine h.set hl ?_ fun h0 => ⟨fun hw => ?_, fun hw => ?_⟩
 ·unfold plusB; simp only; omega
 ·subst h0
  have := h.lo hw (by omega)
  rw [QDc hk] at this;rw [this, r3 hw]
  rfl
 ·subst h0
  have := h.hi hw (by omega)
  rw [QDc hk] at this;rw [this, r4 hw]
  rfl
theorem InB.lock {way : Nat} {v : List Int} {x : List LR} {y : List LT} {d j : Nat} {r : Int} (h : InB way v (lockL x y d j)) (hj : j + 1 < x.length) (hf : 0 ≤ (y.getD j lt0).fill) (hr : Pick way false (y.getD j lt0).cyc r) :
  InB way ((v.set j (v.getD j 0 - (y.getD j lt0).fill * r)).set (j + 1) ((v.set j (v.getD j 0 - (y.getD j lt0).fill * r)).getD (j + 1) 0 + (y.getD j lt0).fill * r)) (lockL x y d (j + 1)) := by
 have hl : ∀ k, k < x.length → k < (lockL x y d j).length := fun k hk => by rw [YA]; exact hk
 obtain ⟨r1, r2, r3, r4⟩ := hr;have m1 : (y.getD j lt0).fill * (y.getD j lt0).cyc.lo ≤ (y.getD j lt0).fill * r := Int.mul_le_mul_of_nonneg_left r1 hf;have m2 : (y.getD j lt0).fill * r ≤ (y.getD j lt0).fill * (y.getD j lt0).cyc.hi := Int.mul_le_mul_of_nonneg_left r2 hf;rw [← QEA hj];have hs1 : InB way (v.set j (v.getD j 0 - (y.getD j lt0).fill * r)) ((lockL x y d j).set j (plusB ((lockL x y d j).getD j bd0) (oppB (movT (y.getD j lt0))))) := by
  have ha := h.at_ j (hl j (by omega))
  refine h.set (hl j (by omega)) ?_ fun h0 => ⟨fun hw => ?_, fun hw => ?_⟩
  ·unfold plusB oppB movT; simp only; omega
  ·subst h0
   have := h.lo hw (by have := hl 0 (by omega); omega)
   have r3 := r3 hw;rw [if_neg (by decide)] at r3
   unfold plusB oppB movT
   simp only
   rw [this, r3]
   omega
  ·subst h0
   have := h.hi hw (by have := hl 0 (by omega); omega)
   have r4 := r4 hw;rw [if_neg (by decide)] at r4
   unfold plusB oppB movT
   simp only
   rw [this, r4]
   omega
 have hl2 : j + 1 < ((lockL x y d j).set j (plusB ((lockL x y d j).getD j bd0) (oppB (movT (y.getD j lt0))))).length := by rw [List.length_set]; exact hl _ hj
 have ha := hs1.at_ (j + 1) hl2;have e : ((lockL x y d j).set j (plusB ((lockL x y d j).getD j bd0) (oppB (movT (y.getD j lt0))))).getD (j + 1) bd0 = (lockL x y d j).getD (j + 1) bd0 := by
  rw [QBN (hl j (by omega)), if_neg (by omega)]
 rw [e] at ha;refine hs1.set hl2 ?_ fun h0 => by omega
 unfold plusB movT; simp only; omega
def sumI (l : List Int) : Int := l.sum
theorem QDU : ∀ {l : List Int} {k : Nat} {z : Int}, k < l.length → sumI (l.set k z) = sumI l - l.getD k 0 + z
 | [], k, z, h => by cases h
 | x :: l, 0, z, _ => by simp [sumI]; omega
 | x :: l, k + 1, z, h => by
  have := QDU (l := l) (k := k) (z := z) (by simpa using h)
  simp only [sumI, List.set_cons_succ, List.sum_cons, List.getD_cons_succ] at this ⊢
  omega
theorem QF9 {l : List Int} {k : Nat} (h : k < l.length) : sumI (l.take (k + 1)) = sumI (l.take k) + l.getD k 0 := by
 rw [Z1 (d := 0) h]
 simp [sumI]
theorem QJL {v : List Int} {j : Nat} {a : Int} (h : j + 1 < v.length) : sumI ((v.set j (v.getD j 0 - a)).set (j + 1) ((v.set j (v.getD j 0 - a)).getD (j + 1) 0 + a)) = sumI v := by
 rw [QDU (by rw [List.length_set]; exact h), QDU (by omega)]
 omega
theorem vols_start {way : Nat} {x : List LR} {y : List LT} : InB way (x.map (·.vol)) (volL x y 0) := by
 have e : ∀ i, i < x.length → (volL x y 0).getD i bd0 = ⟨(x.getD i lr0).vol, (x.getD i lr0).vol⟩ := fun i hi => by
  unfold volL
  rw [YC _ hi]
  simp [volD, lkD, movT, plusB, oppB, bd0]
 have e2 : ∀ i, i < x.length → (x.map (·.vol)).getD i 0 = (x.getD i lr0).vol := fun i hi => QHC (a := lr0) hi
 refine ⟨by rw [Zc, List.length_map], fun i hi => ?_, fun _ h0 => ?_, fun _ h0 => ?_⟩
 ·rw [Zc] at hi; rw [e i hi, e2 i hi]; exact ⟨Int.le_refl _, Int.le_refl _⟩
 ·rw [Zc] at h0; rw [e 0 h0, e2 0 h0]
 ·rw [Zc] at h0; rw [e 0 h0, e2 0 h0]
end Go.Proofs.Ytlbfnimilcnihaa
namespace Go.Proofs.Ytlbfnimilcnihaa
open Go Go.ChangeShapes Go.WideShapes Go.Deep Go.RowKit Go.Joins
theorem QIv {w : World} {x : Addr} {u : Value} (h : w.cell? x = some u) : x.spot = none ∧ x.block < w.heap.size := by
 unfold World.cell? at h
 split at h
 ·rename_i c e f hg
  split at h
  ·cases h
  ·rename_i hs
   refine ⟨by simpa using hs, ?_⟩
   rcases Nat.lt_or_ge x.block w.heap.size with hlt | hge
   ·exact hlt
   ·rw [Array.getElem?_eq_none hge] at hg; cases hg
 ·cases h
section
variable {H : Type} {enc : TypeId × Value → H} {P : Program} {w : World} {base : Nat} {spare : Nat → Bool} {held : Bool}
/-- rows of cells, one behind the other -/
theorem QGI {b off n c s : Nat} {B : Nat} (row : Nat → List Value) (hlen : ∀ i, (row i).length = s) (hs : 0 < s) (hB : b < B) (hnc : n ≤ c)
  (hcell : ∀ i, i < n → ∀ j u, (row i)[j]? = some u → w.cell? ⟨b, off + (i * s + j), none⟩ = some u) :
  Rd w B s (.slice (some ⟨b, off, none⟩) n c) n ((List.range n).flatMap row) := by
 refine ⟨by rw [Yi hlen, List.length_range], _, _, rfl, hnc, fun _ => ⟨b, off, rfl, hB, fun q u hu => ?_⟩⟩
 have hq : q < n * s := by
  have := (List.getElem?_eq_some_iff.1 hu).1
  rwa [Yi hlen, List.length_range] at this
 have hk : q / s < n := by
  rw [Nat.div_lt_iff_lt_mul hs]
  exact hq
 have e : q = q / s * s + q % s := by rw [Nat.mul_comm]; exact (Nat.div_add_mod q s).symm
 have hg := QBZ hlen (List.range n) (q / s) (by simpa using hk) (q % s) (Nat.mod_lt _ hs)
 rw [← e, List.getElem_range] at hg;rw [hg] at hu;have := hcell (q / s) hk (q % s) u hu
 rwa [← e] at this
theorem QF0 (x : Addr) (n : Nat) (h : x.spot = none) : x.add n = ⟨x.block, x.off + n, none⟩ := by
 obtain ⟨b, o, s⟩ := x;subst h;rw [Addr.add_lit]
/-- a slice, opened to its elements -/
theorem QFN {α : Type} [Inhabited α] {f : α → List Value} {s : Nat} {Good : α → Prop} (hf : ∀ x, (f x).length = s) (hs : 0 < s) {t e : TypeId} {fuel : Nat} {v : Value} {x : DataW H × List MemPlace} (ht : P.underlying t = some (.slice e)) (hC : P.cellsOf e = s)
  (hE : ∀ (fuel : Nat) (cs : List Value) (x : DataW H × List MemPlace), cs.length = s → DataW.trod enc P w base spare held fuel e cs = some x → ∃ y : α, cs = f y ∧ Good y) (h : DataW.trod enc P w base spare held fuel t [v] = some x) :
  ∃ l : List α, Rd w w.heap.size s v l.length (l.flatMap f) ∧ (∀ y ∈ l, Good y) ∧ l.length ≤ maxLen := by
 rcases open_slice ht h with ⟨hcs, _⟩ | ⟨a, len, cap, m, n, D, Pl, hcs, _, hl, hcap, hm, _, hi⟩
 ·injection hcs with hcs
  subst hcs
  exact ⟨[], Rd.nil_ _ _ _, by simp, Nat.zero_le _⟩
 ·injection hcs with hcs
  subst hcs;have hcell : ∀ i, i < len → ∃ y : α, (∀ j u, (f y)[j]? = some u → w.cell? (a.add (i * s + j)) = some u) ∧ Good y := by
   intro i hi';obtain ⟨cs', hc, ht'⟩ := hi i (by rw [hm]; split <;> omega)
   rw [hC] at hc;obtain ⟨_, hcl, hat⟩ := World.cells?_some hc;obtain ⟨y, hy, hg⟩ := hE _ cs' _ hcl ht';subst hy;refine ⟨y, fun j u hu => ?_, hg⟩
   have hj : j < s := by
    have := (List.getElem?_eq_some_iff.1 hu).1
    rwa [hf] at this
   have h1 := hat j hj;rw [Go.Deep.add_add] at h1;rw [h1, hu]
  let pick : Nat → α := fun i => if h : i < len then Classical.choose (hcell i h) else default
  have hpick : ∀ i, (h : i < len) → (∀ j u, (f (pick i))[j]? = some u → w.cell? (a.add (i * s + j)) = some u) ∧ Good (pick i) := fun i h => by
   have := Classical.choose_spec (hcell i h)
   simp only [pick, dif_pos h]
   exact this
  refine ⟨(List.range len).map pick, ?_, ?_, by simp; omega⟩
  ·rw [List.length_map, List.length_range]
   rcases Nat.eq_zero_or_pos len with hz | hz
   ·subst hz
    exact ⟨by simp, _, _, rfl, hl, fun h => absurd h (by omega)⟩
   ·have h0 := (hpick 0 hz).1 0 _ (List.getElem?_eq_getElem (by rw [hf]; exact hs))
    obtain ⟨hsp, hb⟩ := QIv h0;have e0 : a.add (0 * s + 0) = a := by simp [Addr.add]
    rw [e0] at hsp hb;have hx : a = ⟨a.block, a.off, none⟩ := by obtain ⟨b, o, s⟩ := a; subst hsp; rfl
    rw [hx, List.flatMap_map];refine QGI _ (fun i => hf _) hs hb hl fun i hi' j u hu => ?_
    have h1 := (hpick i hi').1 j u hu;rw [QF0 a _ hsp] at h1
    exact h1
  ·intro y hy
   obtain ⟨i, hi', rfl⟩ := List.mem_map.1 hy
   exact (hpick i (by simpa using hi')).2
theorem QHF {fs : Array Field} {n : Nat} {cs : List Value} {ys : List (DataW H × List MemPlace)} (hf : ∀ (i : Nat) (f : Field), fs[i]? = some f → DataW.trod enc P w base spare held n f.type ((cs.drop f.offset).take (P.cellsOf f.type)) = ys[i]?)
  {j ft off z : Nat} {f : Field} (hj : fs[j]? = some f) (h1 : f.type = ft) (h2 : f.offset = off) (h3 : P.cellsOf ft = z) : DataW.trod enc P w base spare held n ft ((cs.drop off).take z) = ys[j]? := by
 subst h1 h2 h3
 exact hf j f hj
end
section
variable {H : Type} {enc : TypeId × Value → H} {w : World} {base : Nat} {spare : Nat → Bool} {held : Bool}
theorem co_5 : Try.prog.cellsOf 5 = 1 := by kernel_rfl
theorem QL1 : Try.prog.cellsOf 93 = 3 := by kernel_rfl
theorem QKK : Try.prog.cellsOf 100 = 4 := by kernel_rfl
theorem QNE : Try.prog.cellsOf 96 = 1 := by kernel_rfl
theorem QNF : Try.prog.cellsOf 95 = 1 := by kernel_rfl
theorem QND : Try.prog.cellsOf 98 = 3 := by kernel_rfl
theorem QFs {fuel : Nat} {v : Value} {x : DataW H × List MemPlace} (h : DataW.trod enc Try.prog w base spare held fuel 98 v.cells.toList = some x) : v.cells.toList.length = 3 := by
 obtain ⟨_, _, _, _, hlen, _, _⟩ := DataW.trod_struct Try.underlying98 h;rw [hlen]
 exact QND
theorem QMw {n : Int} (h : (Lit.int .u8 n).wf = true) : byte n := by
 simp [Lit.wf, IntKind.min, IntKind.max, IntKind.signed, IntKind.bits] at h
 unfold byte
 omega
theorem QFt {fuel : Nat} {u : Value} {x : DataW H × List MemPlace} (h : DataW.trod enc Try.prog w base spare held fuel 5 [u] = some x) : ∃ z, u = .int .u8 z ∧ byte z := by
 obtain ⟨z, hz, _, wf⟩ := DataW.trod_int Try.underlying5 h
 injection hz with hz
 exact ⟨z, hz, QMw wf⟩
/-- an array of bytes -/
theorem QKZ {fuel n t : Nat} {cs : List Value} {x : DataW H × List MemPlace} (ht : Try.prog.underlying t = some (.array n 5)) (hc : Try.prog.cellsOf t = n) (h : DataW.trod enc Try.prog w base spare held fuel t cs = some x) : cs.length = n ∧ ∀ i, i < n → ∃ z, cs[i]? = some (.int .u8 z) ∧ byte z := by
 obtain ⟨xs, m, _, _, hl, hx, hi⟩ := DataW.trod_array ht h;rw [hc] at hl;refine ⟨hl, fun i hi' => ?_⟩
 have h1 := hi i hi';rw [co_5, Nat.mul_one] at h1;have hlt : i < cs.length := by omega
 have e : (cs.drop i).take 1 = [cs[i]] := by rw [List.drop_eq_getElem_cons hlt]; rfl
 rw [e, List.getElem?_eq_getElem (by omega)] at h1
 obtain ⟨z, hz, wf⟩ := QFt h1
 exact ⟨z, by rw [List.getElem?_eq_getElem hlt, hz], wf⟩
theorem QI9 {fuel : Nat} {cs : List Value} {x : DataW H × List MemPlace} (h : DataW.trod enc Try.prog w base spare held fuel 93 cs = some x) : ∃ p : V3, cs = e3C p ∧ (byte p.1 ∧ byte p.2.1 ∧ byte p.2.2) := by
 obtain ⟨hl, hi⟩ := QKZ Try.underlying93 QL1 h;obtain ⟨a, ha, ba⟩ := hi 0 (by omega)
 obtain ⟨b, hb, bb⟩ := hi 1 (by omega)
 obtain ⟨c, hc, bc⟩ := hi 2 (by omega)
 match cs, hl, ha, hb, hc with
 | [u, v, y], _, ha, hb, hc =>
  simp at ha hb hc
  subst ha hb hc
  exact ⟨(a, b, c), rfl, ba, bb, bc⟩
theorem QLM {fuel : Nat} {cs : List Value} {x : DataW H × List MemPlace} (h : DataW.trod enc Try.prog w base spare held fuel 100 cs = some x) : ∃ p : V4, cs = e4C p ∧ (byte p.1 ∧ byte p.2.1 ∧ byte p.2.2.1 ∧ byte p.2.2.2) := by
 obtain ⟨hl, hi⟩ := QKZ Try.underlying100 QKK h;obtain ⟨a, ha, ba⟩ := hi 0 (by omega)
 obtain ⟨b, hb, bb⟩ := hi 1 (by omega)
 obtain ⟨c, hc, bc⟩ := hi 2 (by omega)
 obtain ⟨d, hd, bd⟩ := hi 3 (by omega)
 match cs, hl, ha, hb, hc, hd with
 | [u, v, y, z], _, ha, hb, hc, hd =>
  simp at ha hb hc hd
  subst ha hb hc hd
  exact ⟨(a, b, c, d), rfl, ba, bb, bc, bd⟩
theorem QMN {fuel : Nat} {v : Value} {x : DataW H × List MemPlace} (h : DataW.trod enc Try.prog w base spare held fuel 96 [v] = some x) : ∃ l : List V3, Rd w w.heap.size 3 v l.length (e3s l) ∧ (∀ p ∈ l, byte p.1 ∧ byte p.2.1 ∧ byte p.2.2) ∧ l.length ≤ maxLen := by
 obtain ⟨l, h1, h3, h2⟩ := QFN (α := V3) (s := 3) (f := e3C) (Good := fun p => byte p.1 ∧ byte p.2.1 ∧ byte p.2.2) (fun _ => rfl) (by omega) Try.underlying96 QL1 (fun _ cs _ hl ht => QI9 ht) h
 exact ⟨l, h1, h3, h2⟩
theorem QMM {fuel : Nat} {v : Value} {x : DataW H × List MemPlace} (h : DataW.trod enc Try.prog w base spare held fuel 95 [v] = some x) : ∃ l : List V4, Rd w w.heap.size 4 v l.length (e4s l) ∧ (∀ p ∈ l, byte p.1 ∧ byte p.2.1 ∧ byte p.2.2.1 ∧ byte p.2.2.2) ∧ l.length ≤ maxLen := by
 obtain ⟨l, h1, h3, h2⟩ := QFN (α := V4) (s := 4) (f := e4C) (Good := fun p => byte p.1 ∧ byte p.2.1 ∧ byte p.2.2.1 ∧ byte p.2.2.2) (fun _ => rfl) (by omega) Try.underlying95 QKK (fun _ cs _ hl ht => QLM ht) h
 exact ⟨l, h1, h3, h2⟩
theorem QGg : ∀ l : List Int, l.flatMap (fun x => [Value.int .u8 x]) = u8s l
 | [] => rfl
 | x :: l => by
  have := QGg l
  simp only [u8s, List.flatMap_cons, List.map_cons, List.singleton_append] at this ⊢
  rw [this]
theorem rd_u8s {fuel : Nat} {v : Value} {x : DataW H × List MemPlace} (h : DataW.trod enc Try.prog w base spare held fuel 99 [v] = some x) : ∃ l : List Int, Rd w w.heap.size 1 v l.length (u8s l) ∧ (∀ p ∈ l, byte p) ∧ l.length ≤ maxLen := by
 obtain ⟨l, h1, h3, h2⟩ := QFN (α := Int) (s := 1) (f := fun x => [Value.int .u8 x]) (Good := byte) (fun _ => rfl) (by omega) Try.underlying99 co_5 (fun _ cs _ hl ht => by
  match cs, hl with
  | [u], _ =>
   obtain ⟨z, hz, wf⟩ := QFt ht;subst hz
   exact ⟨z, rfl, wf⟩) h
 rw [QGg] at h1
 exact ⟨l, h1, h3, h2⟩
set_option maxRecDepth 100000 in
theorem chn_of {v : Value} {d : DataW H} {p : List MemPlace} (h : DataW.Trod enc Try.prog w base spare held 98 v d p) : ∃ (x : Chn) (Ar : Option Addr) (cr : Nat) (Al : Option Addr) (cl : Nat), v = .agg #[.slice Ar x.rs.length cr, .slice Al x.ls.length cl, .int .u8 x.dy] ∧ ChnOk x ∧ Rd w w.heap.size 4 (.slice Ar x.rs.length cr) x.rs.length (e4s x.rs) ∧ Rd w w.heap.size 3 (.slice Al x.ls.length cl) x.ls.length (e3s x.ls) := by
 obtain ⟨fuel, hf⟩ := h;have hlen := QFs hf;obtain ⟨ys, n, _, _, _, hyl, hF⟩ := DataW.trod_struct Try.underlying98 hf
 generalize hcs : v.cells.toList = cs at hF hlen
 have hy : ∀ j, j < 3 → ys[j]? = some (ys.getD j (.nil, [])) := fun j hj => by
  have : j < ys.length := by rw [hyl]; exact hj
  simp [this]
 have q0 : DataW.trod enc Try.prog w base spare held n 95 ((cs.drop 0).take 1) = ys[0]? := QHF hF (j := 0) rfl rfl rfl QNF;have q1 : DataW.trod enc Try.prog w base spare held n 96 ((cs.drop 1).take 1) = ys[1]? := QHF hF (j := 1) rfl rfl rfl QNE;have q2 : DataW.trod enc Try.prog w base spare held n 5 ((cs.drop 2).take 1) = ys[2]? := QHF hF (j := 2) rfl rfl rfl co_5;rw [hy _ (by omega)] at q0 q1 q2
 match cs, hlen with
 | [c0, c1, c2], _ =>
  obtain ⟨rl, r1, r2, _⟩ := QMM (v := c0) q0;obtain ⟨ll, l1, l2, _⟩ := QMN (v := c1) q1;obtain ⟨z, hz, hb⟩ := QFt (u := c2) q2;obtain ⟨Ar, cr, rfl, _⟩ := r1.shape;obtain ⟨Al, cl, rfl, _⟩ := l1.shape;subst hz;refine ⟨⟨rl, ll, z⟩, Ar, cr, Al, cl, ?_, ⟨r2, l2, hb⟩, r1, l1⟩
  cases v with
  | agg ar =>
   have : ar = [Value.slice Ar rl.length cr, .slice Al ll.length cl, .int .u8 z].toArray := by
    rw [← hcs]
    simp [Value.cells]
   rw [this]
  | _ =>
   exfalso
   simp [Value.cells] at hcs
end
end Go.Proofs.Ytlbfnimilcnihaa
namespace Go.Proofs.Ytlbfnimilcnihaa
open Go Go.RowKit
section
variable {n : Nat} {σ : Sg} {w : World} {dst : Option Tmp} {ty : TypeId} {pos : String} {af : Array Edge} {g : Option (Nat × Bool)} {x y z : Operand} {at' : Array TypeId}
theorem QIk {x0 : Operand} {v0 : Value} (h0 : evS σ x0 = some v0) : ZI Try.prog n σ w ⟨dst, .makeFunc (.func 59) #[] #[x0], ty, pos, af, g⟩ (.func (.func 59) #[] #[v0]) := fun a ha => by
 simp only [execOp, List.map_toArray, List.map_cons, List.map_nil, ha.eval h0]
 simp [go_sem]
theorem QB2 {b o : Nat} {v0 v1 v2 v3 v4 v5 : Value} (hx : evS σ x = some (.pointer (some ⟨b, o, none⟩))) (c0 : w.cell? ⟨b, o, none⟩ = some v0) (c1 : w.cell? ⟨b, o + 1, none⟩ = some v1) (c2 : w.cell? ⟨b, o + 2, none⟩ = some v2) (c3 : w.cell? ⟨b, o + 3, none⟩ = some v3) (c4 : w.cell? ⟨b, o + 4, none⟩ = some v4) (c5 : w.cell? ⟨b, o + 5, none⟩ = some v5) : ZI Try.prog n σ w ⟨dst, .load 23 x, ty, pos, af, g⟩ (.agg #[v0, v1, v2, v3, v4, v5]) := fun a ha => by
 simp only [execOp, ha.eval hx]
 simp [go_sem, c0, c1, c2, c3, c4, c5]
theorem cA1 {F : FuncId} (hF : cF F) {x0 : Operand} {v0 : Value} (h0 : evS σ x0 = some v0) (a : Act) (ha : Env n σ a) : (execOp a.eval ⟨dst, .call { callee := .value (.func F), args := #[x0], argTypes := at' }, ty, pos, af, g⟩).run Try.prog w = .ok (.enter F #[v0]) w := by
 simp only [execOp, resolve, List.map_toArray, List.map_cons, List.map_nil, ha.eval h0]
 simp [go_sem, Act.eval, hF _ _]
theorem cF15 : cF 15 := fun _ _ => by simp [go_sem]
theorem cF60 : cF 60 := fun _ _ => by simp [go_sem]
theorem cF67 : cF 67 := fun _ _ => by simp [go_sem]
theorem cF70 : cF 70 := fun _ _ => by simp [go_sem]
end
theorem QAk (b : Bool) (w : World) : Calls Try.prog 56 #[.bool b] w fun e w' => e = .returned (.int .i64 (if b = true then 1 else 0)) ∧ Below w.heap.size w w' := by
 have hbw := Below.refl w.heap.size w;refine EC.enter 4 Try.func56 rfl rfl rfl (EC.seq (EC.region (EL.as rfl rfl (EL.nil (EX.seq (EC.seq (EC.seq (EC.region (EL.mv rfl rfl ?_)))))))));refine EL.nil (EX.seq ?_)
 cases b
 ·
  refine EC.no rfl (EC.skip (EX.seq (EC.seq (EC.region (EL.as rfl rfl (EL.nil (EX.seq (EC.ret ?_))))))))
  exact EX.done (res1 rfl rfl) ⟨rfl, hbw⟩
 ·
  refine EC.yes rfl (EC.seq (EC.region (EL.as rfl rfl (EL.nil (EX.seq (EC.ret (EX.seq_ret ?_)))))))
  exact EX.done (res1 rfl rfl) ⟨rfl, hbw⟩
theorem QGv {l : LK} {b : Bool} (h : lkB l = b) (w : World) : Calls Try.prog 15 #[.agg #[.int .i64 l.length, .int .i64 l.cycle, .int .i64 l.turn, .int .i64 l.fill, .int .i64 l.save, .bool l.high]] w fun e w' => e = .returned (.int .i64 (if b = true then 0 else 2)) ∧ Below w.heap.size w w' := h ▸ QI1 l w
theorem QJv {l : LK} (h : lkB l = true) : 1 ≤ l.length ∧ l.length ≤ 500 := by
 unfold lkB at h
 simp only [Bool.and_eq_true, Zy] at h
 exact h.1
theorem Yz {α : Type} (l : List α) (p : α → Bool) : l.all p = !(l.any fun x => !p x) := by
 rw [List.all_eq_not_any_not]
theorem QAj {l : LK} {ts : List TW} {v : Value} {w : World} {B : Nat} (hr : Rd w B 5 v ts.length (twsC ts)) (hB : B ≤ w.heap.size) :
  Calls Try.prog 45 #[.agg #[.int .i64 l.length, .int .i64 l.cycle, .int .i64 l.turn, .int .i64 l.fill, .int .i64 l.save, .bool l.high], v] w fun e w' => e = .returned (.int .i64 (towE l ts)) ∧ Below w.heap.size w w' := by
 obtain ⟨At, ct, rfl, _⟩ := hr.shape;have hbw := Below.refl w.heap.size w;refine EC.enter 19 Try.func45 rfl rfl rfl (EC.seq (EC.region (EL.newP (QDN rfl) rfl ?_)));intro g1 w1 q1 hb1 hg1 hl1;have bhbw_1 := Nat.le_trans hbw.size hg1;replace hbw := bo_ hbw hb1;clear hb1 hg1 hl1;refine EL.as rfl rfl (EL.nil (EX.seq (EC.seq (EC.region (EL.val (QIk rfl) rfl (EL.as rfl rfl (EL.nil (EX.seq (EC.seq ?_)))))))));refine EC.block (EC.seq (EC.region (EL.val (QB2 rfl (q1.at (j := 0) rfl) (q1.at (j := 1) rfl) (q1.at (j := 2) rfl) (q1.at (j := 3) rfl) (q1.at (j := 4) rfl) (q1.at (j := 5) rfl)) rfl ?_)))
 cases h0 : lkB l
 ·
  refine EL.call (cA1 cF15 rfl) rfl (QGv h0 _) ?_
  rintro e w2 ⟨rfl, hc2⟩
  refine ⟨_, rfl, ?_⟩;replace q1 := q1.bl hc2;replace hbw := bo_ hbw hc2;clear hc2;refine EL.val (Zn (r := true) rfl rfl (decide_eq_true (by decide))) rfl ?_
  refine EL.as rfl rfl (EL.nil (EX.seq (EC.yes rfl (EC.seq (EC.region (EL.as rfl rfl (EL.nil (EX.seq (EC.ret ?_)))))))));refine EX.blk_ret (EX.seq_ret ?_)
  exact EX.done (res1 rfl rfl) ⟨by congr 2; simp [towE, Yz, *], hbw⟩
 ·
  refine EL.call (cA1 cF15 rfl) rfl (QGv h0 _) ?_
  rintro e w3 ⟨rfl, hc3⟩
  refine ⟨_, rfl, ?_⟩;replace q1 := q1.bl hc3;replace hbw := bo_ hbw hc3;clear hc3;refine EL.val (Zn (r := false) rfl rfl (decide_eq_false (by decide))) rfl ?_
  refine EL.as rfl rfl (EL.nil (EX.seq (EC.no rfl (EC.seq (EC.region (EL.mv rfl rfl (EL.val (Yg rfl) rfl ?_)))))))
  by_cases h1 : 8 < ts.length
  ·
   refine EL.val (Zw (r := true) rfl rfl (decide_eq_true (by omega))) rfl ?_
   refine EL.as rfl rfl (EL.nil (EX.seq (EC.yes rfl (EC.seq (EC.region (EL.as rfl rfl (EL.nil (EX.seq (EC.ret ?_)))))))));refine EX.blk_ret (EX.seq_ret ?_)
   exact EX.done (res1 rfl rfl) ⟨by congr 2; simp [towE, Yz, *], hbw⟩
  ·
   refine EL.val (Zw (r := false) rfl rfl (decide_eq_false (by omega))) rfl ?_
   refine EL.as rfl rfl (EL.nil (EX.seq (EC.no rfl (EC.seq (EC.region (EL.mv rfl rfl (EL.mv rfl rfl ?_)))))))
   cases h2 : ts.any fun x => !twB l x
   ·
    refine EL.call (cA2 cF60 rfl rfl) rfl (by have k := (QDJ ts (fun x => !twB l x) _ _ _ B (hr.below (hbw.mono hB)) (Nat.le_trans hB hbw.size) (by omega) (fun x _ W hb => QEm l x _ W (ZC hb (q1.at (j := 0) rfl)) (QJv h0))); rw [h2] at k; exact k) ?_
    rintro e w4 ⟨rfl, hc4⟩
    refine ⟨_, rfl, ?_⟩;replace q1 := q1.bl hc4;replace hbw := bo_ hbw hc4;clear hc4;refine EL.as rfl rfl (EL.nil (EX.seq (EC.no rfl (EC.skip (EX.blk (EX.seq (EC.seq (EC.region (EL.as rfl rfl ?_)))))))));refine EL.nil (EX.seq (EC.ret ?_))
    exact EX.done (res1 rfl rfl) ⟨by congr 2; simp [towE, Yz, *], hbw⟩
   ·
    refine EL.call (cA2 cF60 rfl rfl) rfl (by have k := (QDJ ts (fun x => !twB l x) _ _ _ B (hr.below (hbw.mono hB)) (Nat.le_trans hB hbw.size) (by omega) (fun x _ W hb => QEm l x _ W (ZC hb (q1.at (j := 0) rfl)) (QJv h0))); rw [h2] at k; exact k) ?_
    rintro e w5 ⟨rfl, hc5⟩
    refine ⟨_, rfl, ?_⟩;replace q1 := q1.bl hc5;replace hbw := bo_ hbw hc5;clear hc5;refine EL.as rfl rfl (EL.nil (EX.seq (EC.yes rfl (EC.seq (EC.region (EL.as rfl rfl (EL.nil (EX.seq (EC.ret ?_)))))))));refine EX.blk_ret (EX.seq_ret ?_)
    exact EX.done (res1 rfl rfl) ⟨by congr 2; simp [towE, Yz, *], hbw⟩
theorem QEM {x : List LR} {y : List LT} {vx vy : Value} {days : Int} {w : World} {B : Nat} (hx : Rd w B 4 vx x.length (lrsC x)) (hy : Rd w B 3 vy y.length (ltsC y)) (hB : B ≤ w.heap.size) (hyn : y.length ≤ 9223372036854775806) :
  Calls Try.prog 48 #[vx, vy, .int .i64 days] w fun e w' => e = .returned (.int .i64 (chE x y days)) ∧ Below w.heap.size w w' := by
 obtain ⟨Ax, cx, rfl, _⟩ := hx.shape;obtain ⟨Ay, cy, rfl, _⟩ := hy.shape;have hbw := Below.refl w.heap.size w;refine EC.enter 32 Try.func48 rfl rfl rfl (EC.seq (EC.region (EL.as rfl rfl (EL.nil (EX.seq (EC.seq (EC.block (EC.seq (EC.region ?_)))))))));refine EL.mv rfl rfl (EL.val (QAB rfl) rfl ?_)
 by_cases h1 : 10 < x.length
 ·
  refine EL.val (Zw (r := true) rfl rfl (decide_eq_true (by omega))) rfl ?_
  refine EL.as rfl rfl (EL.nil (EX.seq (EC.yes rfl (EC.seq (EC.region (EL.as rfl rfl (EL.nil (EX.seq (EC.ret ?_)))))))));refine EX.blk_ret (EX.seq_ret ?_)
  exact EX.done (res1 rfl rfl) ⟨by congr 2; simp [chE, Yz, *], hbw⟩
 ·
  refine EL.val (Zw (r := false) rfl rfl (decide_eq_false (by omega))) rfl ?_
  refine EL.as rfl rfl (EL.nil (EX.seq (EC.no rfl (EC.seq (EC.seq (EC.region (EL.mv rfl rfl (EL.val (QAB rfl) rfl ?_))))))))
  by_cases h2 : x.length = 0
  ·
   refine EL.val (Zx (r := true) rfl rfl (decide_eq_true (by omega))) rfl ?_
   refine EL.as rfl rfl (EL.nil (EX.seq (EC.yes rfl (EC.skip (EX.seq (EC.yes rfl (EC.seq (EC.region (EL.as rfl rfl ?_)))))))));refine EL.nil (EX.seq (EC.ret (EX.blk_ret (EX.seq_ret ?_))))
   exact EX.done (res1 rfl rfl) ⟨by congr 2; simp [chE, Yz, *], hbw⟩
  ·
   refine EL.val (Zx (r := false) rfl rfl (decide_eq_false (by omega))) rfl ?_
   refine EL.as rfl rfl (EL.nil (EX.seq (EC.no rfl (EC.region (EL.mv rfl rfl (EL.val (QGa rfl) rfl ?_))))));refine EL.val (x_add rfl rfl (c := ((y.length + 1 : Nat) : Int)) ((IntWalk.i64_in _ ⟨by omega, by omega⟩).trans (by omega))) rfl ?_
   refine EL.mv rfl rfl (EL.val (QAB rfl) rfl ?_)
   by_cases h3 : y.length + 1 = x.length
   ·
    refine EL.val (Zn (r := false) rfl rfl (decide_eq_false (by omega))) rfl ?_
    refine EL.as rfl rfl (EL.nil (EX.seq (EC.no rfl (EC.seq (EC.region (EL.mv rfl rfl ?_))))))
    cases h4 : x.any fun x => !lrB x
    ·
     refine EL.call (cA2 cF67 rfl rfl) rfl (by have k := QDL x (fun x => !lrB x) _ _ B (hx.below (hbw.mono hB)) (Nat.le_trans hB hbw.size) (by omega) (fun x _ W hb => QEO x W); rw [h4] at k; exact k) ?_
     rintro e w1 ⟨rfl, hc1⟩
     refine ⟨_, rfl, ?_⟩;replace hbw := bo_ hbw hc1;clear hc1;refine EL.as rfl rfl (EL.nil (EX.seq (EC.no rfl (EC.seq (EC.region (EL.mv rfl rfl ?_))))))
     cases h5 : y.any fun x => !ltB x
     ·
      refine EL.call (cA2 cF70 rfl rfl) rfl (by have k := QDK y (fun x => !ltB x) _ _ B (hy.below (hbw.mono hB)) (Nat.le_trans hB hbw.size) (by omega) (fun x _ W hb => QEN x W); rw [h5] at k; exact k) ?_
      rintro e w2 ⟨rfl, hc2⟩
      refine ⟨_, rfl, ?_⟩;replace hbw := bo_ hbw hc2;clear hc2;refine EL.as rfl rfl (EL.nil (EX.seq (EC.no rfl (EC.seq (EC.region (EL.mv rfl rfl (EL.newS (YF rfl) rfl ?_)))))));intro g3 w3 q3 hb3 hg3 hl3;have bhbw_3 := Nat.le_trans hbw.size hg3;replace hbw := bo_ hbw hb3;clear hb3 hg3 hl3
      cases h6 : inB 0 60 days
      ·
       refine EL.call (cA3 cF39 rfl rfl rfl) rfl (Za q3 h6) ?_
       rintro e w4 ⟨rfl, hc4⟩
       refine ⟨_, rfl, ?_⟩;replace q3 := q3.bl hc4;replace hbw := bo_ hbw hc4;clear hc4;refine EL.val (ZX rfl) rfl (EL.as rfl rfl (EL.nil (EX.seq (EC.yes rfl (EC.seq (EC.region (EL.as rfl rfl (EL.nil (EX.seq ?_)))))))));refine EC.ret (EX.blk_ret (EX.seq_ret ?_))
       exact EX.done (res1 rfl rfl) ⟨by congr 2; simp [chE, Yz, *], hbw⟩
      ·
       refine EL.call (cA3 cF39 rfl rfl rfl) rfl (Za q3 h6) ?_
       rintro e w5 ⟨rfl, hc5⟩
       refine ⟨_, rfl, ?_⟩;replace q3 := q3.bl hc5;replace hbw := bo_ hbw hc5;clear hc5;refine EL.val (ZX rfl) rfl (EL.as rfl rfl (EL.nil (EX.seq (EC.no rfl (EC.skip (EX.blk (EX.seq (EC.seq (EC.region ?_)))))))));refine EL.as rfl rfl (EL.nil (EX.seq (EC.ret ?_)))
       exact EX.done (res1 rfl rfl) ⟨by congr 2; simp [chE, Yz, *], hbw⟩
     ·
      refine EL.call (cA2 cF70 rfl rfl) rfl (by have k := QDK y (fun x => !ltB x) _ _ B (hy.below (hbw.mono hB)) (Nat.le_trans hB hbw.size) (by omega) (fun x _ W hb => QEN x W); rw [h5] at k; exact k) ?_
      rintro e w6 ⟨rfl, hc6⟩
      refine ⟨_, rfl, ?_⟩;replace hbw := bo_ hbw hc6;clear hc6;refine EL.as rfl rfl (EL.nil (EX.seq (EC.yes rfl (EC.seq (EC.region (EL.as rfl rfl (EL.nil (EX.seq (EC.ret ?_)))))))));refine EX.blk_ret (EX.seq_ret ?_)
      exact EX.done (res1 rfl rfl) ⟨by congr 2; simp [chE, Yz, *], hbw⟩
    ·
     refine EL.call (cA2 cF67 rfl rfl) rfl (by have k := QDL x (fun x => !lrB x) _ _ B (hx.below (hbw.mono hB)) (Nat.le_trans hB hbw.size) (by omega) (fun x _ W hb => QEO x W); rw [h4] at k; exact k) ?_
     rintro e w7 ⟨rfl, hc7⟩
     refine ⟨_, rfl, ?_⟩;replace hbw := bo_ hbw hc7;clear hc7;refine EL.as rfl rfl (EL.nil (EX.seq (EC.yes rfl (EC.seq (EC.region (EL.as rfl rfl (EL.nil (EX.seq (EC.ret ?_)))))))));refine EX.blk_ret (EX.seq_ret ?_)
     exact EX.done (res1 rfl rfl) ⟨by congr 2; simp [chE, Yz, *], hbw⟩
   ·
    refine EL.val (Zn (r := true) rfl rfl (decide_eq_true (by omega))) rfl ?_
    refine EL.as rfl rfl (EL.nil (EX.seq (EC.yes rfl (EC.seq (EC.region (EL.as rfl rfl (EL.nil (EX.seq (EC.ret ?_)))))))));refine EX.blk_ret (EX.seq_ret ?_)
    exact EX.done (res1 rfl rfl) ⟨by congr 2; simp [chE, Yz, *], hbw⟩
section
variable {n : Nat} {σ : Sg} {w : World} {dst : Option Tmp} {ty : TypeId} {pos : String} {af : Array Edge} {g : Option (Nat × Bool)} {x y z : Operand} {at' : Array TypeId}
theorem ZW {b o : Nat} (hx : evS σ x = some (.pointer (some ⟨b, o, none⟩))) : ZI Try.prog n σ w ⟨dst, .fieldAddr 111 x 1, ty, pos, af, g⟩ (.pointer (some ⟨b, o + 6, none⟩)) := fun a ha => by
 simp only [execOp, ha.eval hx]
 simp [go_sem]
theorem QBa {b o : Nat} (hx : evS σ x = some (.pointer (some ⟨b, o, none⟩))) : ZI Try.prog n σ w ⟨dst, .fieldAddr 109 x 1, ty, pos, af, g⟩ (.pointer (some ⟨b, o + 4, none⟩)) := fun a ha => by
 simp only [execOp, ha.eval hx]
 simp [go_sem]
theorem sz_3 : (Try.prog.info? 3).map (·.size) = some 1 := by kernel_rfl
theorem ZV {b o : Nat} (hx : evS σ x = some (.pointer (some ⟨b, o, none⟩))) : ZI Try.prog n σ w ⟨dst, .fieldAddr 111 x 0, ty, pos, af, g⟩ (.pointer (some ⟨b, o, none⟩)) := fun a ha => by
 simp only [execOp, ha.eval hx]
 simp [go_sem]
theorem QA8 {b o : Nat} (hx : evS σ x = some (.pointer (some ⟨b, o, none⟩))) : ZI Try.prog n σ w ⟨dst, .fieldAddr 23 x 5, ty, pos, af, g⟩ (.pointer (some ⟨b, o + 5, none⟩)) := fun a ha => by
 simp only [execOp, ha.eval hx]
 simp [go_sem]
theorem ld_4 {b o : Nat} {v0 : Value} (hx : evS σ x = some (.pointer (some ⟨b, o, none⟩))) (c0 : w.cell? ⟨b, o, none⟩ = some v0) : ZI Try.prog n σ w ⟨dst, .load 4 x, ty, pos, af, g⟩ (v0) := fun a ha => by
 simp only [execOp, ha.eval hx]
 simp [go_sem, c0]
theorem Zf {b o : Nat} (hx : evS σ x = some (.pointer (some ⟨b, o, none⟩))) : ZI Try.prog n σ w ⟨dst, .fieldAddr 109 x 0, ty, pos, af, g⟩ (.pointer (some ⟨b, o, none⟩)) := fun a ha => by
 simp only [execOp, ha.eval hx]
 simp [go_sem]
theorem Y8 {b o : Nat} (hx : evS σ x = some (.pointer (some ⟨b, o, none⟩))) : ZI Try.prog n σ w ⟨dst, .fieldAddr 35 x 0, ty, pos, af, g⟩ (.pointer (some ⟨b, o, none⟩)) := fun a ha => by
 simp only [execOp, ha.eval hx]
 simp [go_sem]
theorem QDj {b o : Nat} (hx : evS σ x = some (.pointer (some ⟨b, o, none⟩))) : ZI Try.prog n σ w ⟨dst, .fieldAddr 35 x 3, ty, pos, af, g⟩ (.pointer (some ⟨b, o + 3, none⟩)) := fun a ha => by
 simp only [execOp, ha.eval hx]
 simp [go_sem]
theorem QDk {b o : Nat} (hx : evS σ x = some (.pointer (some ⟨b, o, none⟩))) : ZI Try.prog n σ w ⟨dst, .fieldAddr 35 x 2, ty, pos, af, g⟩ (.pointer (some ⟨b, o + 2, none⟩)) := fun a ha => by
 simp only [execOp, ha.eval hx]
 simp [go_sem]
theorem sz_4 : (Try.prog.info? 4).map (·.size) = some 1 := by kernel_rfl
theorem QBt {b o : Nat} (hx : evS σ x = some (.pointer (some ⟨b, o, none⟩))) : ZI Try.prog n σ w ⟨dst, .fieldAddr 35 x 1, ty, pos, af, g⟩ (.pointer (some ⟨b, o + 1, none⟩)) := fun a ha => by
 simp only [execOp, ha.eval hx]
 simp [go_sem]
end
end Go.Proofs.Ytlbfnimilcnihaa
