/- LkTake, ExX3, X3, E7, E20, E22, ExX4, X4, LkCmp, ExX5, X5, LkQueue, LkOrd, E8, E9, E10, E11: what LockThriftsProof needs of them (merged by trimpack.py). -/
import Derived.Test.YtlbfnimilcnihaaThriftsT1
set_option linter.unusedVariables false
set_option linter.unusedSimpArgs false
namespace Go.Proofs.Ytlbfnimilcnihaa
open Go Go.RowKit
/-- how far a plan was carried out: the lock (high: its level now), the water, the movements, when it is free, how many tows of each direction were taken, the cost -/
structure ST where
 lk : LK
 up : Int
 lo : Int
 ch : Int
 ba : Int
 mv : Int
 fr : Int
 t0 : Nat
 t1 : Nat
 cost : Int
def lk0 : LK := ⟨0, 0, 0, 0, 0, false⟩
def st0 : ST := ⟨lk0, 0, 0, 0, 0, 0, 0, 0, 0, 0⟩
def lkC (l : LK) : List Value := [.int .i64 l.length, .int .i64 l.cycle, .int .i64 l.turn, .int .i64 l.fill, .int .i64 l.save, .bool l.high]
def stC (s : ST) : List Value := [.int .i64 s.lk.length, .int .i64 s.lk.cycle, .int .i64 s.lk.turn, .int .i64 s.lk.fill, .int .i64 s.lk.save, .bool s.lk.high, .int .i64 s.up, .int .i64 s.lo, .int .i64 s.ch, .int .i64 s.ba, .int .i64 s.mv, .int .i64 s.fr, .int .i64 (s.t0 : Nat), .int .i64 (s.t1 : Nat), .int .i64 s.cost]
abbrev stB (s : ST) : Array Value := #[.int .i64 s.lk.length, .int .i64 s.lk.cycle, .int .i64 s.lk.turn, .int .i64 s.lk.fill, .int .i64 s.lk.save, .bool s.lk.high, .int .i64 s.up, .int .i64 s.lo, .int .i64 s.ch, .int .i64 s.ba, .int .i64 s.mv, .int .i64 s.fr, .int .i64 (s.t0 : Nat), .int .i64 (s.t1 : Nat), .int .i64 s.cost]
abbrev stA (s : ST) : Value := .agg (stB s)
def lkW (l : LK) (h : Bool) : LK := ⟨l.length, l.cycle, l.turn, l.fill, l.save, h⟩
def QAn (l : LK) : Int := (l.fill * l.save).tdiv 100
theorem Y_ {l : LK} (h : lkB l = true) : (1 ≤ l.length ∧ l.length ≤ 500) ∧ (1 ≤ l.cycle ∧ l.cycle ≤ 500) ∧ (0 ≤ l.turn ∧ l.turn ≤ 500) ∧ (0 ≤ l.fill ∧ l.fill ≤ 1000000) ∧ (0 ≤ l.save ∧ l.save ≤ 90) := by
 unfold lkB at h
 simp only [Bool.and_eq_true, Yk] at h
 exact h
theorem QC3 {l : LK} (h : lkB l = true) : 0 ≤ l.fill * l.save ∧ l.fill * l.save ≤ 90000000 := by
 obtain ⟨_, _, _, h4, h5⟩ := Y_ h;have e1 : 0 ≤ l.fill * l.save := Int.mul_nonneg h4.1 h5.1;have e2 : l.fill * l.save ≤ 1000000 * 90 := Int.mul_le_mul h4.2 h5.2 h5.1 (by omega)
 exact ⟨e1, e2⟩
theorem QC4 {l : LK} (h : lkB l = true) : 0 ≤ QAn l ∧ QAn l ≤ l.fill := by
 obtain ⟨_, _, _, h4, h5⟩ := Y_ h;obtain ⟨e1, e2⟩ := QC3 h;have e3 : l.fill * l.save ≤ l.fill * 100 := Int.mul_le_mul_of_nonneg_left (by omega) h4.1
 unfold QAn
 rw [Int.tdiv_eq_ediv_of_nonneg e1]
 omega
/-- the chamber is moved to the other level -/
def mvS (s : ST) : ST :=
 if s.lk.high = true then ⟨lkW s.lk false, s.up, s.lo + s.lk.fill - QAn s.lk, s.ch - s.lk.fill, s.ba + QAn s.lk, s.mv + 1, s.fr, s.t0, s.t1, s.cost⟩
 else ⟨lkW s.lk true, s.up - s.lk.fill + s.ba, s.lo, s.ch + s.lk.fill, 0, s.mv + 1, s.fr, s.t0, s.t1, s.cost⟩
def mvN : Nat → ST → ST
 | 0, s => s
 | n + 1, s => mvS (mvN n s)
theorem QIk (l : LK) (a b : Bool) : lkW (lkW l a) b = lkW l b := rfl
theorem QKo (l : LK) (a : Bool) : QAn (lkW l a) = QAn l := rfl
/-- the numbers of a state lie within a bound; the basins hold nothing when the chamber is full -/
structure WtB (K : Int) (s : ST) : Prop where
 up : -K ≤ s.up ∧ s.up ≤ K
 lo : -K ≤ s.lo ∧ s.lo ≤ K
 ch : -K ≤ s.ch ∧ s.ch ≤ K
 mv : 0 ≤ s.mv ∧ s.mv ≤ K
 ba : 0 ≤ s.ba ∧ s.ba ≤ QAn s.lk
 hb : s.lk.high = true → s.ba = 0
theorem WtB.mono {K M : Int} {s : ST} (h : WtB K s) (hk : K ≤ M) : WtB M s := ⟨by have := h.up; omega, by have := h.lo; omega, by have := h.ch; omega, by have := h.mv; omega, h.ba, h.hb⟩
theorem QCV (s : ST) : (mvS s).lk = lkW s.lk (!s.lk.high) := by
 unfold mvS
 split
 ·rename_i h; rw [h]; rfl
 ·rename_i h; rw [Bool.not_eq_true] at h; rw [h]; rfl
theorem QG2 {K : Int} {s : ST} (h : WtB K s) (hl : lkB s.lk = true) : WtB (K + 1000000) (mvS s) := by
 obtain ⟨u, l, c, m, b, hb⟩ := h;obtain ⟨_, _, _, h4, h5⟩ := Y_ hl;have k := QC4 hl
 unfold mvS
 split
 ·rename_i hh
  have := hb hh
  exact ⟨by simp only; omega, by simp only; omega, by simp only; omega, by simp only; omega, by simp only [QKo]; omega, fun h => by cases h⟩
 ·rename_i hh
  exact ⟨by simp only; omega, by simp only; omega, by simp only; omega, by simp only; omega, by simp only [QKo]; omega, fun _ => rfl⟩
theorem QAl (s : ST) : (mvS s).fr = s.fr ∧ (mvS s).t0 = s.t0 ∧ (mvS s).t1 = s.t1 ∧ (mvS s).cost = s.cost := by
 unfold mvS
 split <;> exact ⟨rfl, rfl, rfl, rfl⟩
theorem QEg (n : Nat) (s : ST) : ∃ h, (mvN n s).lk = lkW s.lk h := by
 induction n with
 | zero => exact ⟨s.lk.high, rfl⟩
 | succ n ih =>
  obtain ⟨h, e⟩ := ih
  exact ⟨!(mvN n s).lk.high, by rw [mvN, QCV, e]; rfl⟩
theorem QCw (n : Nat) (s : ST) : (mvN n s).fr = s.fr ∧ (mvN n s).t0 = s.t0 ∧ (mvN n s).t1 = s.t1 ∧ (mvN n s).cost = s.cost := by
 induction n with
 | zero => exact ⟨rfl, rfl, rfl, rfl⟩
 | succ n ih =>
  obtain ⟨a, b, c, d⟩ := QAl (mvN n s);obtain ⟨a2, b2, c2, d2⟩ := ih
  exact ⟨a.trans a2, b.trans b2, c.trans c2, d.trans d2⟩
theorem QF8 {n : Nat} {s : ST} (hl : lkB s.lk = true) : lkB (mvN n s).lk = true := by
 obtain ⟨h, e⟩ := QEg n s;rw [e]
 exact hl
theorem QEh {K : Int} {s : ST} (h : WtB K s) (hl : lkB s.lk = true) (n : Nat) : WtB (K + 1000000 * n) (mvN n s) := by
 induction n with
 | zero => exact h.mono (by omega)
 | succ n ih => exact (QG2 ih (QF8 hl)).mono (by omega)
/-! ### Sums over tows -/
def sumF (f : TW → Int) (l : List TW) : Int := (l.map f).sum
theorem Zz {α : Type} {l : List α} {d : α} {k : Nat} (hk : k < l.length) : l.take (k + 1) = l.take k ++ [l.getD k d] := by
 rw [Zj hk]
 exact List.take_succ_eq_append_getElem hk
theorem QFP (f : TW → Int) (l : List TW) (x : TW) : sumF f (l ++ [x]) = sumF f l + f x := by simp [sumF]
theorem QFO {f : TW → Int} {l : List TW} {k : Nat} (hk : k < l.length) : sumF f (l.take (k + 1)) = sumF f (l.take k) + f (l.getD k tw0) := by rw [Zz hk, QFP]
theorem QB8 {f : TW → Int} {a b : Int} : ∀ {l : List TW}, (∀ x ∈ l, a ≤ f x ∧ f x ≤ b) → a * l.length ≤ sumF f l ∧ sumF f l ≤ b * l.length
 | [], _ => by simp [sumF]
 | x :: l, h => by
  obtain ⟨h1, h2⟩ := h x (List.mem_cons_self ..);obtain ⟨h3, h4⟩ := QB8 (l := l) fun y hy => h y (List.mem_cons_of_mem _ hy)
  have e : sumF f (x :: l) = f x + sumF f l := by simp [sumF]
  rw [e];have e1 : a * ((x :: l).length : Nat) = a * (l.length : Nat) + a := by rw [List.length_cons, Int.natCast_add, Int.mul_add]; simp
  have e2 : b * ((x :: l).length : Nat) = b * (l.length : Nat) + b := by rw [List.length_cons, Int.natCast_add, Int.mul_add]; simp
  rw [e1, e2]
  omega
def arrT (l : List TW) : Int := l.foldl (fun a t => max a t.arrive) 0
theorem QJj (l : List TW) (x : TW) : arrT (l ++ [x]) = max (arrT l) x.arrive := by simp [arrT]
theorem QFn {l : List TW} {k : Nat} (hk : k < l.length) : arrT (l.take (k + 1)) = max (arrT (l.take k)) (l.getD k tw0).arrive := by rw [Zz hk, QJj]
theorem QE4 {b : Int} : ∀ {l : List TW} {a : Int}, a ≤ b → (∀ x ∈ l, x.arrive ≤ b) → a ≤ l.foldl (fun a t => max a t.arrive) a ∧ l.foldl (fun a t => max a t.arrive) a ≤ b
 | [], a, h, _ => ⟨Int.le_refl _, h⟩
 | x :: l, a, h, hl => by
  have := QE4 (l := l) (a := max a x.arrive) (b := b) (by have := hl x (List.mem_cons_self ..); omega) fun y hy => hl y (List.mem_cons_of_mem _ hy)
  rw [List.foldl_cons]
  omega
theorem QI6 {l : List TW} {b : Int} (h0 : 0 ≤ b) (h : ∀ x ∈ l, x.arrive ≤ b) : 0 ≤ arrT l ∧ arrT l ≤ b := QE4 h0 h
theorem QIC : ∀ {l : List TW} {a : Int} {x : TW}, x ∈ l → x.arrive ≤ l.foldl (fun a t => max a t.arrive) a
 | y :: l, a, x, h => by
  rw [List.foldl_cons]
  rcases List.mem_cons.1 h with rfl | h
  ·have hb : ∀ z ∈ l, z.arrive ≤ (l.foldl (fun a t => max a t.arrive) (max a x.arrive)) := fun z hz => QIC hz
   have := (QE4 (l := l) (a := max a x.arrive) (b := max (max a x.arrive) (l.foldl (fun a t => max a t.arrive) (max a x.arrive))) (Int.le_max_left _ _) fun z hz => Int.le_trans (hb z hz) (Int.le_max_right _ _)).1
   omega
  ·exact QIC h
theorem QMc {l : List TW} {x : TW} (h : x ∈ l) : x.arrive ≤ arrT l := QIC h
def ZW (l : List TW) : Int := sumF (·.length) l
def QCp (l : List TW) : Int := sumF (·.push) l
def QDG (e : Int) (l : List TW) : Int := sumF (fun t => t.weight * (e - t.arrive)) l
/-- in how many parts a length is taken -/
def partsN (long L : Int) : Nat := ((long + L - 1) / L).toNat
theorem QCq {long L : Int} (hL : 0 < L) (j : Nat) : ((j : Int) * L < long) ↔ j < partsN long L := by
 unfold partsN
 have e : ((j : Int) + 1 ≤ (long + L - 1) / L) ↔ ((j : Int) + 1) * L ≤ long + L - 1 := Int.le_ediv_iff_mul_le hL;rw [Int.add_mul, Int.one_mul] at e
 constructor
 ·intro h
  have := e.2 (by omega)
  omega
 ·intro h
  have := e.1 (by omega)
  omega
theorem QKN {long L : Int} (hL : 0 < L) {n : Nat} (h : long ≤ n * L) : partsN long L ≤ n := by
 by_cases h2 : n < partsN long L
 ·have := (QCq (long := long) hL n).2 h2
  omega
 ·omega
theorem QDW {long L : Int} (hL : 0 < L) (h : 0 < long) : 0 < partsN long L := (QCq hL 0).1 (by simpa using h)
/-! ### Tows are taken -/
def sgB (u : Bool) : Int := if u = true then 1 else -1
def wyB (u : Bool) : Int := if u = true then 1 else 0
def Ze (s : ST) (u : Bool) : ST := if s.lk.high = u then { mvS s with fr := (mvS s).fr + (mvS s).lk.turn } else s
def runT (s : ST) (ts : List TW) (u : Bool) : RN :=
 let a := max (Ze s u).fr (arrT ts)
 ⟨a, a - s.lk.turn + partsN (ZW ts) s.lk.length * (s.lk.turn + s.lk.cycle)⟩
def fitB (L : Int) (ts : List TW) : Bool := !(decide (1 < ts.length) && decide (L < ZW ts))
/-- the state while the first k tows go out -/
def outS (s : ST) (ts : List TW) (u : Bool) (e : Int) : ST := { s with cost := s.cost + QDG e ts, up := s.up - sgB u * QCp ts, lo := s.lo + sgB u * QCp ts }
def endS (s : ST) (n : Nat) (u : Bool) (e : Int) : ST := { s with fr := e, t0 := if u = true then s.t0 else s.t0 + n, t1 := if u = true then s.t1 + n else s.t1 }
def midS (s : ST) (ts : List TW) (u : Bool) : ST := mvN (2 * partsN (ZW ts) s.lk.length - 1) (Ze s u)
def tkS (s : ST) (ts : List TW) (u : Bool) : ST := endS (outS (midS s ts u) ts u (runT s ts u).stop) ts.length u (runT s ts u).stop
theorem QEc (s : ST) (u : Bool) (e : Int) : outS s [] u e = s := by
 cases s
 simp [outS, QDG, QCp, sumF]
theorem QDX (s : ST) (ts : List TW) (x : TW) (u : Bool) (e : Int) : outS s (ts ++ [x]) u e = { outS s ts u e with cost := (outS s ts u e).cost + x.weight * (e - x.arrive), up := (outS s ts u e).up - x.push * (2 * wyB u - 1), lo := (outS s ts u e).lo + x.push * (2 * wyB u - 1) } := by
 have h : sgB u = 2 * wyB u - 1 := by cases u <;> rfl
 simp only [outS, QDG, QCp, QFP, h, ST.mk.injEq, true_and, and_true, Int.mul_add, Int.mul_comm x.push]
 omega
/-- the bounds of a state that has taken T tows -/
structure StOk (l : LK) (s : ST) : Prop where
 lk : s.lk = lkW l s.lk.high
 ok : lkB l = true
 wt : WtB (10000000 * (s.t0 + s.t1 : Nat)) s
 fr : 0 ≤ s.fr ∧ s.fr ≤ 100000 + 4000 * (s.t0 + s.t1 : Nat)
 cost : 0 ≤ s.cost ∧ s.cost ≤ 14000000 * (s.t0 + s.t1 : Nat)
theorem StOk.okL {l : LK} {s : ST} (h : StOk l s) : lkB s.lk = true := by rw [h.lk]; exact h.ok
theorem QAg {l : LK} {t : TW} (h : twB l t = true) : (0 ≤ t.arrive ∧ t.arrive ≤ 100000) ∧ (1 ≤ t.length ∧ t.length ≤ 3 * l.length) ∧ (0 ≤ t.weight ∧ t.weight ≤ 100) ∧ (0 ≤ t.push ∧ t.push ≤ 100000) := by
 unfold twB at h
 simp only [Bool.and_eq_true, Yk] at h
 exact h
theorem QEH (s : ST) (u : Bool) : (Ze s u).fr = if s.lk.high = u then s.fr + s.lk.turn else s.fr := by
 unfold Ze
 split
 ·show (mvS s).fr + (mvS s).lk.turn = _
  rw [(QAl s).1, QCV]
  rfl
 ·rfl
theorem QBR (s : ST) (u : Bool) : (Ze s u).t0 = s.t0 ∧ (Ze s u).t1 = s.t1 ∧ (Ze s u).cost = s.cost := by
 unfold Ze
 split
 ·exact ⟨(QAl s).2.1, (QAl s).2.2.1, (QAl s).2.2.2⟩
 ·exact ⟨rfl, rfl, rfl⟩
theorem QBF (s : ST) (u : Bool) : (Ze s u).lk = lkW s.lk (!u) := by
 unfold Ze
 split
 ·rename_i h
  show (mvS s).lk = _
  rw [QCV, h]
 ·rename_i h
  rw [show (!u) = s.lk.high by cases u <;> cases hh : s.lk.high <;> simp_all]
  rfl
theorem QDv {K : Int} {s : ST} {u : Bool} (h : WtB K s) (hl : lkB s.lk = true) : WtB (K + 1000000) (Ze s u) := by
 unfold Ze
 split
 ·obtain ⟨a, b, c, d, e, f⟩ := QG2 h hl
  exact ⟨a, b, c, d, e, f⟩
 ·exact h.mono (by omega)
theorem QD3 {l : LK} {ts : List TW} (h : ∀ t ∈ ts, twB l t = true) (hn : ts.length ≤ 8) (hl : lkB l = true) : (ts.length : Int) ≤ ZW ts ∧ ZW ts ≤ 12000 := by
 have := QB8 (f := (·.length)) (l := ts) (a := 1) (b := 1500) fun t ht => by
  have h1 := (QAg (h t ht)).2.1;have h2 := (Y_ hl).1
  omega
 unfold ZW
 omega
theorem QBv {l : LK} {ts : List TW} (h : ∀ t ∈ ts, twB l t = true) (hl : lkB l = true) (hf : fitB l.length ts = true) : partsN (ZW ts) l.length ≤ 3 := by
 have h2 := (Y_ hl).1;refine QKN (by omega) ?_
 unfold fitB at hf
 by_cases h1 : 1 < ts.length
 ·have : ¬l.length < ZW ts := fun h3 => by simp [h1, h3] at hf
  omega
 ·match ts, h1 with
  | [], _ => simp [ZW, sumF]; omega
  | [t], _ =>
   have := (QAg (h t (List.mem_cons_self ..))).2.1
   simp [ZW, sumF]
   omega
  | _ :: _ :: _, h1 => simp at h1
theorem QET {l : LK} {s : ST} {ts : List TW} {u : Bool} (h : StOk l s) (ht : ∀ t ∈ ts, twB l t = true) (hf : fitB l.length ts = true) (h8 : s.t0 + s.t1 + ts.length ≤ 8) :
  (0 ≤ (Ze s u).fr ∧ (Ze s u).fr ≤ 133000) ∧ (0 ≤ arrT ts ∧ arrT ts ≤ 100000) ∧ (0 ≤ (runT s ts u).start ∧ (runT s ts u).start ≤ 100500 + 4000 * (s.t0 + s.t1 : Nat)) ∧ -500 ≤ (runT s ts u).stop ∧ (runT s ts u).stop ≤ 103500 + 4000 * (s.t0 + s.t1 : Nat) ∧ (0 < ts.length → arrT ts + l.cycle ≤ (runT s ts u).stop ∧ s.fr ≤ (runT s ts u).stop) := by
 obtain ⟨e1, e2, e3, e4, e5⟩ := Y_ h.ok;have el : s.lk.length = l.length ∧ s.lk.turn = l.turn ∧ s.lk.cycle = l.cycle := by rw [h.lk]; exact ⟨rfl, rfl, rfl⟩
 have hp := QBv ht h.ok hf;have ha := QI6 (l := ts) (b := 100000) (by omega) fun t hm => (QAg (ht t hm)).1.2
 have hfr := h.fr;have hT := QEH s u;have hlo := QD3 ht (by omega) h.ok
 have hpp : 0 < ts.length → 0 < partsN (ZW ts) l.length := fun h0 => QDW (by omega) (by omega)
 have hm : (partsN (ZW ts) l.length : Int) * (l.turn + l.cycle) ≤ 3 * 1000 := Int.mul_le_mul (by omega) (by omega) (by omega) (by omega)
 have hm0 : 0 ≤ (partsN (ZW ts) l.length : Int) * (l.turn + l.cycle) := Int.mul_nonneg (by omega) (by omega)
 have hm1 : 0 < ts.length → l.turn + l.cycle ≤ (partsN (ZW ts) l.length : Int) * (l.turn + l.cycle) := fun h0 => by
  have := Int.mul_le_mul_of_nonneg_right (a := 1) (b := (partsN (ZW ts) l.length : Int)) (c := l.turn + l.cycle) (by have := hpp h0; omega) (by omega)
  omega
 unfold runT
 simp only [el.1, el.2.1, el.2.2]
 refine ⟨?_, ha, ?_⟩
 ·split at hT <;> omega
 ·split at hT
  ·refine ⟨by omega, by omega, by omega, fun h0 => ?_⟩
   have := hm1 h0
   omega
  ·refine ⟨by omega, by omega, by omega, fun h0 => ?_⟩
   have := hm1 h0
   omega
/-! ### In the walk -/
def stV (s : ST) : Value := .agg (stC s).toArray
def rnV (r : RN) : Value := .agg #[.int .i64 r.start, .int .i64 r.stop]
theorem QIf {s : ST} (h : lkB s.lk = true) : lkB (mvS s).lk = true := by rw [QCV]; exact h
theorem QF2 {l : LK} {ts : List TW} (h : ∀ t ∈ ts, twB l t = true) (h8 : ts.length ≤ 8) (hl : lkB l = true) (k : Nat) : (0 ≤ ZW (ts.take k) ∧ ZW (ts.take k) ≤ 12000) ∧ 0 ≤ arrT (ts.take k) ∧ arrT (ts.take k) ≤ 100000 := by
 have h1 : ∀ t ∈ ts.take k, twB l t = true := fun t ht => h t (List.mem_of_mem_take ht)
 have h2 : (ts.take k).length ≤ 8 := by rw [List.length_take]; omega
 have := QD3 h1 h2 hl;have := QI6 (l := ts.take k) (b := 100000) (by omega) fun t ht => (QAg (h1 t ht)).1.2
 omega
theorem QNC {a d A D : Int} (h0 : 0 ≤ a) (h1 : a ≤ A) (h2 : -D ≤ d) (h3 : d ≤ D) (hD : 0 ≤ D) : -(A * D) ≤ a * d ∧ a * d ≤ A * D := by
 have e1 : a * d ≤ a * D := Int.mul_le_mul_of_nonneg_left h3 h0;have e2 : a * D ≤ A * D := Int.mul_le_mul_of_nonneg_right h1 hD;have e3 : a * (-D) ≤ a * d := Int.mul_le_mul_of_nonneg_left h2 h0;rw [Int.mul_neg] at e3
 omega
theorem QD9 {l : LK} {t : TW} {e : Int} (h : twB l t = true) (he : -500 ≤ e ∧ e ≤ 200000) : -30000000 ≤ t.weight * (e - t.arrive) ∧ t.weight * (e - t.arrive) ≤ 30000000 := by
 obtain ⟨h1, _, h3, _⟩ := QAg h;have := QNC (a := t.weight) (d := e - t.arrive) (A := 100) (D := 300000) h3.1 h3.2 (by omega) (by omega) (by omega)
 omega
theorem QF1 {l : LK} {t : TW} (u : Bool) (h : twB l t = true) : -100000 ≤ t.push * (2 * wyB u - 1) ∧ t.push * (2 * wyB u - 1) ≤ 100000 := by
 obtain ⟨_, _, _, h4⟩ := QAg h
 cases u
 ·simp only [wyB]
  simp only [Bool.false_eq_true, if_false]
  omega
 ·simp only [wyB, if_true]
  omega
theorem QJu (u : Bool) : 0 ≤ wyB u ∧ wyB u ≤ 1 := by cases u <;> decide
theorem QHv {l : LK} {ts : List TW} {M : ST} {K e : Int} (u : Bool) (hM : WtB K M) (h : ∀ t ∈ ts, twB l t = true) (h8 : ts.length ≤ 8) (he : -500 ≤ e ∧ e ≤ 200000) (k : Nat) :
  (-(K + 800000) ≤ (outS M (ts.take k) u e).up ∧ (outS M (ts.take k) u e).up ≤ K + 800000) ∧ (-(K + 800000) ≤ (outS M (ts.take k) u e).lo ∧ (outS M (ts.take k) u e).lo ≤ K + 800000) ∧ M.cost - 240000000 ≤ (outS M (ts.take k) u e).cost ∧ (outS M (ts.take k) u e).cost ≤ M.cost + 240000000 := by
 have h1 : ∀ t ∈ ts.take k, twB l t = true := fun t ht => h t (List.mem_of_mem_take ht)
 have h2 : (ts.take k).length ≤ 8 := by rw [List.length_take]; omega
 have c := QB8 (f := fun t => t.weight * (e - t.arrive)) (l := ts.take k) (a := -30000000) (b := 30000000) fun t ht => QD9 (h1 t ht) he
 have p := QB8 (f := (·.push)) (l := ts.take k) (a := 0) (b := 100000) fun t ht => (QAg (h1 t ht)).2.2.2
 have mu := hM.up;have ml := hM.lo;have hs : sgB u = 1 ∨ sgB u = -1 := by cases u <;> simp [sgB]
 simp only [outS, QDG, QCp]
 rcases hs with hs | hs <;> rw [hs] <;> refine ⟨?_, ?_, ?_⟩ <;> omega
section
variable {n : Nat} {σ : Sg} {w : World} {dst : Option Tmp} {ty : TypeId} {pos : String} {af : Array Edge} {g : Option (Nat × Bool)} {x y z : Operand} {at' : Array TypeId}
theorem Za {b o : Nat} (hx : evS σ x = some (.pointer (some ⟨b, o, none⟩))) : ZJ Try.prog n σ w ⟨dst, .fieldAddr 111 x 1, ty, pos, af, g⟩ (.pointer (some ⟨b, o + 6, none⟩)) := fun a ha => by
 simp only [execOp, ha.eval hx]
 simp [go_sem]
theorem QB0 {b o : Nat} (hx : evS σ x = some (.pointer (some ⟨b, o, none⟩))) : ZJ Try.prog n σ w ⟨dst, .fieldAddr 109 x 1, ty, pos, af, g⟩ (.pointer (some ⟨b, o + 4, none⟩)) := fun a ha => by
 simp only [execOp, ha.eval hx]
 simp [go_sem]
theorem sz_3 : (Try.prog.info? 3).map (·.size) = some 1 := by kernel_rfl
theorem ZY {b o : Nat} (hx : evS σ x = some (.pointer (some ⟨b, o, none⟩))) : ZJ Try.prog n σ w ⟨dst, .fieldAddr 111 x 0, ty, pos, af, g⟩ (.pointer (some ⟨b, o, none⟩)) := fun a ha => by
 simp only [execOp, ha.eval hx]
 simp [go_sem]
theorem QA5 {b o : Nat} (hx : evS σ x = some (.pointer (some ⟨b, o, none⟩))) : ZJ Try.prog n σ w ⟨dst, .fieldAddr 23 x 5, ty, pos, af, g⟩ (.pointer (some ⟨b, o + 5, none⟩)) := fun a ha => by
 simp only [execOp, ha.eval hx]
 simp [go_sem]
theorem ld_4 {b o : Nat} {v0 : Value} (hx : evS σ x = some (.pointer (some ⟨b, o, none⟩))) (c0 : w.cell? ⟨b, o, none⟩ = some v0) : ZJ Try.prog n σ w ⟨dst, .load 4 x, ty, pos, af, g⟩ (v0) := fun a ha => by
 simp only [execOp, ha.eval hx]
 simp [go_sem, c0]
theorem Zi {b o : Nat} (hx : evS σ x = some (.pointer (some ⟨b, o, none⟩))) : ZJ Try.prog n σ w ⟨dst, .fieldAddr 109 x 0, ty, pos, af, g⟩ (.pointer (some ⟨b, o, none⟩)) := fun a ha => by
 simp only [execOp, ha.eval hx]
 simp [go_sem]
theorem YD {b o : Nat} (hx : evS σ x = some (.pointer (some ⟨b, o, none⟩))) : ZJ Try.prog n σ w ⟨dst, .fieldAddr 35 x 0, ty, pos, af, g⟩ (.pointer (some ⟨b, o, none⟩)) := fun a ha => by
 simp only [execOp, ha.eval hx]
 simp [go_sem]
theorem QA3 {b o : Nat} (hx : evS σ x = some (.pointer (some ⟨b, o, none⟩))) : ZJ Try.prog n σ w ⟨dst, .fieldAddr 35 x 3, ty, pos, af, g⟩ (.pointer (some ⟨b, o + 3, none⟩)) := fun a ha => by
 simp only [execOp, ha.eval hx]
 simp [go_sem]
theorem QA4 {b o : Nat} (hx : evS σ x = some (.pointer (some ⟨b, o, none⟩))) : ZJ Try.prog n σ w ⟨dst, .fieldAddr 35 x 2, ty, pos, af, g⟩ (.pointer (some ⟨b, o + 2, none⟩)) := fun a ha => by
 simp only [execOp, ha.eval hx]
 simp [go_sem]
theorem sz_4 : (Try.prog.info? 4).map (·.size) = some 1 := by kernel_rfl
theorem QAI {b o : Nat} (hx : evS σ x = some (.pointer (some ⟨b, o, none⟩))) : ZJ Try.prog n σ w ⟨dst, .fieldAddr 35 x 1, ty, pos, af, g⟩ (.pointer (some ⟨b, o + 1, none⟩)) := fun a ha => by
 simp only [execOp, ha.eval hx]
 simp [go_sem]
end
set_option maxRecDepth 100000 in
theorem QAL {s : ST} {g : Nat} {w : World} {M : Int} (hq : Blk w g 114 (stC s).toArray) (hl : lkB s.lk = true) (hB : WtB M s) (hM : M ≤ 1000000000000) :
  Calls Try.prog 76 #[.pointer (some ⟨g, 0, none⟩)] w fun e w' => e = .returned (.tuple #[]) ∧ Blk w' g 114 (stC (mvS s)).toArray ∧ w.grownBy w' (some g) := by
 have k1 := QC3 hl;have k2 := QC4 hl;obtain ⟨_, _, _, k3, _⟩ := Y_ hl;have b1 := hB.up;have b2 := hB.lo;have b3 := hB.ch;have b4 := hB.mv;have b5 := hB.ba
 unfold QAn at k2 b5
 clear hB hl;obtain ⟨⟨le, cy, tu, fi, sa, hi⟩, up, lo, ch, ba, mv, fr, t0, t1, co⟩ := s
 simp only at k1 k2 k3 b1 b2 b3 b4 b5
 have hq : Blk w g 114 #[.int .i64 le, .int .i64 cy, .int .i64 tu, .int .i64 fi, .int .i64 sa, .bool hi, .int .i64 up, .int .i64 lo, .int .i64 ch, .int .i64 ba, .int .i64 mv, .int .i64 fr, .int .i64 (t0 : Nat), .int .i64 (t1 : Nat), .int .i64 co] := hq;have hgr : w.grownBy w (some g) := ⟨rfl, rfl, rfl, Nat.le_refl _, fun _ _ _ => rfl⟩
 refine EC.enter 134 Try.func76 rfl rfl rfl (EC.seq (EC.seq (EC.region (EL.mv rfl rfl (EL.val (ZG rfl) rfl (EL.val (Za rfl) rfl (EL.val (QB0 rfl) rfl (EL.val (ld_3 rfl (hq.at (j := 10) rfl)) rfl ?_))))))));refine EL.val (ZP rfl rfl (by first | assumption | exact IntWalk.i64_in _ ⟨by omega, by omega⟩)) rfl ?_
 refine EL.val (ZG rfl) rfl (EL.val (Za rfl) rfl (EL.val (QB0 rfl) rfl (EL.store rfl rfl hq sz_3 rfl rfl rfl rfl ?_)));intro w1 hq1 hg1;replace hgr := Zg hgr hg1;replace hq := hq1;clear hg1 hq1;refine EL.nil (EX.seq (EC.seq (EC.region (EL.mv rfl rfl (EL.val (ZG rfl) rfl (EL.val (ZY rfl) rfl (EL.val (QA5 rfl) rfl (EL.val (ld_4 rfl (hq.at (j := 5) rfl)) rfl (EL.nil ?_)))))))));refine EX.seq ?_
 cases hi
 ·
  refine EC.no rfl ?_;refine EC.regionS [[], [], [], [], [3], [3, 4], [3, 4, 5], [3, 4, 5, 6], [3, 4, 5, 6, 7], [], [9], [9, 10], [9, 10, 11], [9, 10, 11, 12], [3, 4, 5, 6, 7, 8, 9, 10, 11, 12, 13], [], [15], [15, 16], [15, 16, 17], [15, 16, 17, 18], [15, 16, 17, 18, 19], [3, 4, 5, 6, 7, 8, 9, 10, 11, 12, 13, 14, 15, 16, 17, 18, 19, 20], [], [22], [22, 23], [22, 23, 24], [22, 23, 24, 25], [22, 23, 24, 25, 26], [], [28], [28, 29], [28, 29, 30], [28, 29, 30, 31], [22, 23, 24, 25, 26, 27, 28, 29, 30, 31, 32], [0, 3, 4, 5, 6, 7, 8, 9, 10, 11, 12, 13, 14, 15, 16, 17, 18, 19, 20, 21, 22, 23, 24, 25, 26, 27, 28, 29, 30, 31, 32], [0, 3, 4, 5, 6, 7, 8, 9, 10, 11, 12, 13, 14, 15, 16, 17, 18, 19, 20, 21, 22, 23, 24, 25, 26, 27, 28, 29, 30, 31, 32, 34], [0, 3, 4, 5, 6, 7, 8, 9, 10, 11, 12, 13, 14, 15, 16, 17, 18, 19, 20, 21, 22, 23, 24, 25, 26, 27, 28, 29, 30, 31, 32, 34, 35], [0, 3, 4, 5, 6, 7, 8, 9, 10, 11, 12, 13, 14, 15, 16, 17, 18, 19, 20, 21, 22, 23, 24, 25, 26, 27, 28, 29, 30, 31, 32, 34, 35, 36], [0, 3, 4, 5, 6, 7, 8, 9, 10, 11, 12, 13, 14, 15, 16, 17, 18, 19, 20, 21, 22, 23, 24, 25, 26, 27, 28, 29, 30, 31, 32, 34, 35, 36, 37], [0, 1, 3, 4, 5, 6, 7, 8, 9, 10, 11, 12, 13, 14, 15, 16, 17, 18, 19, 20, 21, 22, 23, 24, 25, 26, 27, 28, 29, 30, 31, 32, 34, 35, 36, 37, 38], [0, 1, 3, 4, 5, 6, 7, 8, 9, 10, 11, 12, 13, 14, 15, 16, 17, 18, 19, 20, 21, 22, 23, 24, 25, 26, 27, 28, 29, 30, 31, 32, 34, 35, 36, 37, 38, 39], [0, 1, 3, 4, 5, 6, 7, 8, 9, 10, 11, 12, 13, 14, 15, 16, 17, 18, 19, 20, 21, 22, 23, 24, 25, 26, 27, 28, 29, 30, 31, 32, 34, 35, 36, 37, 38, 39, 40], [0, 1, 3, 4, 5, 6, 7, 8, 9, 10, 11, 12, 13, 14, 15, 16, 17, 18, 19, 20, 21, 22, 23, 24, 25, 26, 27, 28, 29, 30, 31, 32, 34, 35, 36, 37, 38, 39, 40, 41], [0, 1, 3, 4, 5, 6, 7, 8, 9, 10, 11, 12, 13, 14, 15, 16, 17, 18, 19, 20, 21, 22, 23, 24, 25, 26, 27, 28, 29, 30, 31, 32, 34, 35, 36, 37, 38, 39, 40, 41, 42], [0, 1, 2, 3, 4, 5, 6, 7, 8, 9, 10, 11, 12, 13, 14, 15, 16, 17, 18, 19, 20, 21, 22, 23, 24, 25, 26, 27, 28, 29, 30, 31, 32, 33, 34, 35, 36, 37, 38, 39, 40, 41, 42, 43], [0, 1, 2, 3, 4, 5, 6, 7, 8, 9, 10, 11, 12, 13, 14, 15, 16, 17, 18, 19, 20, 21, 22, 23, 24, 25, 26, 27, 28, 29, 30, 31, 32, 33, 34, 35, 36, 37, 38, 39, 40, 41, 42, 43, 44], [0, 1, 2, 3, 4, 5, 6, 7, 8, 9, 10, 11, 12, 13, 14, 15, 16, 17, 18, 19, 20, 21, 22, 23, 24, 25, 26, 27, 28, 29, 30, 31, 32, 33, 34, 35, 36, 37, 38, 39, 40, 41, 42, 43, 44, 45], [0, 1, 2, 3, 4, 5, 6, 7, 8, 9, 10, 11, 12, 13, 14, 15, 16, 17, 18, 19, 20, 21, 22, 23, 24, 25, 26, 27, 28, 29, 30, 31, 32, 33, 34, 35, 36, 37, 38, 39, 40, 41, 42, 43, 44, 45, 46], [0, 1, 2, 3, 4, 5, 6, 7, 8, 9, 10, 11, 12, 13, 14, 15, 16, 17, 18, 19, 20, 21, 22, 23, 24, 25, 26, 27, 28, 29, 30, 31, 32, 33, 34, 35, 36, 37, 38, 39, 40, 41, 42, 43, 44, 45, 46, 47]] 44 [] [38, 43] (fun fl w_ => w1.grownBy w_ (some g) ∧ (fl 38 = false → Blk w_ g 114 #[.int .i64 le, .int .i64 cy, .int .i64 tu, .int .i64 fi, .int .i64 sa, .bool false, .int .i64 up, .int .i64 lo, .int .i64 ch, .int .i64 ba, .int .i64 (mv + 1), .int .i64 fr, .int .i64 (t0 : Nat), .int .i64 (t1 : Nat), .int .i64 co])) (phiS (fun i_ r => match i_ with | 0 => r 0 = .pointer (some ⟨g, 0, none⟩) | 1 => r 1 = .pointer (some ⟨g, 0, none⟩) | 2 => r 2 = .pointer (some ⟨g, 0, none⟩) | 3 => r 3 = .pointer (some ⟨g, 0, none⟩) | 4 => r 4 = .pointer (some ⟨g, 0, none⟩) | 5 => r 5 = .pointer (some ⟨g, 6, none⟩) | 6 => r 6 = .pointer (some ⟨g, 6, none⟩) | 7 => r 7 = .pointer (some ⟨g, 6, none⟩) | 8 => r 8 = .int .i64 up | 9 => r 9 = .pointer (some ⟨g, 0, none⟩) | 10 => r 10 = .pointer (some ⟨g, 0, none⟩) | 11 => r 11 = .pointer (some ⟨g, 0, none⟩) | 12 => r 12 = .pointer (some ⟨g, 3, none⟩) | 13 => r 13 = .int .i64 fi | 14 => r 14 = .int .i64 (up - fi) | 15 => r 15 = .pointer (some ⟨g, 0, none⟩) | 16 => r 16 = .pointer (some ⟨g, 0, none⟩) | 17 => r 17 = .pointer (some ⟨g, 6, none⟩) | 18 => r 18 = .pointer (some ⟨g, 6, none⟩) | 19 => r 19 = .pointer (some ⟨g, 6 + 3, none⟩) | 20 => r 20 = .int .i64 ba | 21 => r 21 = .int .i64 ((up - fi) + ba) | 22 => r 22 = .pointer (some ⟨g, 0, none⟩) | 23 => r 23 = .pointer (some ⟨g, 0, none⟩) | 24 => r 24 = .pointer (some ⟨g, 6, none⟩) | 25 => r 25 = .pointer (some ⟨g, 6, none⟩) | 26 => r 26 = .pointer (some ⟨g, 6 + 2, none⟩) | 27 => r 27 = .int .i64 ch | 28 => r 28 = .pointer (some ⟨g, 0, none⟩) | 29 => r 29 = .pointer (some ⟨g, 0, none⟩) | 30 => r 30 = .pointer (some ⟨g, 0, none⟩) | 31 => r 31 = .pointer (some ⟨g, 3, none⟩) | 32 => r 32 = .int .i64 fi | 33 => r 33 = .int .i64 (ch + fi) | 34 => r 34 = .pointer (some ⟨g, 0, none⟩) | 35 => r 35 = .pointer (some ⟨g, 6, none⟩) | 36 => r 36 = .pointer (some ⟨g, 6, none⟩) | 37 => r 37 = .pointer (some ⟨g, 6, none⟩) | 39 => r 39 = .pointer (some ⟨g, 0, none⟩) | 40 => r 40 = .pointer (some ⟨g, 6, none⟩) | 41 => r 41 = .pointer (some ⟨g, 6, none⟩) | 42 => r 42 = .pointer (some ⟨g, 6 + 3, none⟩) | _ => True) [(38, fun fl _ w_ => fl 38 = true ∧ (fl 43 = false → Blk w_ g 114 #[.int .i64 le, .int .i64 cy, .int .i64 tu, .int .i64 fi, .int .i64 sa, .bool false, .int .i64 ((up - fi) + ba), .int .i64 lo, .int .i64 ch, .int .i64 ba, .int .i64 (mv + 1), .int .i64 fr, .int .i64 (t0 : Nat), .int .i64 (t1 : Nat), .int .i64 co])), (43, fun fl _ w_ => fl 43 = true ∧ Blk w_ g 114 #[.int .i64 le, .int .i64 cy, .int .i64 tu, .int .i64 fi, .int .i64 sa, .bool false, .int .i64 ((up - fi) + ba), .int .i64 lo, .int .i64 ch, .int .i64 0, .int .i64 (mv + 1), .int .i64 fr, .int .i64 (t0 : Nat), .int .i64 (t1 : Nat), .int .i64 co])]) (by kernel_rfl) rfl rfl (by intro i hi; simp at hi; rcases hi with rfl | rfl <;> exact ⟨by simp, by omega⟩) (QAA hq) (ZK (fun _ _ _ _ hb ⟨h1, h2⟩ => ⟨h1, fun h => (h2 h).below hb (h2 h).lt⟩) (ZK (fun _ _ _ _ hb ⟨h1, h2⟩ => ⟨h1, h2.below hb h2.lt⟩) (Zb))) (fun i_ hi_ hs_ => ?_) (fun i_ hi_ => ?_) ?_
  ·match i_, hi_ with
   | 0, _ =>
    intro val fl w1 a hb ha hd hfl;obtain ⟨hgb, hz0_⟩ := hb;have ha := ha.s0 (d := 0) rfl
    exact ZC ha rfl rfl (x_move rfl) rfl rfl
   | 1, _ =>
    intro val fl w1 a hb ha hd hfl;obtain ⟨hgb, hz0_⟩ := hb;have ha := ha.s0 (d := 0) rfl
    exact ZC ha rfl rfl (x_move rfl) rfl rfl
   | 2, _ =>
    intro val fl w1 a hb ha hd hfl;obtain ⟨hgb, hz0_⟩ := hb;have ha := ha.s0 (d := 0) rfl
    exact ZC ha rfl rfl (x_move rfl) rfl rfl
   | 3, _ =>
    intro val fl w1 a hb ha hd hfl;obtain ⟨hgb, hz0_⟩ := hb;have ha := ha.s0 (d := 0) rfl
    exact ZC ha rfl rfl (x_move rfl) rfl rfl
   | 4, _ =>
    intro val fl w1 a hb ha hd hfl;obtain ⟨hgb, hz0_⟩ := hb;have e3 : val 3 = _ := hd 3 (ZA.1 rfl);have ha := ha.s1 (d := 81) rfl e3
    exact ZC ha rfl rfl (ZG rfl) rfl rfl
   | 5, _ =>
    intro val fl w1 a hb ha hd hfl;obtain ⟨hgb, hz0_⟩ := hb;have e4 : val 4 = _ := hd 4 (ZA.1 rfl);have ha := ha.s1 (d := 82) rfl e4
    exact ZC ha rfl rfl (Za rfl) rfl rfl
   | 6, _ =>
    intro val fl w1 a hb ha hd hfl;obtain ⟨hgb, hz0_⟩ := hb;have e5 : val 5 = _ := hd 5 (ZA.1 rfl);have ha := ha.s1 (d := 83) rfl e5
    exact ZC ha rfl rfl (Zi rfl) rfl rfl
   | 7, _ =>
    intro val fl w1 a hb ha hd hfl;obtain ⟨hgb, hz0_⟩ := hb;have e6 : val 6 = _ := hd 6 (ZA.1 rfl);have ha := ha.s1 (d := 84) rfl e6
    exact ZC ha rfl rfl (YD rfl) rfl rfl
   | 8, _ =>
    intro val fl w1 a hb ha hd hfl;obtain ⟨hgb, hz0_⟩ := hb;have e7 : val 7 = _ := hd 7 (ZA.1 rfl);have ha := ha.s1 (d := 85) rfl e7
    exact ZC ha rfl rfl (ld_3 rfl ((hz0_ (hfl 38 (by simp) (ZA.1 rfl))).at (j := 6) rfl)) rfl rfl
   | 9, _ =>
    intro val fl w1 a hb ha hd hfl;obtain ⟨hgb, hz0_⟩ := hb;have ha := ha.s0 (d := 0) rfl
    exact ZC ha rfl rfl (x_move rfl) rfl rfl
   | 10, _ =>
    intro val fl w1 a hb ha hd hfl;obtain ⟨hgb, hz0_⟩ := hb;have e9 : val 9 = _ := hd 9 (ZA.1 rfl);have ha := ha.s1 (d := 87) rfl e9
    exact ZC ha rfl rfl (ZG rfl) rfl rfl
   | 11, _ =>
    intro val fl w1 a hb ha hd hfl;obtain ⟨hgb, hz0_⟩ := hb;have e10 : val 10 = _ := hd 10 (ZA.1 rfl);have ha := ha.s1 (d := 88) rfl e10
    exact ZC ha rfl rfl (ZY rfl) rfl rfl
   | 12, _ =>
    intro val fl w1 a hb ha hd hfl;obtain ⟨hgb, hz0_⟩ := hb;have e11 : val 11 = _ := hd 11 (ZA.1 rfl);have ha := ha.s1 (d := 89) rfl e11
    exact ZC ha rfl rfl (Yv rfl) rfl rfl
   | 13, _ =>
    intro val fl w1 a hb ha hd hfl;obtain ⟨hgb, hz0_⟩ := hb;have e12 : val 12 = _ := hd 12 (ZA.1 rfl);have ha := ha.s1 (d := 90) rfl e12
    exact ZC ha rfl rfl (ld_3 rfl ((hz0_ (hfl 38 (by simp) (ZA.1 rfl))).at (j := 3) rfl)) rfl rfl
   | 14, _ =>
    intro val fl w1 a hb ha hd hfl;obtain ⟨hgb, hz0_⟩ := hb;have e8 : val 8 = _ := hd 8 (ZA.1 rfl);have e13 : val 13 = _ := hd 13 (ZA.1 rfl);have ha := ha.s2 (d := 91) (e := 86) rfl e13 rfl e8
    exact ZC ha rfl rfl (Zv rfl rfl (by first | assumption | exact IntWalk.i64_in _ ⟨by omega, by omega⟩)) rfl rfl
   | 15, _ =>
    intro val fl w1 a hb ha hd hfl;obtain ⟨hgb, hz0_⟩ := hb;have ha := ha.s0 (d := 0) rfl
    exact ZC ha rfl rfl (x_move rfl) rfl rfl
   | 16, _ =>
    intro val fl w1 a hb ha hd hfl;obtain ⟨hgb, hz0_⟩ := hb;have e15 : val 15 = _ := hd 15 (ZA.1 rfl);have ha := ha.s1 (d := 93) rfl e15
    exact ZC ha rfl rfl (ZG rfl) rfl rfl
   | 17, _ =>
    intro val fl w1 a hb ha hd hfl;obtain ⟨hgb, hz0_⟩ := hb;have e16 : val 16 = _ := hd 16 (ZA.1 rfl);have ha := ha.s1 (d := 94) rfl e16
    exact ZC ha rfl rfl (Za rfl) rfl rfl
   | 18, _ =>
    intro val fl w1 a hb ha hd hfl;obtain ⟨hgb, hz0_⟩ := hb;have e17 : val 17 = _ := hd 17 (ZA.1 rfl);have ha := ha.s1 (d := 95) rfl e17
    exact ZC ha rfl rfl (Zi rfl) rfl rfl
   | 19, _ =>
    intro val fl w1 a hb ha hd hfl;obtain ⟨hgb, hz0_⟩ := hb;have e18 : val 18 = _ := hd 18 (ZA.1 rfl);have ha := ha.s1 (d := 96) rfl e18
    exact ZC ha rfl rfl (QA3 rfl) rfl rfl
   | 20, _ =>
    intro val fl w1 a hb ha hd hfl;obtain ⟨hgb, hz0_⟩ := hb;have e19 : val 19 = _ := hd 19 (ZA.1 rfl);have ha := ha.s1 (d := 97) rfl e19
    exact ZC ha rfl rfl (ld_3 rfl ((hz0_ (hfl 38 (by simp) (ZA.1 rfl))).at (j := 9) rfl)) rfl rfl
   | 21, _ =>
    intro val fl w1 a hb ha hd hfl;obtain ⟨hgb, hz0_⟩ := hb;have e14 : val 14 = _ := hd 14 (ZA.1 rfl);have e20 : val 20 = _ := hd 20 (ZA.1 rfl);have ha := ha.s2 (d := 98) (e := 92) rfl e20 rfl e14
    exact ZC ha rfl rfl (ZP rfl rfl (by first | assumption | exact IntWalk.i64_in _ ⟨by omega, by omega⟩)) rfl rfl
   | 22, _ =>
    intro val fl w1 a hb ha hd hfl;obtain ⟨hgb, hz0_⟩ := hb;have ha := ha.s0 (d := 0) rfl
    exact ZC ha rfl rfl (x_move rfl) rfl rfl
   | 23, _ =>
    intro val fl w1 a hb ha hd hfl;obtain ⟨hgb, hz0_⟩ := hb;have e22 : val 22 = _ := hd 22 (ZA.1 rfl);have ha := ha.s1 (d := 100) rfl e22
    exact ZC ha rfl rfl (ZG rfl) rfl rfl
   | 24, _ =>
    intro val fl w1 a hb ha hd hfl;obtain ⟨hgb, hz0_⟩ := hb;have e23 : val 23 = _ := hd 23 (ZA.1 rfl);have ha := ha.s1 (d := 101) rfl e23
    exact ZC ha rfl rfl (Za rfl) rfl rfl
   | 25, _ =>
    intro val fl w1 a hb ha hd hfl;obtain ⟨hgb, hz0_⟩ := hb;have e24 : val 24 = _ := hd 24 (ZA.1 rfl);have ha := ha.s1 (d := 102) rfl e24
    exact ZC ha rfl rfl (Zi rfl) rfl rfl
   | 26, _ =>
    intro val fl w1 a hb ha hd hfl;obtain ⟨hgb, hz0_⟩ := hb;have e25 : val 25 = _ := hd 25 (ZA.1 rfl);have ha := ha.s1 (d := 103) rfl e25
    exact ZC ha rfl rfl (QA4 rfl) rfl rfl
   | 27, _ =>
    intro val fl w1 a hb ha hd hfl;obtain ⟨hgb, hz0_⟩ := hb;have e26 : val 26 = _ := hd 26 (ZA.1 rfl);have ha := ha.s1 (d := 104) rfl e26
    exact ZC ha rfl rfl (ld_3 rfl ((hz0_ (hfl 38 (by simp) (ZA.1 rfl))).at (j := 8) rfl)) rfl rfl
   | 28, _ =>
    intro val fl w1 a hb ha hd hfl;obtain ⟨hgb, hz0_⟩ := hb;have ha := ha.s0 (d := 0) rfl
    exact ZC ha rfl rfl (x_move rfl) rfl rfl
   | 29, _ =>
    intro val fl w1 a hb ha hd hfl;obtain ⟨hgb, hz0_⟩ := hb;have e28 : val 28 = _ := hd 28 (ZA.1 rfl);have ha := ha.s1 (d := 106) rfl e28
    exact ZC ha rfl rfl (ZG rfl) rfl rfl
   | 30, _ =>
    intro val fl w1 a hb ha hd hfl;obtain ⟨hgb, hz0_⟩ := hb;have e29 : val 29 = _ := hd 29 (ZA.1 rfl);have ha := ha.s1 (d := 107) rfl e29
    exact ZC ha rfl rfl (ZY rfl) rfl rfl
   | 31, _ =>
    intro val fl w1 a hb ha hd hfl;obtain ⟨hgb, hz0_⟩ := hb;have e30 : val 30 = _ := hd 30 (ZA.1 rfl);have ha := ha.s1 (d := 108) rfl e30
    exact ZC ha rfl rfl (Yv rfl) rfl rfl
   | 32, _ =>
    intro val fl w1 a hb ha hd hfl;obtain ⟨hgb, hz0_⟩ := hb;have e31 : val 31 = _ := hd 31 (ZA.1 rfl);have ha := ha.s1 (d := 109) rfl e31
    exact ZC ha rfl rfl (ld_3 rfl ((hz0_ (hfl 38 (by simp) (ZA.1 rfl))).at (j := 3) rfl)) rfl rfl
   | 33, _ =>
    intro val fl w1 a hb ha hd hfl;obtain ⟨hgb, hz0_⟩ := hb;have e27 : val 27 = _ := hd 27 (ZA.1 rfl);have e32 : val 32 = _ := hd 32 (ZA.1 rfl);have ha := ha.s2 (d := 110) (e := 105) rfl e32 rfl e27
    exact ZC ha rfl rfl (ZP rfl rfl (by first | assumption | exact IntWalk.i64_in _ ⟨by omega, by omega⟩)) rfl rfl
   | 34, _ =>
    intro val fl w1 a hb ha hd hfl;obtain ⟨hgb, hz0_⟩ := hb;have e0 : val 0 = _ := hd 0 (ZA.1 rfl);have ha := ha.s1 (d := 78) rfl e0
    exact ZC ha rfl rfl (ZG rfl) rfl rfl
   | 35, _ =>
    intro val fl w1 a hb ha hd hfl;obtain ⟨hgb, hz0_⟩ := hb;have e34 : val 34 = _ := hd 34 (ZA.1 rfl);have ha := ha.s1 (d := 112) rfl e34
    exact ZC ha rfl rfl (Za rfl) rfl rfl
   | 36, _ =>
    intro val fl w1 a hb ha hd hfl;obtain ⟨hgb, hz0_⟩ := hb;have e35 : val 35 = _ := hd 35 (ZA.1 rfl);have ha := ha.s1 (d := 113) rfl e35
    exact ZC ha rfl rfl (Zi rfl) rfl rfl
   | 37, _ =>
    intro val fl w1 a hb ha hd hfl;obtain ⟨hgb, hz0_⟩ := hb;have e36 : val 36 = _ := hd 36 (ZA.1 rfl);have ha := ha.s1 (d := 114) rfl e36
    exact ZC ha rfl rfl (YD rfl) rfl rfl
   | 38, _ =>
    exact absurd (by simp) hs_
   | 39, _ =>
    intro val fl w1 a hb ha hd hfl;obtain ⟨hgb, hz0_⟩ := hb;have e1 : val 1 = _ := hd 1 (ZA.1 rfl);have ha := ha.s1 (d := 79) rfl e1
    exact ZC ha rfl rfl (ZG rfl) rfl rfl
   | 40, _ =>
    intro val fl w1 a hb ha hd hfl;obtain ⟨hgb, hz0_⟩ := hb;have e39 : val 39 = _ := hd 39 (ZA.1 rfl);have ha := ha.s1 (d := 116) rfl e39
    exact ZC ha rfl rfl (Za rfl) rfl rfl
   | 41, _ =>
    intro val fl w1 a hb ha hd hfl;obtain ⟨hgb, hz0_⟩ := hb;have e40 : val 40 = _ := hd 40 (ZA.1 rfl);have ha := ha.s1 (d := 117) rfl e40
    exact ZC ha rfl rfl (Zi rfl) rfl rfl
   | 42, _ =>
    intro val fl w1 a hb ha hd hfl;obtain ⟨hgb, hz0_⟩ := hb;have e41 : val 41 = _ := hd 41 (ZA.1 rfl);have ha := ha.s1 (d := 118) rfl e41
    exact ZC ha rfl rfl (QA3 rfl) rfl rfl
   | 43, _ =>
    exact absurd (by simp) hs_
   | k + 44, h => exact absurd h (by omega)
  ·simp only [List.mem_cons, List.not_mem_nil, or_false] at hi_
   rcases hi_ with rfl | rfl
   ·
    intro val fl w1 a hb hfi ha hd hfl;obtain ⟨hgb, hz0_⟩ := hb;have e37 : val 37 = _ := hd 37 (ZA.1 rfl);have e21 : val 21 = _ := hd 21 (ZA.1 rfl);have ha := ha.s2 (d := 99) (e := 115) rfl e21 rfl e37;refine Zc ha rfl rfl rfl (hz0_ hfi) sz_3 rfl rfl rfl rfl ?_;intro w' hq hgr;refine ⟨undef, rfl, hgr.size, ⟨Z3 hgb hgr, fun h => by rw [ZQ] at h; cases h⟩, ⟨ZQ, fun _ => hq⟩, fun j _ hj hn hA => ?_⟩
    exact ZF (C := fun j => j ≠ 38 ∧ 38 ∉ clsAt [[], [], [], [], [3], [3, 4], [3, 4, 5], [3, 4, 5, 6], [3, 4, 5, 6, 7], [], [9], [9, 10], [9, 10, 11], [9, 10, 11, 12], [3, 4, 5, 6, 7, 8, 9, 10, 11, 12, 13], [], [15], [15, 16], [15, 16, 17], [15, 16, 17, 18], [15, 16, 17, 18, 19], [3, 4, 5, 6, 7, 8, 9, 10, 11, 12, 13, 14, 15, 16, 17, 18, 19, 20], [], [22], [22, 23], [22, 23, 24], [22, 23, 24, 25], [22, 23, 24, 25, 26], [], [28], [28, 29], [28, 29, 30], [28, 29, 30, 31], [22, 23, 24, 25, 26, 27, 28, 29, 30, 31, 32], [0, 3, 4, 5, 6, 7, 8, 9, 10, 11, 12, 13, 14, 15, 16, 17, 18, 19, 20, 21, 22, 23, 24, 25, 26, 27, 28, 29, 30, 31, 32], [0, 3, 4, 5, 6, 7, 8, 9, 10, 11, 12, 13, 14, 15, 16, 17, 18, 19, 20, 21, 22, 23, 24, 25, 26, 27, 28, 29, 30, 31, 32, 34], [0, 3, 4, 5, 6, 7, 8, 9, 10, 11, 12, 13, 14, 15, 16, 17, 18, 19, 20, 21, 22, 23, 24, 25, 26, 27, 28, 29, 30, 31, 32, 34, 35], [0, 3, 4, 5, 6, 7, 8, 9, 10, 11, 12, 13, 14, 15, 16, 17, 18, 19, 20, 21, 22, 23, 24, 25, 26, 27, 28, 29, 30, 31, 32, 34, 35, 36], [0, 3, 4, 5, 6, 7, 8, 9, 10, 11, 12, 13, 14, 15, 16, 17, 18, 19, 20, 21, 22, 23, 24, 25, 26, 27, 28, 29, 30, 31, 32, 34, 35, 36, 37], [0, 1, 3, 4, 5, 6, 7, 8, 9, 10, 11, 12, 13, 14, 15, 16, 17, 18, 19, 20, 21, 22, 23, 24, 25, 26, 27, 28, 29, 30, 31, 32, 34, 35, 36, 37, 38], [0, 1, 3, 4, 5, 6, 7, 8, 9, 10, 11, 12, 13, 14, 15, 16, 17, 18, 19, 20, 21, 22, 23, 24, 25, 26, 27, 28, 29, 30, 31, 32, 34, 35, 36, 37, 38, 39], [0, 1, 3, 4, 5, 6, 7, 8, 9, 10, 11, 12, 13, 14, 15, 16, 17, 18, 19, 20, 21, 22, 23, 24, 25, 26, 27, 28, 29, 30, 31, 32, 34, 35, 36, 37, 38, 39, 40], [0, 1, 3, 4, 5, 6, 7, 8, 9, 10, 11, 12, 13, 14, 15, 16, 17, 18, 19, 20, 21, 22, 23, 24, 25, 26, 27, 28, 29, 30, 31, 32, 34, 35, 36, 37, 38, 39, 40, 41], [0, 1, 3, 4, 5, 6, 7, 8, 9, 10, 11, 12, 13, 14, 15, 16, 17, 18, 19, 20, 21, 22, 23, 24, 25, 26, 27, 28, 29, 30, 31, 32, 34, 35, 36, 37, 38, 39, 40, 41, 42], [0, 1, 2, 3, 4, 5, 6, 7, 8, 9, 10, 11, 12, 13, 14, 15, 16, 17, 18, 19, 20, 21, 22, 23, 24, 25, 26, 27, 28, 29, 30, 31, 32, 33, 34, 35, 36, 37, 38, 39, 40, 41, 42, 43], [0, 1, 2, 3, 4, 5, 6, 7, 8, 9, 10, 11, 12, 13, 14, 15, 16, 17, 18, 19, 20, 21, 22, 23, 24, 25, 26, 27, 28, 29, 30, 31, 32, 33, 34, 35, 36, 37, 38, 39, 40, 41, 42, 43, 44], [0, 1, 2, 3, 4, 5, 6, 7, 8, 9, 10, 11, 12, 13, 14, 15, 16, 17, 18, 19, 20, 21, 22, 23, 24, 25, 26, 27, 28, 29, 30, 31, 32, 33, 34, 35, 36, 37, 38, 39, 40, 41, 42, 43, 44, 45], [0, 1, 2, 3, 4, 5, 6, 7, 8, 9, 10, 11, 12, 13, 14, 15, 16, 17, 18, 19, 20, 21, 22, 23, 24, 25, 26, 27, 28, 29, 30, 31, 32, 33, 34, 35, 36, 37, 38, 39, 40, 41, 42, 43, 44, 45, 46], [0, 1, 2, 3, 4, 5, 6, 7, 8, 9, 10, 11, 12, 13, 14, 15, 16, 17, 18, 19, 20, 21, 22, 23, 24, 25, 26, 27, 28, 29, 30, 31, 32, 33, 34, 35, 36, 37, 38, 39, 40, 41, 42, 43, 44, 45, 46, 47]] j) (fun hc => absurd rfl hc.1) (ZF (fun hc => absurd (ZA.1 rfl) hc.2) (fun _ _ h => h)) j ⟨hj, hn⟩
   ·
    intro val fl w1 a hb hfi ha hd hfl;obtain ⟨hgb, hz0_⟩ := hb;have e42 : val 42 = _ := hd 42 (ZA.1 rfl);have ha := ha.s1 (d := 119) rfl e42;obtain ⟨ht0_, hp0_⟩ := hd 38 (ZA.1 rfl);refine Zc ha rfl rfl rfl (hp0_ hfi) sz_3 rfl rfl rfl rfl ?_;intro w' hq hgr;refine ⟨undef, rfl, hgr.size, ⟨Z3 hgb hgr, fun h => by rw [Z4 rfl, ht0_] at h; cases h⟩, ⟨ZQ, hq⟩, fun j _ hj hn hA => ?_⟩
    exact ZF (C := fun j => j ≠ 43 ∧ 43 ∉ clsAt [[], [], [], [], [3], [3, 4], [3, 4, 5], [3, 4, 5, 6], [3, 4, 5, 6, 7], [], [9], [9, 10], [9, 10, 11], [9, 10, 11, 12], [3, 4, 5, 6, 7, 8, 9, 10, 11, 12, 13], [], [15], [15, 16], [15, 16, 17], [15, 16, 17, 18], [15, 16, 17, 18, 19], [3, 4, 5, 6, 7, 8, 9, 10, 11, 12, 13, 14, 15, 16, 17, 18, 19, 20], [], [22], [22, 23], [22, 23, 24], [22, 23, 24, 25], [22, 23, 24, 25, 26], [], [28], [28, 29], [28, 29, 30], [28, 29, 30, 31], [22, 23, 24, 25, 26, 27, 28, 29, 30, 31, 32], [0, 3, 4, 5, 6, 7, 8, 9, 10, 11, 12, 13, 14, 15, 16, 17, 18, 19, 20, 21, 22, 23, 24, 25, 26, 27, 28, 29, 30, 31, 32], [0, 3, 4, 5, 6, 7, 8, 9, 10, 11, 12, 13, 14, 15, 16, 17, 18, 19, 20, 21, 22, 23, 24, 25, 26, 27, 28, 29, 30, 31, 32, 34], [0, 3, 4, 5, 6, 7, 8, 9, 10, 11, 12, 13, 14, 15, 16, 17, 18, 19, 20, 21, 22, 23, 24, 25, 26, 27, 28, 29, 30, 31, 32, 34, 35], [0, 3, 4, 5, 6, 7, 8, 9, 10, 11, 12, 13, 14, 15, 16, 17, 18, 19, 20, 21, 22, 23, 24, 25, 26, 27, 28, 29, 30, 31, 32, 34, 35, 36], [0, 3, 4, 5, 6, 7, 8, 9, 10, 11, 12, 13, 14, 15, 16, 17, 18, 19, 20, 21, 22, 23, 24, 25, 26, 27, 28, 29, 30, 31, 32, 34, 35, 36, 37], [0, 1, 3, 4, 5, 6, 7, 8, 9, 10, 11, 12, 13, 14, 15, 16, 17, 18, 19, 20, 21, 22, 23, 24, 25, 26, 27, 28, 29, 30, 31, 32, 34, 35, 36, 37, 38], [0, 1, 3, 4, 5, 6, 7, 8, 9, 10, 11, 12, 13, 14, 15, 16, 17, 18, 19, 20, 21, 22, 23, 24, 25, 26, 27, 28, 29, 30, 31, 32, 34, 35, 36, 37, 38, 39], [0, 1, 3, 4, 5, 6, 7, 8, 9, 10, 11, 12, 13, 14, 15, 16, 17, 18, 19, 20, 21, 22, 23, 24, 25, 26, 27, 28, 29, 30, 31, 32, 34, 35, 36, 37, 38, 39, 40], [0, 1, 3, 4, 5, 6, 7, 8, 9, 10, 11, 12, 13, 14, 15, 16, 17, 18, 19, 20, 21, 22, 23, 24, 25, 26, 27, 28, 29, 30, 31, 32, 34, 35, 36, 37, 38, 39, 40, 41], [0, 1, 3, 4, 5, 6, 7, 8, 9, 10, 11, 12, 13, 14, 15, 16, 17, 18, 19, 20, 21, 22, 23, 24, 25, 26, 27, 28, 29, 30, 31, 32, 34, 35, 36, 37, 38, 39, 40, 41, 42], [0, 1, 2, 3, 4, 5, 6, 7, 8, 9, 10, 11, 12, 13, 14, 15, 16, 17, 18, 19, 20, 21, 22, 23, 24, 25, 26, 27, 28, 29, 30, 31, 32, 33, 34, 35, 36, 37, 38, 39, 40, 41, 42, 43], [0, 1, 2, 3, 4, 5, 6, 7, 8, 9, 10, 11, 12, 13, 14, 15, 16, 17, 18, 19, 20, 21, 22, 23, 24, 25, 26, 27, 28, 29, 30, 31, 32, 33, 34, 35, 36, 37, 38, 39, 40, 41, 42, 43, 44], [0, 1, 2, 3, 4, 5, 6, 7, 8, 9, 10, 11, 12, 13, 14, 15, 16, 17, 18, 19, 20, 21, 22, 23, 24, 25, 26, 27, 28, 29, 30, 31, 32, 33, 34, 35, 36, 37, 38, 39, 40, 41, 42, 43, 44, 45], [0, 1, 2, 3, 4, 5, 6, 7, 8, 9, 10, 11, 12, 13, 14, 15, 16, 17, 18, 19, 20, 21, 22, 23, 24, 25, 26, 27, 28, 29, 30, 31, 32, 33, 34, 35, 36, 37, 38, 39, 40, 41, 42, 43, 44, 45, 46], [0, 1, 2, 3, 4, 5, 6, 7, 8, 9, 10, 11, 12, 13, 14, 15, 16, 17, 18, 19, 20, 21, 22, 23, 24, 25, 26, 27, 28, 29, 30, 31, 32, 33, 34, 35, 36, 37, 38, 39, 40, 41, 42, 43, 44, 45, 46, 47]] j) (fun _ ⟨h1, _⟩ => ⟨by rw [Z4 rfl]; exact h1, fun h => by rw [ZQ] at h; cases h⟩) (ZF (fun hc => absurd rfl hc.1) (fun _ _ h => h)) j ⟨hj, hn⟩
  ·intro val fl wR4 hfl hb halc hd
   obtain ⟨hgb, _⟩ := hb;have hz_ := (hd 43 (by omega)).2
   change Blk wR4 g 114 #[.int .i64 le, .int .i64 cy, .int .i64 tu, .int .i64 fi, .int .i64 sa, .bool false, .int .i64 ((up - fi) + ba), .int .i64 lo, .int .i64 ch, .int .i64 0, .int .i64 (mv + 1), .int .i64 fr, .int .i64 (t0 : Nat), .int .i64 (t1 : Nat), .int .i64 co] at hz_;have e0 : val 0 = _ := hd 0 (by omega)
   have e1 : val 1 = _ := hd 1 (by omega)
   have e2 : val 2 = _ := hd 2 (by omega)
   have e3 : val 3 = _ := hd 3 (by omega)
   have e4 : val 4 = _ := hd 4 (by omega)
   have e5 : val 5 = _ := hd 5 (by omega)
   have e6 : val 6 = _ := hd 6 (by omega)
   have e7 : val 7 = _ := hd 7 (by omega)
   have e8 : val 8 = _ := hd 8 (by omega)
   have e9 : val 9 = _ := hd 9 (by omega)
   have e10 : val 10 = _ := hd 10 (by omega)
   have e11 : val 11 = _ := hd 11 (by omega)
   have e12 : val 12 = _ := hd 12 (by omega)
   have e13 : val 13 = _ := hd 13 (by omega)
   have e14 : val 14 = _ := hd 14 (by omega)
   have e15 : val 15 = _ := hd 15 (by omega)
   have e16 : val 16 = _ := hd 16 (by omega)
   have e17 : val 17 = _ := hd 17 (by omega)
   have e18 : val 18 = _ := hd 18 (by omega)
   have e19 : val 19 = _ := hd 19 (by omega)
   have e20 : val 20 = _ := hd 20 (by omega)
   have e21 : val 21 = _ := hd 21 (by omega)
   have e22 : val 22 = _ := hd 22 (by omega)
   have e23 : val 23 = _ := hd 23 (by omega)
   have e24 : val 24 = _ := hd 24 (by omega)
   have e25 : val 25 = _ := hd 25 (by omega)
   have e26 : val 26 = _ := hd 26 (by omega)
   have e27 : val 27 = _ := hd 27 (by omega)
   have e28 : val 28 = _ := hd 28 (by omega)
   have e29 : val 29 = _ := hd 29 (by omega)
   have e30 : val 30 = _ := hd 30 (by omega)
   have e31 : val 31 = _ := hd 31 (by omega)
   have e32 : val 32 = _ := hd 32 (by omega)
   have e33 : val 33 = _ := hd 33 (by omega)
   have e34 : val 34 = _ := hd 34 (by omega)
   have e35 : val 35 = _ := hd 35 (by omega)
   have e36 : val 36 = _ := hd 36 (by omega)
   have e37 : val 37 = _ := hd 37 (by omega)
   have e39 : val 39 = _ := hd 39 (by omega)
   have e40 : val 40 = _ := hd 40 (by omega)
   have e41 : val 41 = _ := hd 41 (by omega)
   have e42 : val 42 = _ := hd 42 (by omega)
   refine EL.ends (cs := [_, _, _, _, _, _, _, _, _, _, _, _, _, _, _, _, _, _, _, _, _, _, _, _, _, _, _, _, _, _, _, _, _, _, _, _, _, _, val 38, _, _, _, _, val 43]) ⟨e0, e1, e2, e3, e4, e5, e6, e7, e8, e9, e10, e11, e12, e13, e14, e15, e16, e17, e18, e19, e20, e21, e22, e23, e24, e25, e26, e27, e28, e29, e30, e31, e32, e33, e34, e35, e36, e37, rfl, e39, e40, e41, e42, rfl, trivial⟩ rfl ?_;replace hgr := Zg hgr hgb;replace hq := hz_;clear hgb hz_;refine EL.val (ZG rfl) rfl (EL.val (Za rfl) rfl (EL.val (Zi rfl) rfl (EL.val (QA4 rfl) rfl (EL.store rfl rfl hq sz_3 rfl rfl rfl rfl ?_))));intro w2 hq2 hg2;replace hgr := Zg hgr hg2;replace hq := hq2;clear hg2 hq2;refine EL.nil (EX.seq (EC.region (EL.mv rfl rfl (EL.mv rfl rfl (EL.val (ZG rfl) rfl (EL.val (ZY rfl) rfl (EL.val (QA5 rfl) rfl (EL.val (ld_4 rfl (hq.at (j := 5) rfl)) rfl (EL.val (ZT rfl) rfl ?_)))))))));refine EL.val (ZG rfl) rfl (EL.val (ZY rfl) rfl (EL.val (QA5 rfl) rfl (EL.store rfl rfl hq sz_4 rfl rfl rfl rfl ?_)));intro w3 hq3 hg3;replace hgr := Zg hgr hg3;replace hq := hq3;clear hg3 hq3;refine EL.nil ?_
   exact EX.done' (res0 rfl) ⟨rfl, hq, hgr⟩
 ·
  refine EC.yes rfl (EC.seq ?_);refine EC.regionQ (by kernel_rfl) (by kernel_rfl) ?_
  refine EQ.mv rfl rfl ?_;refine EQ.val (fun _ hw => (ZG rfl)) rfl ?_
  refine EQ.val (fun _ hw => (ZY rfl)) rfl ?_
  refine EQ.val (fun _ hw => (Yv rfl)) rfl ?_
  refine EQ.val (fun _ hw => (ld_3 rfl (ZB hw (hq.at (j := 3) rfl)))) rfl ?_
  refine EQ.mv rfl rfl ?_;refine EQ.val (fun _ hw => (ZG rfl)) rfl ?_
  refine EQ.val (fun _ hw => (ZY rfl)) rfl ?_
  refine EQ.val (fun _ hw => (QD8 rfl)) rfl ?_
  refine EQ.val (fun _ hw => (ld_3 rfl (ZB hw (hq.at (j := 4) rfl)))) rfl ?_
  refine EQ.val (fun _ hw => (QAR rfl rfl (IntWalk.i64_in _ ⟨by omega, by omega⟩))) rfl ?_
  refine EQ.val (fun _ hw => (QII rfl rfl (by decide) (IntWalk.i64_in _ ⟨by omega, by omega⟩))) rfl ?_
  refine EQ.val (fun _ hw => (ZZ rfl)) rfl ?_
  refine EQ.fin (fun w4 hw_ => ?_)
  replace hq := hq.bl hw_;replace hgr := Yi hgr hw_;clear hw_;refine EX.seq ?_;refine EC.regionS [[], [], [], [], [3], [3, 4], [3, 4, 5], [3, 4, 5, 6], [3, 4, 5, 6, 7], [], [9], [9, 10], [9, 10, 11], [9, 10, 11, 12], [3, 4, 5, 6, 7, 8, 9, 10, 11, 12, 13], [], [3, 4, 5, 6, 7, 8, 9, 10, 11, 12, 13, 14, 15], [], [17], [17, 18], [17, 18, 19], [17, 18, 19, 20], [17, 18, 19, 20, 21], [], [17, 18, 19, 20, 21, 22, 23], [], [25], [25, 26], [25, 26, 27], [25, 26, 27, 28], [25, 26, 27, 28, 29], [], [31], [31, 32], [31, 32, 33], [31, 32, 33, 34], [25, 26, 27, 28, 29, 30, 31, 32, 33, 34, 35], [0, 3, 4, 5, 6, 7, 8, 9, 10, 11, 12, 13, 14, 15, 16, 17, 18, 19, 20, 21, 22, 25, 26, 27, 28, 29, 30, 31, 32, 33, 34, 35], [0, 3, 4, 5, 6, 7, 8, 9, 10, 11, 12, 13, 14, 15, 16, 17, 18, 19, 20, 21, 22, 25, 26, 27, 28, 29, 30, 31, 32, 33, 34, 35, 37], [0, 3, 4, 5, 6, 7, 8, 9, 10, 11, 12, 13, 14, 15, 16, 17, 18, 19, 20, 21, 22, 25, 26, 27, 28, 29, 30, 31, 32, 33, 34, 35, 37, 38], [0, 3, 4, 5, 6, 7, 8, 9, 10, 11, 12, 13, 14, 15, 16, 17, 18, 19, 20, 21, 22, 25, 26, 27, 28, 29, 30, 31, 32, 33, 34, 35, 37, 38, 39], [0, 3, 4, 5, 6, 7, 8, 9, 10, 11, 12, 13, 14, 15, 16, 17, 18, 19, 20, 21, 22, 25, 26, 27, 28, 29, 30, 31, 32, 33, 34, 35, 37, 38, 39, 40], [0, 1, 3, 4, 5, 6, 7, 8, 9, 10, 11, 12, 13, 14, 15, 16, 17, 18, 19, 20, 21, 22, 23, 24, 25, 26, 27, 28, 29, 30, 31, 32, 33, 34, 35, 37, 38, 39, 40, 41], [0, 1, 3, 4, 5, 6, 7, 8, 9, 10, 11, 12, 13, 14, 15, 16, 17, 18, 19, 20, 21, 22, 23, 24, 25, 26, 27, 28, 29, 30, 31, 32, 33, 34, 35, 37, 38, 39, 40, 41, 42], [0, 1, 3, 4, 5, 6, 7, 8, 9, 10, 11, 12, 13, 14, 15, 16, 17, 18, 19, 20, 21, 22, 23, 24, 25, 26, 27, 28, 29, 30, 31, 32, 33, 34, 35, 37, 38, 39, 40, 41, 42, 43], [0, 1, 3, 4, 5, 6, 7, 8, 9, 10, 11, 12, 13, 14, 15, 16, 17, 18, 19, 20, 21, 22, 23, 24, 25, 26, 27, 28, 29, 30, 31, 32, 33, 34, 35, 37, 38, 39, 40, 41, 42, 43, 44], [0, 1, 3, 4, 5, 6, 7, 8, 9, 10, 11, 12, 13, 14, 15, 16, 17, 18, 19, 20, 21, 22, 23, 24, 25, 26, 27, 28, 29, 30, 31, 32, 33, 34, 35, 37, 38, 39, 40, 41, 42, 43, 44, 45], [0, 1, 2, 3, 4, 5, 6, 7, 8, 9, 10, 11, 12, 13, 14, 15, 16, 17, 18, 19, 20, 21, 22, 23, 24, 25, 26, 27, 28, 29, 30, 31, 32, 33, 34, 35, 36, 37, 38, 39, 40, 41, 42, 43, 44, 45, 46], [0, 1, 2, 3, 4, 5, 6, 7, 8, 9, 10, 11, 12, 13, 14, 15, 16, 17, 18, 19, 20, 21, 22, 23, 24, 25, 26, 27, 28, 29, 30, 31, 32, 33, 34, 35, 36, 37, 38, 39, 40, 41, 42, 43, 44, 45, 46, 47], [0, 1, 2, 3, 4, 5, 6, 7, 8, 9, 10, 11, 12, 13, 14, 15, 16, 17, 18, 19, 20, 21, 22, 23, 24, 25, 26, 27, 28, 29, 30, 31, 32, 33, 34, 35, 36, 37, 38, 39, 40, 41, 42, 43, 44, 45, 46, 47, 48], [0, 1, 2, 3, 4, 5, 6, 7, 8, 9, 10, 11, 12, 13, 14, 15, 16, 17, 18, 19, 20, 21, 22, 23, 24, 25, 26, 27, 28, 29, 30, 31, 32, 33, 34, 35, 36, 37, 38, 39, 40, 41, 42, 43, 44, 45, 46, 47, 48, 49], [0, 1, 2, 3, 4, 5, 6, 7, 8, 9, 10, 11, 12, 13, 14, 15, 16, 17, 18, 19, 20, 21, 22, 23, 24, 25, 26, 27, 28, 29, 30, 31, 32, 33, 34, 35, 36, 37, 38, 39, 40, 41, 42, 43, 44, 45, 46, 47, 48, 49, 50]] 47 [] [41, 46] (fun fl w_ => w4.grownBy w_ (some g) ∧ (fl 41 = false → Blk w_ g 114 #[.int .i64 le, .int .i64 cy, .int .i64 tu, .int .i64 fi, .int .i64 sa, .bool true, .int .i64 up, .int .i64 lo, .int .i64 ch, .int .i64 ba, .int .i64 (mv + 1), .int .i64 fr, .int .i64 (t0 : Nat), .int .i64 (t1 : Nat), .int .i64 co])) (phiS (fun i_ r => match i_ with | 0 => r 0 = .pointer (some ⟨g, 0, none⟩) | 1 => r 1 = .pointer (some ⟨g, 0, none⟩) | 2 => r 2 = .pointer (some ⟨g, 0, none⟩) | 3 => r 3 = .pointer (some ⟨g, 0, none⟩) | 4 => r 4 = .pointer (some ⟨g, 0, none⟩) | 5 => r 5 = .pointer (some ⟨g, 6, none⟩) | 6 => r 6 = .pointer (some ⟨g, 6, none⟩) | 7 => r 7 = .pointer (some ⟨g, 6 + 1, none⟩) | 8 => r 8 = .int .i64 lo | 9 => r 9 = .pointer (some ⟨g, 0, none⟩) | 10 => r 10 = .pointer (some ⟨g, 0, none⟩) | 11 => r 11 = .pointer (some ⟨g, 0, none⟩) | 12 => r 12 = .pointer (some ⟨g, 3, none⟩) | 13 => r 13 = .int .i64 fi | 14 => r 14 = .int .i64 (lo + fi) | 15 => r 15 = .int .i64 ((fi * sa).tdiv 100) | 16 => r 16 = .int .i64 ((lo + fi) - ((fi * sa).tdiv 100)) | 17 => r 17 = .pointer (some ⟨g, 0, none⟩) | 18 => r 18 = .pointer (some ⟨g, 0, none⟩) | 19 => r 19 = .pointer (some ⟨g, 6, none⟩) | 20 => r 20 = .pointer (some ⟨g, 6, none⟩) | 21 => r 21 = .pointer (some ⟨g, 6 + 3, none⟩) | 22 => r 22 = .int .i64 ba | 23 => r 23 = .int .i64 ((fi * sa).tdiv 100) | 24 => r 24 = .int .i64 (ba + ((fi * sa).tdiv 100)) | 25 => r 25 = .pointer (some ⟨g, 0, none⟩) | 26 => r 26 = .pointer (some ⟨g, 0, none⟩) | 27 => r 27 = .pointer (some ⟨g, 6, none⟩) | 28 => r 28 = .pointer (some ⟨g, 6, none⟩) | 29 => r 29 = .pointer (some ⟨g, 6 + 2, none⟩) | 30 => r 30 = .int .i64 ch | 31 => r 31 = .pointer (some ⟨g, 0, none⟩) | 32 => r 32 = .pointer (some ⟨g, 0, none⟩) | 33 => r 33 = .pointer (some ⟨g, 0, none⟩) | 34 => r 34 = .pointer (some ⟨g, 3, none⟩) | 35 => r 35 = .int .i64 fi | 36 => r 36 = .int .i64 (ch - fi) | 37 => r 37 = .pointer (some ⟨g, 0, none⟩) | 38 => r 38 = .pointer (some ⟨g, 6, none⟩) | 39 => r 39 = .pointer (some ⟨g, 6, none⟩) | 40 => r 40 = .pointer (some ⟨g, 6 + 1, none⟩) | 42 => r 42 = .pointer (some ⟨g, 0, none⟩) | 43 => r 43 = .pointer (some ⟨g, 6, none⟩) | 44 => r 44 = .pointer (some ⟨g, 6, none⟩) | 45 => r 45 = .pointer (some ⟨g, 6 + 3, none⟩) | _ => True) [(41, fun fl _ w_ => fl 41 = true ∧ (fl 46 = false → Blk w_ g 114 #[.int .i64 le, .int .i64 cy, .int .i64 tu, .int .i64 fi, .int .i64 sa, .bool true, .int .i64 up, .int .i64 ((lo + fi) - ((fi * sa).tdiv 100)), .int .i64 ch, .int .i64 ba, .int .i64 (mv + 1), .int .i64 fr, .int .i64 (t0 : Nat), .int .i64 (t1 : Nat), .int .i64 co])), (46, fun fl _ w_ => fl 46 = true ∧ Blk w_ g 114 #[.int .i64 le, .int .i64 cy, .int .i64 tu, .int .i64 fi, .int .i64 sa, .bool true, .int .i64 up, .int .i64 ((lo + fi) - ((fi * sa).tdiv 100)), .int .i64 ch, .int .i64 (ba + ((fi * sa).tdiv 100)), .int .i64 (mv + 1), .int .i64 fr, .int .i64 (t0 : Nat), .int .i64 (t1 : Nat), .int .i64 co])]) (by kernel_rfl) rfl rfl (by intro i hi; simp at hi; rcases hi with rfl | rfl <;> exact ⟨by simp, by omega⟩) (QAA hq) (ZK (fun _ _ _ _ hb ⟨h1, h2⟩ => ⟨h1, fun h => (h2 h).below hb (h2 h).lt⟩) (ZK (fun _ _ _ _ hb ⟨h1, h2⟩ => ⟨h1, h2.below hb h2.lt⟩) (Zb))) (fun i_ hi_ hs_ => ?_) (fun i_ hi_ => ?_) ?_
  ·match i_, hi_ with
   | 0, _ =>
    intro val fl w1 a hb ha hd hfl;obtain ⟨hgb, hz0_⟩ := hb;have ha := ha.s0 (d := 0) rfl
    exact ZC ha rfl rfl (x_move rfl) rfl rfl
   | 1, _ =>
    intro val fl w1 a hb ha hd hfl;obtain ⟨hgb, hz0_⟩ := hb;have ha := ha.s0 (d := 0) rfl
    exact ZC ha rfl rfl (x_move rfl) rfl rfl
   | 2, _ =>
    intro val fl w1 a hb ha hd hfl;obtain ⟨hgb, hz0_⟩ := hb;have ha := ha.s0 (d := 0) rfl
    exact ZC ha rfl rfl (x_move rfl) rfl rfl
   | 3, _ =>
    intro val fl w1 a hb ha hd hfl;obtain ⟨hgb, hz0_⟩ := hb;have ha := ha.s0 (d := 0) rfl
    exact ZC ha rfl rfl (x_move rfl) rfl rfl
   | 4, _ =>
    intro val fl w1 a hb ha hd hfl;obtain ⟨hgb, hz0_⟩ := hb;have e3 : val 3 = _ := hd 3 (ZA.1 rfl);have ha := ha.s1 (d := 32) rfl e3
    exact ZC ha rfl rfl (ZG rfl) rfl rfl
   | 5, _ =>
    intro val fl w1 a hb ha hd hfl;obtain ⟨hgb, hz0_⟩ := hb;have e4 : val 4 = _ := hd 4 (ZA.1 rfl);have ha := ha.s1 (d := 33) rfl e4
    exact ZC ha rfl rfl (Za rfl) rfl rfl
   | 6, _ =>
    intro val fl w1 a hb ha hd hfl;obtain ⟨hgb, hz0_⟩ := hb;have e5 : val 5 = _ := hd 5 (ZA.1 rfl);have ha := ha.s1 (d := 34) rfl e5
    exact ZC ha rfl rfl (Zi rfl) rfl rfl
   | 7, _ =>
    intro val fl w1 a hb ha hd hfl;obtain ⟨hgb, hz0_⟩ := hb;have e6 : val 6 = _ := hd 6 (ZA.1 rfl);have ha := ha.s1 (d := 35) rfl e6
    exact ZC ha rfl rfl (QAI rfl) rfl rfl
   | 8, _ =>
    intro val fl w1 a hb ha hd hfl;obtain ⟨hgb, hz0_⟩ := hb;have e7 : val 7 = _ := hd 7 (ZA.1 rfl);have ha := ha.s1 (d := 36) rfl e7
    exact ZC ha rfl rfl (ld_3 rfl ((hz0_ (hfl 41 (by simp) (ZA.1 rfl))).at (j := 7) rfl)) rfl rfl
   | 9, _ =>
    intro val fl w1 a hb ha hd hfl;obtain ⟨hgb, hz0_⟩ := hb;have ha := ha.s0 (d := 0) rfl
    exact ZC ha rfl rfl (x_move rfl) rfl rfl
   | 10, _ =>
    intro val fl w1 a hb ha hd hfl;obtain ⟨hgb, hz0_⟩ := hb;have e9 : val 9 = _ := hd 9 (ZA.1 rfl);have ha := ha.s1 (d := 38) rfl e9
    exact ZC ha rfl rfl (ZG rfl) rfl rfl
   | 11, _ =>
    intro val fl w1 a hb ha hd hfl;obtain ⟨hgb, hz0_⟩ := hb;have e10 : val 10 = _ := hd 10 (ZA.1 rfl);have ha := ha.s1 (d := 39) rfl e10
    exact ZC ha rfl rfl (ZY rfl) rfl rfl
   | 12, _ =>
    intro val fl w1 a hb ha hd hfl;obtain ⟨hgb, hz0_⟩ := hb;have e11 : val 11 = _ := hd 11 (ZA.1 rfl);have ha := ha.s1 (d := 40) rfl e11
    exact ZC ha rfl rfl (Yv rfl) rfl rfl
   | 13, _ =>
    intro val fl w1 a hb ha hd hfl;obtain ⟨hgb, hz0_⟩ := hb;have e12 : val 12 = _ := hd 12 (ZA.1 rfl);have ha := ha.s1 (d := 41) rfl e12
    exact ZC ha rfl rfl (ld_3 rfl ((hz0_ (hfl 41 (by simp) (ZA.1 rfl))).at (j := 3) rfl)) rfl rfl
   | 14, _ =>
    intro val fl w1 a hb ha hd hfl;obtain ⟨hgb, hz0_⟩ := hb;have e8 : val 8 = _ := hd 8 (ZA.1 rfl);have e13 : val 13 = _ := hd 13 (ZA.1 rfl);have ha := ha.s2 (d := 42) (e := 37) rfl e13 rfl e8
    exact ZC ha rfl rfl (ZP rfl rfl (by first | assumption | exact IntWalk.i64_in _ ⟨by omega, by omega⟩)) rfl rfl
   | 15, _ =>
    intro val fl w1 a hb ha hd hfl;obtain ⟨hgb, hz0_⟩ := hb;have ha := ha.s0 (d := 2) rfl
    exact ZC ha rfl rfl (x_move rfl) rfl rfl
   | 16, _ =>
    intro val fl w1 a hb ha hd hfl;obtain ⟨hgb, hz0_⟩ := hb;have e14 : val 14 = _ := hd 14 (ZA.1 rfl);have e15 : val 15 = _ := hd 15 (ZA.1 rfl);have ha := ha.s2 (d := 44) (e := 43) rfl e15 rfl e14
    exact ZC ha rfl rfl (Zv rfl rfl (by first | assumption | exact IntWalk.i64_in _ ⟨by omega, by omega⟩)) rfl rfl
   | 17, _ =>
    intro val fl w1 a hb ha hd hfl;obtain ⟨hgb, hz0_⟩ := hb;have ha := ha.s0 (d := 0) rfl
    exact ZC ha rfl rfl (x_move rfl) rfl rfl
   | 18, _ =>
    intro val fl w1 a hb ha hd hfl;obtain ⟨hgb, hz0_⟩ := hb;have e17 : val 17 = _ := hd 17 (ZA.1 rfl);have ha := ha.s1 (d := 46) rfl e17
    exact ZC ha rfl rfl (ZG rfl) rfl rfl
   | 19, _ =>
    intro val fl w1 a hb ha hd hfl;obtain ⟨hgb, hz0_⟩ := hb;have e18 : val 18 = _ := hd 18 (ZA.1 rfl);have ha := ha.s1 (d := 47) rfl e18
    exact ZC ha rfl rfl (Za rfl) rfl rfl
   | 20, _ =>
    intro val fl w1 a hb ha hd hfl;obtain ⟨hgb, hz0_⟩ := hb;have e19 : val 19 = _ := hd 19 (ZA.1 rfl);have ha := ha.s1 (d := 48) rfl e19
    exact ZC ha rfl rfl (Zi rfl) rfl rfl
   | 21, _ =>
    intro val fl w1 a hb ha hd hfl;obtain ⟨hgb, hz0_⟩ := hb;have e20 : val 20 = _ := hd 20 (ZA.1 rfl);have ha := ha.s1 (d := 49) rfl e20
    exact ZC ha rfl rfl (QA3 rfl) rfl rfl
   | 22, _ =>
    intro val fl w1 a hb ha hd hfl;obtain ⟨hgb, hz0_⟩ := hb;have e21 : val 21 = _ := hd 21 (ZA.1 rfl);have ha := ha.s1 (d := 50) rfl e21
    exact ZC ha rfl rfl (ld_3 rfl ((hz0_ (hfl 41 (by simp) (ZA.1 rfl))).at (j := 9) rfl)) rfl rfl
   | 23, _ =>
    intro val fl w1 a hb ha hd hfl;obtain ⟨hgb, hz0_⟩ := hb;have ha := ha.s0 (d := 2) rfl
    exact ZC ha rfl rfl (x_move rfl) rfl rfl
   | 24, _ =>
    intro val fl w1 a hb ha hd hfl;obtain ⟨hgb, hz0_⟩ := hb;have e22 : val 22 = _ := hd 22 (ZA.1 rfl);have e23 : val 23 = _ := hd 23 (ZA.1 rfl);have ha := ha.s2 (d := 52) (e := 51) rfl e23 rfl e22
    exact ZC ha rfl rfl (ZP rfl rfl (by first | assumption | exact IntWalk.i64_in _ ⟨by omega, by omega⟩)) rfl rfl
   | 25, _ =>
    intro val fl w1 a hb ha hd hfl;obtain ⟨hgb, hz0_⟩ := hb;have ha := ha.s0 (d := 0) rfl
    exact ZC ha rfl rfl (x_move rfl) rfl rfl
   | 26, _ =>
    intro val fl w1 a hb ha hd hfl;obtain ⟨hgb, hz0_⟩ := hb;have e25 : val 25 = _ := hd 25 (ZA.1 rfl);have ha := ha.s1 (d := 54) rfl e25
    exact ZC ha rfl rfl (ZG rfl) rfl rfl
   | 27, _ =>
    intro val fl w1 a hb ha hd hfl;obtain ⟨hgb, hz0_⟩ := hb;have e26 : val 26 = _ := hd 26 (ZA.1 rfl);have ha := ha.s1 (d := 55) rfl e26
    exact ZC ha rfl rfl (Za rfl) rfl rfl
   | 28, _ =>
    intro val fl w1 a hb ha hd hfl;obtain ⟨hgb, hz0_⟩ := hb;have e27 : val 27 = _ := hd 27 (ZA.1 rfl);have ha := ha.s1 (d := 56) rfl e27
    exact ZC ha rfl rfl (Zi rfl) rfl rfl
   | 29, _ =>
    intro val fl w1 a hb ha hd hfl;obtain ⟨hgb, hz0_⟩ := hb;have e28 : val 28 = _ := hd 28 (ZA.1 rfl);have ha := ha.s1 (d := 57) rfl e28
    exact ZC ha rfl rfl (QA4 rfl) rfl rfl
   | 30, _ =>
    intro val fl w1 a hb ha hd hfl;obtain ⟨hgb, hz0_⟩ := hb;have e29 : val 29 = _ := hd 29 (ZA.1 rfl);have ha := ha.s1 (d := 58) rfl e29
    exact ZC ha rfl rfl (ld_3 rfl ((hz0_ (hfl 41 (by simp) (ZA.1 rfl))).at (j := 8) rfl)) rfl rfl
   | 31, _ =>
    intro val fl w1 a hb ha hd hfl;obtain ⟨hgb, hz0_⟩ := hb;have ha := ha.s0 (d := 0) rfl
    exact ZC ha rfl rfl (x_move rfl) rfl rfl
   | 32, _ =>
    intro val fl w1 a hb ha hd hfl;obtain ⟨hgb, hz0_⟩ := hb;have e31 : val 31 = _ := hd 31 (ZA.1 rfl);have ha := ha.s1 (d := 60) rfl e31
    exact ZC ha rfl rfl (ZG rfl) rfl rfl
   | 33, _ =>
    intro val fl w1 a hb ha hd hfl;obtain ⟨hgb, hz0_⟩ := hb;have e32 : val 32 = _ := hd 32 (ZA.1 rfl);have ha := ha.s1 (d := 61) rfl e32
    exact ZC ha rfl rfl (ZY rfl) rfl rfl
   | 34, _ =>
    intro val fl w1 a hb ha hd hfl;obtain ⟨hgb, hz0_⟩ := hb;have e33 : val 33 = _ := hd 33 (ZA.1 rfl);have ha := ha.s1 (d := 62) rfl e33
    exact ZC ha rfl rfl (Yv rfl) rfl rfl
   | 35, _ =>
    intro val fl w1 a hb ha hd hfl;obtain ⟨hgb, hz0_⟩ := hb;have e34 : val 34 = _ := hd 34 (ZA.1 rfl);have ha := ha.s1 (d := 63) rfl e34
    exact ZC ha rfl rfl (ld_3 rfl ((hz0_ (hfl 41 (by simp) (ZA.1 rfl))).at (j := 3) rfl)) rfl rfl
   | 36, _ =>
    intro val fl w1 a hb ha hd hfl;obtain ⟨hgb, hz0_⟩ := hb;have e30 : val 30 = _ := hd 30 (ZA.1 rfl);have e35 : val 35 = _ := hd 35 (ZA.1 rfl);have ha := ha.s2 (d := 64) (e := 59) rfl e35 rfl e30
    exact ZC ha rfl rfl (Zv rfl rfl (by first | assumption | exact IntWalk.i64_in _ ⟨by omega, by omega⟩)) rfl rfl
   | 37, _ =>
    intro val fl w1 a hb ha hd hfl;obtain ⟨hgb, hz0_⟩ := hb;have e0 : val 0 = _ := hd 0 (ZA.1 rfl);have ha := ha.s1 (d := 29) rfl e0
    exact ZC ha rfl rfl (ZG rfl) rfl rfl
   | 38, _ =>
    intro val fl w1 a hb ha hd hfl;obtain ⟨hgb, hz0_⟩ := hb;have e37 : val 37 = _ := hd 37 (ZA.1 rfl);have ha := ha.s1 (d := 66) rfl e37
    exact ZC ha rfl rfl (Za rfl) rfl rfl
   | 39, _ =>
    intro val fl w1 a hb ha hd hfl;obtain ⟨hgb, hz0_⟩ := hb;have e38 : val 38 = _ := hd 38 (ZA.1 rfl);have ha := ha.s1 (d := 67) rfl e38
    exact ZC ha rfl rfl (Zi rfl) rfl rfl
   | 40, _ =>
    intro val fl w1 a hb ha hd hfl;obtain ⟨hgb, hz0_⟩ := hb;have e39 : val 39 = _ := hd 39 (ZA.1 rfl);have ha := ha.s1 (d := 68) rfl e39
    exact ZC ha rfl rfl (QAI rfl) rfl rfl
   | 41, _ =>
    exact absurd (by simp) hs_
   | 42, _ =>
    intro val fl w1 a hb ha hd hfl;obtain ⟨hgb, hz0_⟩ := hb;have e1 : val 1 = _ := hd 1 (ZA.1 rfl);have ha := ha.s1 (d := 30) rfl e1
    exact ZC ha rfl rfl (ZG rfl) rfl rfl
   | 43, _ =>
    intro val fl w1 a hb ha hd hfl;obtain ⟨hgb, hz0_⟩ := hb;have e42 : val 42 = _ := hd 42 (ZA.1 rfl);have ha := ha.s1 (d := 70) rfl e42
    exact ZC ha rfl rfl (Za rfl) rfl rfl
   | 44, _ =>
    intro val fl w1 a hb ha hd hfl;obtain ⟨hgb, hz0_⟩ := hb;have e43 : val 43 = _ := hd 43 (ZA.1 rfl);have ha := ha.s1 (d := 71) rfl e43
    exact ZC ha rfl rfl (Zi rfl) rfl rfl
   | 45, _ =>
    intro val fl w1 a hb ha hd hfl;obtain ⟨hgb, hz0_⟩ := hb;have e44 : val 44 = _ := hd 44 (ZA.1 rfl);have ha := ha.s1 (d := 72) rfl e44
    exact ZC ha rfl rfl (QA3 rfl) rfl rfl
   | 46, _ =>
    exact absurd (by simp) hs_
   | k + 47, h => exact absurd h (by omega)
  ·simp only [List.mem_cons, List.not_mem_nil, or_false] at hi_
   rcases hi_ with rfl | rfl
   ·
    intro val fl w1 a hb hfi ha hd hfl;obtain ⟨hgb, hz0_⟩ := hb;have e40 : val 40 = _ := hd 40 (ZA.1 rfl);have e16 : val 16 = _ := hd 16 (ZA.1 rfl);have ha := ha.s2 (d := 45) (e := 69) rfl e16 rfl e40;refine Zc ha rfl rfl rfl (hz0_ hfi) sz_3 rfl rfl rfl rfl ?_;intro w' hq hgr;refine ⟨undef, rfl, hgr.size, ⟨Z3 hgb hgr, fun h => by rw [ZQ] at h; cases h⟩, ⟨ZQ, fun _ => hq⟩, fun j _ hj hn hA => ?_⟩
    exact ZF (C := fun j => j ≠ 41 ∧ 41 ∉ clsAt [[], [], [], [], [3], [3, 4], [3, 4, 5], [3, 4, 5, 6], [3, 4, 5, 6, 7], [], [9], [9, 10], [9, 10, 11], [9, 10, 11, 12], [3, 4, 5, 6, 7, 8, 9, 10, 11, 12, 13], [], [3, 4, 5, 6, 7, 8, 9, 10, 11, 12, 13, 14, 15], [], [17], [17, 18], [17, 18, 19], [17, 18, 19, 20], [17, 18, 19, 20, 21], [], [17, 18, 19, 20, 21, 22, 23], [], [25], [25, 26], [25, 26, 27], [25, 26, 27, 28], [25, 26, 27, 28, 29], [], [31], [31, 32], [31, 32, 33], [31, 32, 33, 34], [25, 26, 27, 28, 29, 30, 31, 32, 33, 34, 35], [0, 3, 4, 5, 6, 7, 8, 9, 10, 11, 12, 13, 14, 15, 16, 17, 18, 19, 20, 21, 22, 25, 26, 27, 28, 29, 30, 31, 32, 33, 34, 35], [0, 3, 4, 5, 6, 7, 8, 9, 10, 11, 12, 13, 14, 15, 16, 17, 18, 19, 20, 21, 22, 25, 26, 27, 28, 29, 30, 31, 32, 33, 34, 35, 37], [0, 3, 4, 5, 6, 7, 8, 9, 10, 11, 12, 13, 14, 15, 16, 17, 18, 19, 20, 21, 22, 25, 26, 27, 28, 29, 30, 31, 32, 33, 34, 35, 37, 38], [0, 3, 4, 5, 6, 7, 8, 9, 10, 11, 12, 13, 14, 15, 16, 17, 18, 19, 20, 21, 22, 25, 26, 27, 28, 29, 30, 31, 32, 33, 34, 35, 37, 38, 39], [0, 3, 4, 5, 6, 7, 8, 9, 10, 11, 12, 13, 14, 15, 16, 17, 18, 19, 20, 21, 22, 25, 26, 27, 28, 29, 30, 31, 32, 33, 34, 35, 37, 38, 39, 40], [0, 1, 3, 4, 5, 6, 7, 8, 9, 10, 11, 12, 13, 14, 15, 16, 17, 18, 19, 20, 21, 22, 23, 24, 25, 26, 27, 28, 29, 30, 31, 32, 33, 34, 35, 37, 38, 39, 40, 41], [0, 1, 3, 4, 5, 6, 7, 8, 9, 10, 11, 12, 13, 14, 15, 16, 17, 18, 19, 20, 21, 22, 23, 24, 25, 26, 27, 28, 29, 30, 31, 32, 33, 34, 35, 37, 38, 39, 40, 41, 42], [0, 1, 3, 4, 5, 6, 7, 8, 9, 10, 11, 12, 13, 14, 15, 16, 17, 18, 19, 20, 21, 22, 23, 24, 25, 26, 27, 28, 29, 30, 31, 32, 33, 34, 35, 37, 38, 39, 40, 41, 42, 43], [0, 1, 3, 4, 5, 6, 7, 8, 9, 10, 11, 12, 13, 14, 15, 16, 17, 18, 19, 20, 21, 22, 23, 24, 25, 26, 27, 28, 29, 30, 31, 32, 33, 34, 35, 37, 38, 39, 40, 41, 42, 43, 44], [0, 1, 3, 4, 5, 6, 7, 8, 9, 10, 11, 12, 13, 14, 15, 16, 17, 18, 19, 20, 21, 22, 23, 24, 25, 26, 27, 28, 29, 30, 31, 32, 33, 34, 35, 37, 38, 39, 40, 41, 42, 43, 44, 45], [0, 1, 2, 3, 4, 5, 6, 7, 8, 9, 10, 11, 12, 13, 14, 15, 16, 17, 18, 19, 20, 21, 22, 23, 24, 25, 26, 27, 28, 29, 30, 31, 32, 33, 34, 35, 36, 37, 38, 39, 40, 41, 42, 43, 44, 45, 46], [0, 1, 2, 3, 4, 5, 6, 7, 8, 9, 10, 11, 12, 13, 14, 15, 16, 17, 18, 19, 20, 21, 22, 23, 24, 25, 26, 27, 28, 29, 30, 31, 32, 33, 34, 35, 36, 37, 38, 39, 40, 41, 42, 43, 44, 45, 46, 47], [0, 1, 2, 3, 4, 5, 6, 7, 8, 9, 10, 11, 12, 13, 14, 15, 16, 17, 18, 19, 20, 21, 22, 23, 24, 25, 26, 27, 28, 29, 30, 31, 32, 33, 34, 35, 36, 37, 38, 39, 40, 41, 42, 43, 44, 45, 46, 47, 48], [0, 1, 2, 3, 4, 5, 6, 7, 8, 9, 10, 11, 12, 13, 14, 15, 16, 17, 18, 19, 20, 21, 22, 23, 24, 25, 26, 27, 28, 29, 30, 31, 32, 33, 34, 35, 36, 37, 38, 39, 40, 41, 42, 43, 44, 45, 46, 47, 48, 49], [0, 1, 2, 3, 4, 5, 6, 7, 8, 9, 10, 11, 12, 13, 14, 15, 16, 17, 18, 19, 20, 21, 22, 23, 24, 25, 26, 27, 28, 29, 30, 31, 32, 33, 34, 35, 36, 37, 38, 39, 40, 41, 42, 43, 44, 45, 46, 47, 48, 49, 50]] j) (fun hc => absurd rfl hc.1) (ZF (fun hc => absurd (ZA.1 rfl) hc.2) (fun _ _ h => h)) j ⟨hj, hn⟩
   ·
    intro val fl w1 a hb hfi ha hd hfl;obtain ⟨hgb, hz0_⟩ := hb;have e45 : val 45 = _ := hd 45 (ZA.1 rfl);have e24 : val 24 = _ := hd 24 (ZA.1 rfl);have ha := ha.s2 (d := 53) (e := 73) rfl e24 rfl e45;obtain ⟨ht0_, hp0_⟩ := hd 41 (ZA.1 rfl);refine Zc ha rfl rfl rfl (hp0_ hfi) sz_3 rfl rfl rfl rfl ?_;intro w' hq hgr;refine ⟨undef, rfl, hgr.size, ⟨Z3 hgb hgr, fun h => by rw [Z4 rfl, ht0_] at h; cases h⟩, ⟨ZQ, hq⟩, fun j _ hj hn hA => ?_⟩
    exact ZF (C := fun j => j ≠ 46 ∧ 46 ∉ clsAt [[], [], [], [], [3], [3, 4], [3, 4, 5], [3, 4, 5, 6], [3, 4, 5, 6, 7], [], [9], [9, 10], [9, 10, 11], [9, 10, 11, 12], [3, 4, 5, 6, 7, 8, 9, 10, 11, 12, 13], [], [3, 4, 5, 6, 7, 8, 9, 10, 11, 12, 13, 14, 15], [], [17], [17, 18], [17, 18, 19], [17, 18, 19, 20], [17, 18, 19, 20, 21], [], [17, 18, 19, 20, 21, 22, 23], [], [25], [25, 26], [25, 26, 27], [25, 26, 27, 28], [25, 26, 27, 28, 29], [], [31], [31, 32], [31, 32, 33], [31, 32, 33, 34], [25, 26, 27, 28, 29, 30, 31, 32, 33, 34, 35], [0, 3, 4, 5, 6, 7, 8, 9, 10, 11, 12, 13, 14, 15, 16, 17, 18, 19, 20, 21, 22, 25, 26, 27, 28, 29, 30, 31, 32, 33, 34, 35], [0, 3, 4, 5, 6, 7, 8, 9, 10, 11, 12, 13, 14, 15, 16, 17, 18, 19, 20, 21, 22, 25, 26, 27, 28, 29, 30, 31, 32, 33, 34, 35, 37], [0, 3, 4, 5, 6, 7, 8, 9, 10, 11, 12, 13, 14, 15, 16, 17, 18, 19, 20, 21, 22, 25, 26, 27, 28, 29, 30, 31, 32, 33, 34, 35, 37, 38], [0, 3, 4, 5, 6, 7, 8, 9, 10, 11, 12, 13, 14, 15, 16, 17, 18, 19, 20, 21, 22, 25, 26, 27, 28, 29, 30, 31, 32, 33, 34, 35, 37, 38, 39], [0, 3, 4, 5, 6, 7, 8, 9, 10, 11, 12, 13, 14, 15, 16, 17, 18, 19, 20, 21, 22, 25, 26, 27, 28, 29, 30, 31, 32, 33, 34, 35, 37, 38, 39, 40], [0, 1, 3, 4, 5, 6, 7, 8, 9, 10, 11, 12, 13, 14, 15, 16, 17, 18, 19, 20, 21, 22, 23, 24, 25, 26, 27, 28, 29, 30, 31, 32, 33, 34, 35, 37, 38, 39, 40, 41], [0, 1, 3, 4, 5, 6, 7, 8, 9, 10, 11, 12, 13, 14, 15, 16, 17, 18, 19, 20, 21, 22, 23, 24, 25, 26, 27, 28, 29, 30, 31, 32, 33, 34, 35, 37, 38, 39, 40, 41, 42], [0, 1, 3, 4, 5, 6, 7, 8, 9, 10, 11, 12, 13, 14, 15, 16, 17, 18, 19, 20, 21, 22, 23, 24, 25, 26, 27, 28, 29, 30, 31, 32, 33, 34, 35, 37, 38, 39, 40, 41, 42, 43], [0, 1, 3, 4, 5, 6, 7, 8, 9, 10, 11, 12, 13, 14, 15, 16, 17, 18, 19, 20, 21, 22, 23, 24, 25, 26, 27, 28, 29, 30, 31, 32, 33, 34, 35, 37, 38, 39, 40, 41, 42, 43, 44], [0, 1, 3, 4, 5, 6, 7, 8, 9, 10, 11, 12, 13, 14, 15, 16, 17, 18, 19, 20, 21, 22, 23, 24, 25, 26, 27, 28, 29, 30, 31, 32, 33, 34, 35, 37, 38, 39, 40, 41, 42, 43, 44, 45], [0, 1, 2, 3, 4, 5, 6, 7, 8, 9, 10, 11, 12, 13, 14, 15, 16, 17, 18, 19, 20, 21, 22, 23, 24, 25, 26, 27, 28, 29, 30, 31, 32, 33, 34, 35, 36, 37, 38, 39, 40, 41, 42, 43, 44, 45, 46], [0, 1, 2, 3, 4, 5, 6, 7, 8, 9, 10, 11, 12, 13, 14, 15, 16, 17, 18, 19, 20, 21, 22, 23, 24, 25, 26, 27, 28, 29, 30, 31, 32, 33, 34, 35, 36, 37, 38, 39, 40, 41, 42, 43, 44, 45, 46, 47], [0, 1, 2, 3, 4, 5, 6, 7, 8, 9, 10, 11, 12, 13, 14, 15, 16, 17, 18, 19, 20, 21, 22, 23, 24, 25, 26, 27, 28, 29, 30, 31, 32, 33, 34, 35, 36, 37, 38, 39, 40, 41, 42, 43, 44, 45, 46, 47, 48], [0, 1, 2, 3, 4, 5, 6, 7, 8, 9, 10, 11, 12, 13, 14, 15, 16, 17, 18, 19, 20, 21, 22, 23, 24, 25, 26, 27, 28, 29, 30, 31, 32, 33, 34, 35, 36, 37, 38, 39, 40, 41, 42, 43, 44, 45, 46, 47, 48, 49], [0, 1, 2, 3, 4, 5, 6, 7, 8, 9, 10, 11, 12, 13, 14, 15, 16, 17, 18, 19, 20, 21, 22, 23, 24, 25, 26, 27, 28, 29, 30, 31, 32, 33, 34, 35, 36, 37, 38, 39, 40, 41, 42, 43, 44, 45, 46, 47, 48, 49, 50]] j) (fun _ ⟨h1, _⟩ => ⟨by rw [Z4 rfl]; exact h1, fun h => by rw [ZQ] at h; cases h⟩) (ZF (fun hc => absurd rfl hc.1) (fun _ _ h => h)) j ⟨hj, hn⟩
  ·intro val fl wR3 hfl hb halc hd
   obtain ⟨hgb, _⟩ := hb;have hz_ := (hd 46 (by omega)).2
   change Blk wR3 g 114 #[.int .i64 le, .int .i64 cy, .int .i64 tu, .int .i64 fi, .int .i64 sa, .bool true, .int .i64 up, .int .i64 ((lo + fi) - ((fi * sa).tdiv 100)), .int .i64 ch, .int .i64 (ba + ((fi * sa).tdiv 100)), .int .i64 (mv + 1), .int .i64 fr, .int .i64 (t0 : Nat), .int .i64 (t1 : Nat), .int .i64 co] at hz_;have e0 : val 0 = _ := hd 0 (by omega)
   have e1 : val 1 = _ := hd 1 (by omega)
   have e2 : val 2 = _ := hd 2 (by omega)
   have e3 : val 3 = _ := hd 3 (by omega)
   have e4 : val 4 = _ := hd 4 (by omega)
   have e5 : val 5 = _ := hd 5 (by omega)
   have e6 : val 6 = _ := hd 6 (by omega)
   have e7 : val 7 = _ := hd 7 (by omega)
   have e8 : val 8 = _ := hd 8 (by omega)
   have e9 : val 9 = _ := hd 9 (by omega)
   have e10 : val 10 = _ := hd 10 (by omega)
   have e11 : val 11 = _ := hd 11 (by omega)
   have e12 : val 12 = _ := hd 12 (by omega)
   have e13 : val 13 = _ := hd 13 (by omega)
   have e14 : val 14 = _ := hd 14 (by omega)
   have e15 : val 15 = _ := hd 15 (by omega)
   have e16 : val 16 = _ := hd 16 (by omega)
   have e17 : val 17 = _ := hd 17 (by omega)
   have e18 : val 18 = _ := hd 18 (by omega)
   have e19 : val 19 = _ := hd 19 (by omega)
   have e20 : val 20 = _ := hd 20 (by omega)
   have e21 : val 21 = _ := hd 21 (by omega)
   have e22 : val 22 = _ := hd 22 (by omega)
   have e23 : val 23 = _ := hd 23 (by omega)
   have e24 : val 24 = _ := hd 24 (by omega)
   have e25 : val 25 = _ := hd 25 (by omega)
   have e26 : val 26 = _ := hd 26 (by omega)
   have e27 : val 27 = _ := hd 27 (by omega)
   have e28 : val 28 = _ := hd 28 (by omega)
   have e29 : val 29 = _ := hd 29 (by omega)
   have e30 : val 30 = _ := hd 30 (by omega)
   have e31 : val 31 = _ := hd 31 (by omega)
   have e32 : val 32 = _ := hd 32 (by omega)
   have e33 : val 33 = _ := hd 33 (by omega)
   have e34 : val 34 = _ := hd 34 (by omega)
   have e35 : val 35 = _ := hd 35 (by omega)
   have e36 : val 36 = _ := hd 36 (by omega)
   have e37 : val 37 = _ := hd 37 (by omega)
   have e38 : val 38 = _ := hd 38 (by omega)
   have e39 : val 39 = _ := hd 39 (by omega)
   have e40 : val 40 = _ := hd 40 (by omega)
   have e42 : val 42 = _ := hd 42 (by omega)
   have e43 : val 43 = _ := hd 43 (by omega)
   have e44 : val 44 = _ := hd 44 (by omega)
   have e45 : val 45 = _ := hd 45 (by omega)
   refine EL.ends (cs := [_, _, _, _, _, _, _, _, _, _, _, _, _, _, _, _, _, _, _, _, _, _, _, _, _, _, _, _, _, _, _, _, _, _, _, _, _, _, _, _, _, val 41, _, _, _, _, val 46]) ⟨e0, e1, e2, e3, e4, e5, e6, e7, e8, e9, e10, e11, e12, e13, e14, e15, e16, e17, e18, e19, e20, e21, e22, e23, e24, e25, e26, e27, e28, e29, e30, e31, e32, e33, e34, e35, e36, e37, e38, e39, e40, rfl, e42, e43, e44, e45, rfl, trivial⟩ rfl ?_;replace hgr := Zg hgr hgb;replace hq := hz_;clear hgb hz_;refine EL.val (ZG rfl) rfl (EL.val (Za rfl) rfl (EL.val (Zi rfl) rfl (EL.val (QA4 rfl) rfl (EL.store rfl rfl hq sz_3 rfl rfl rfl rfl ?_))));intro w5 hq5 hg5;replace hgr := Zg hgr hg5;replace hq := hq5;clear hg5 hq5;refine EL.nil (EX.seq (EC.region (EL.mv rfl rfl (EL.mv rfl rfl (EL.val (ZG rfl) rfl (EL.val (ZY rfl) rfl (EL.val (QA5 rfl) rfl (EL.val (ld_4 rfl (hq.at (j := 5) rfl)) rfl (EL.val (ZT rfl) rfl ?_)))))))));refine EL.val (ZG rfl) rfl (EL.val (ZY rfl) rfl (EL.val (QA5 rfl) rfl (EL.store rfl rfl hq sz_4 rfl rfl rfl rfl ?_)));intro w6 hq6 hg6;replace hgr := Zg hgr hg6;replace hq := hq6;clear hg6 hq6;refine EL.nil ?_
   exact EX.done' (res0 rfl) ⟨rfl, hq, hgr⟩
theorem QFT {w : World} {g T base : Nat} (size : Nat) (h : Blk w g T #[]) (hb : base ≤ g) : w.ownsRow base T size (.slice (some ⟨g, 0, none⟩) 0 0) 0 [] :=
 ⟨by simp, .inr ⟨g, 0, #[], rfl, hb, h, Nat.le_refl _, Nat.zero_le _, by simp, by simp⟩⟩
section
variable {P : Program} {w : World}
theorem QGo {t e : TypeId} {size bytes base B m ty g : Nat} (E : Elem P t e size bytes) {src : Value} {news : List Value} (hq : Blk w g e #[]) (hg : base ≤ g) (hr : Rd w B size src m news) (h1 : ∀ u ∈ news, u.oneCell' = true) (hm : m ≤ 1048576) (hby : bytes ≤ 1048576) (hbase : base ≤ w.heap.size) :
  ∃ v' w', (Builtin.append_ #[t, t] ty #[.slice (some ⟨g, 0, none⟩) 0 0, src]).run P w = .ok v' w' ∧ w'.ownsRow base e size v' m news ∧ Below w.heap.size w w' := by
 have hown := QFT (base := base) size hq hg;obtain ⟨v', w', h2, h3, h4, h5, _⟩ := QBr (ty := ty) E hown hr h1 (by omega) hby hbase
 rw [Nat.zero_add, List.nil_append] at h3;refine ⟨v', w', h2, h3, ?_⟩;have key : w'.heap[g]? = w.heap[g]? := by
  obtain ⟨i, z, hi, hz, hsize, hb, hzs⟩ := E.hi;obtain ⟨hl, A, c, rfl, hnc, hr⟩ := hr
  rcases Nat.eq_zero_or_pos m with hm0 | hm0
  ·subst hm0
   have hn : news = [] := List.eq_nil_of_length_eq_zero (by simpa using hl)
   subst hn
   rcases A with _ | ad
   ·have h6 := Y6 (P := P) w base t ty e i size E.ht hi _ 0 [] hown c
    rw [h2] at h6
    injection h6 with _ h6
    rw [h6]
   ·have h6 := run_append_room (P := P) w t ty e i E.ht hi g 0 0 #[] hq ad 0 c [] (by simp) (by simp) (by simp) (by simp) (by simp)
    rw [h2] at h6
    injection h6 with _ h6
    have h7 := QAk (ds := (List.take (0 * i.size) (#[] : Array Value).toList ++ [] ++ List.drop (0 * i.size + ([] : List Value).length) (#[] : Array Value).toList).toArray) hq;rw [← h6] at h7
    unfold Blk at h7 hq
    rw [h7, hq]
    simp
  ·obtain ⟨b, off, rfl, _, hc⟩ := hr hm0
   have hmul : m * i.bytes ≤ 1048576 * i.bytes := Nat.mul_le_mul_right _ hm;have h6 := run_append_grow (P := P) w t ty e i z E.ht hi hz ⟨g, 0, none⟩ 0 0 [] (by simp) (by simp) ⟨b, off, none⟩ m c news (by rw [hsize]; exact hl) (fun j u hu => by rw [Addr.add_lit]; exact hc j u hu) (by omega) (by omega) (by rw [Nat.zero_add, nextslicecap_zero hm0]; omega)
   rw [h2] at h6
   injection h6 with _ h6
   rw [h6];have hlt := hq.lt
   simp only [World.alloc, World.drew]
   rw [Array.getElem?_push_lt hlt, Array.getElem?_eq_getElem hlt]
 exact ⟨h4.os, h4.tape, h4.output, h4.size, fun k hk => by
  by_cases e : k = g
  ·subst e; exact key
  ·exact h4.block k hk (fun h => e (by simpa [Value.ownBlock] using h))⟩
end
section
variable {P : Program} {n : Nat} {σ : Sg} {L : List Oper} {cls : List (List Nat)} {alc : List Nat} {val : Nat → Value} {a : Act} {w1 : World} {i : Nat} {Q : Exit → Act → World → Prop}
theorem QIS {fl : Nat → Bool} {Φ : Nat → (Nat → Bool) → (Nat → Value) → World → Prop} {d ty t e size bytes base B mm g : Nat} {s x : Operand} {pos : String} {af : Array Edge} (E : Elem P t e size bytes) {src : Value} {news : List Value} (ha : Env n σ a) (ho : nthO L i = some ⟨some d, .call { callee := .builtin .append, args := #[s, x], argTypes := #[t, t] }, ty, pos, af, none⟩) (hs : evS σ s = some (.slice (some ⟨g, 0, none⟩) 0 0)) (hx : evS σ x = some src)
  (hq : Blk w1 g e #[]) (hg : base ≤ g) (hr : Rd w1 B size src mm news) (h1 : ∀ u ∈ news, u.oneCell' = true) (hm : mm ≤ 1048576) (hby : Nat.ble bytes 1048576 = true) (hbase : base ≤ w1.heap.size) (halc : memB alc i = false)
  (hΦ : ∀ v' w', w'.ownsRow base e size v' mm news → Φ i fl (res (upd val i v') i (clsAt cls i)) w') : wpOp P L.toArray Q i (SK fl L cls alc Φ i val a w1) a w1 := by
 obtain ⟨v', w', h2, h3, h4⟩ := QGo (P := P) (ty := ty) E hq hg hr h1 hm (by simpa [Nat.ble_eq] using hby) hbase
 exact QFx ho rfl (Z6 rfl (ha.eval hs) (ha.eval hx) h2) h4 (hΦ v' w' h3) fun h => by rw [ZA.2 h] at halc; cases halc
end
/-- a world of which some blocks are turned -/
structure Touch (w w1 : World) (gs : List Nat) : Prop where
 os : w1.os = w.os
 tape : w1.tape = w.tape
 output : w1.output = w.output
 size : w.heap.size ≤ w1.heap.size
 block : ∀ k, k < w.heap.size → k ∉ gs → w1.heap[k]? = w.heap[k]?
section
variable {w w1 w2 : World} {gs : List Nat} {g T : Nat} {cs : Array Value}
theorem Touch.start (w : World) (gs : List Nat) : Touch w { w with drawn := w.drawn + 1 } gs := ⟨rfl, rfl, rfl, Nat.le_refl _, fun _ _ _ => rfl⟩
theorem Touch.below (h : Touch w w1 gs) (hb : Below w1.heap.size w1 w2) : Touch w w2 gs :=
 ⟨hb.os.trans h.os, hb.tape.trans h.tape, hb.output.trans h.output, Nat.le_trans h.size hb.size, fun k hk hn => (hb.block k (Nat.lt_of_lt_of_le hk h.size)).trans (h.block k hk hn)⟩
theorem Touch.grown (h : Touch w w1 gs) (hg : w1.grownBy w2 (some g)) (hm : g ∈ gs) : Touch w w2 gs :=
 ⟨hg.os.trans h.os, hg.tape.trans h.tape, hg.output.trans h.output, Nat.le_trans h.size hg.size, fun k hk hn => (hg.block k (Nat.lt_of_lt_of_le hk h.size) (fun e => hn (by injection e with e; rw [e]; exact hm))).trans (h.block k hk hn)⟩
theorem Touch.anchor (h : Touch w w1 gs) {w0 : World} (ha : Below w0.heap.size w0 w) (hle : ∀ g ∈ gs, w0.heap.size ≤ g) : Below w0.heap.size w0 w1 :=
 ⟨h.os.trans ha.os, h.tape.trans ha.tape, h.output.trans ha.output, Nat.le_trans ha.size h.size, fun k hk => (h.block k (Nat.lt_of_lt_of_le hk ha.size) (fun hm => by have := hle k hm; omega)).trans (ha.block k hk)⟩
theorem Blk.touch (hq : Blk w g T cs) (h : Touch w w1 gs) (hn : g ∉ gs) : Blk w1 g T cs := (h.block g hq.lt hn).trans hq
end
/-- the block that a pointer or a slice points to -/
def blk0 : Value → Option Nat
 | .pointer (some a) => some a.block
 | .slice (some a) _ _ => some a.block
 | _ => none
section
variable {P : Program} {n : Nat} {σ : Sg} {w : World} {Q : Exit → Act → World → Prop} {L : List Oper}
/-- when some of the head have come up -/
structure HInvA (n : Nat) (L : List Oper) (cls : List (List Nat)) (m : Nat) (alc : List Nat) (σ : Sg) (w : World) (Φ : Nat → (Nat → Value) → World → Prop) (D : Array Bool) (val : Nat → Value) (a : Act) (w' : World) : Prop where
 below : Below w.heap.size w w'
 size : a.tmps.size = n
 defers : a.defers = []
 new : ∀ i d, i < m → D.getD i false = true → ZV L i = some d → a.tmps[d]? = some (val i)
 old : ∀ t v, σ t = some v → (∀ k, k < m → D.getD k false = true → ZV L k ≠ some t) → a.tmps[t]? = some v
 says : ∀ i, i < m → D.getD i false = true → Φ i (res val i (clsAt cls i)) w'
 down : ∀ i, D.getD i false = true → ∀ j ∈ clsAt cls i, D.getD j false = true
 alc1 : ∀ i ∈ alc, i < m → D.getD i false = true → ∃ g, blk0 (val i) = some g ∧ w.heap.size ≤ g ∧ g < w'.heap.size
 alc2 : ∀ i ∈ alc, ∀ j ∈ alc, i < m → j < m → D.getD i false = true → D.getD j false = true → i ≠ j → blk0 (val i) ≠ blk0 (val j)
 high : ∀ i, m ≤ i → D.getD i false = false
end
section
variable {P : Program} {n : Nat} {σ : Sg} {w : World} {L : List Oper} {cls : List (List Nat)} {alc : List Nat} {val : Nat → Value} {a : Act} {w1 : World} {i m : Nat} {Q : Exit → Act → World → Prop} {Φ : Nat → (Nat → Value) → World → Prop}
end
/-- l lies in ls from offset o on -/
def PartAt (ls : List Value) (o : Nat) (l : List Value) : Prop := ∀ j v, l[j]? = some v → ls[o + j]? = some v
theorem PartAt.first {a b : List Value} : PartAt (a ++ b) 0 a := fun j v hv => by
 have hj : j < a.length := (List.getElem?_eq_some_iff.1 hv).1;rw [Nat.zero_add, List.getElem?_append_left hj]
 exact hv
theorem PartAt.sub {ls l m : List Value} {o k : Nat} (h : PartAt ls o l) (h2 : PartAt l k m) : PartAt ls (o + k) m := fun j v hv => by
 rw [Nat.add_assoc]
 exact h _ _ (h2 j v hv)
theorem PartAt.at_ {ls l : List Value} {o j : Nat} {v : Value} (h : PartAt ls o l) (hv : l[j]? = some v) : ls[o + j]? = some v := h j v hv
theorem PartAt.take_drop {ls l : List Value} {o : Nat} (h : PartAt ls o l) (hl : o + l.length ≤ ls.length) : (ls.drop o).take l.length = l := by
 apply List.ext_getElem?
 intro j;rw [List.getElem?_take]
 split
 ·rename_i hj
  rw [List.getElem?_drop, h j _ (List.getElem?_eq_getElem hj), List.getElem?_eq_getElem hj]
 ·rename_i hj
  rw [List.getElem?_eq_none (by omega)]
theorem PartAt.extract {ls l : List Value} {o n : Nat} (h : PartAt ls o l) (hn : l.length = n) (hl : o + n ≤ ls.length) : ls.toArray.extract o (o + n) = l.toArray := by
 subst hn
 apply Array.ext'
 simp only [List.extract_toArray, List.extract_eq_take_drop, Nat.add_sub_cancel_left]
 exact h.take_drop hl
/-- what a store of one element makes of all -/
theorem QBI {α : Type} {f : α → List Value} {z : Nat} (hz : ∀ x, (f x).length = z) (l : List α) (k : Nat) (hk : k < l.length) (y : α) : spl (l.flatMap f) (k * z) (f y) = (l.set k y).flatMap f := by
 have hl : (l.flatMap f).length = l.length * z := QAM hz l;have h1 : (k + 1) * z ≤ l.length * z := Nat.mul_le_mul_right _ hk;rw [Nat.add_mul, Nat.one_mul] at h1;rw [QCS _ _ _ (by rw [hz, hl]; exact h1), hz]
 have e1 : (l.flatMap f).take (k * z) = (l.take k).flatMap f := by
  conv => lhs; rw [← List.take_append_drop k l, List.flatMap_append]
  rw [List.take_left' (by rw [QAM hz, List.length_take, Nat.min_eq_left (Nat.le_of_lt hk)])]
 have e2 : (l.flatMap f).drop (k * z + z) = (l.drop (k + 1)).flatMap f := by
  conv => lhs; rw [← List.take_append_drop (k + 1) l, List.flatMap_append]
  rw [List.drop_left' (by rw [QAM hz, List.length_take, Nat.min_eq_left hk, Nat.succ_mul])]
 rw [e1, e2, List.set_eq_take_append_cons_drop, if_pos hk, List.flatMap_append, List.flatMap_cons, List.append_assoc]
section
variable {w : World} {g T : Nat} {l cs : List Value} {o : Nat}
theorem Blk.range (h : Blk w g T l.toArray) (hp : PartAt l o cs) : w.rangeAt g o cs := fun j v hv => by
 rw [h.cell]
 simpa using hp j v hv
end
section
variable {P : Program} {n : Nat} {σ : Sg} {w : World} {dst : Option Tmp} {ty : TypeId} {pos : String} {af : Array Edge} {g : Option (Nat × Bool)} {x y : Operand} {t e : TypeId}
theorem QEV {fn : Func} {c1 c2 s : Tmp} {t1 t2 : TypeId} {p1 p2 : Addr} {v1 v2 u : Value} (h : fn.results = #[.cell c1 t1, .cell c2 t2, .tmp s]) (hc1 : σ c1 = some (.pointer (some p1))) (hc2 : σ c2 = some (.pointer (some p2))) (hs : σ s = some u) (hl1 : (loadVar t1 p1).run P w = .ok v1 w) (hl2 : (loadVar t2 p2).run P w = .ok v2 w) (a : Act) (ha : Env n σ a) : (results fn a.tmps).run P w = .ok (.tuple #[v1, v2, u]) w := by
 have h1 : a.tmps.getD c1 undef = .pointer (some p1) := ha.eval (x := .tmp c1) hc1;have h2 : a.tmps.getD c2 undef = .pointer (some p2) := ha.eval (x := .tmp c2) hc2;have h3 : a.tmps.getD s undef = u := ha.eval (x := .tmp s) hs;rw [Array.getD_eq_getD_getElem?] at h1 h2 h3
 simp [results, h, h1, h2, h3, asAddr, hl1, hl2]
end
section
variable {n : Nat} {σ : Sg} {w : World} {dst : Option Tmp} {ty : TypeId} {pos : String} {af : Array Edge} {g : Option (Nat × Bool)} {x y z : Operand} {at' : Array TypeId}
theorem QNR {v0 v1 v2 v3 v4 v5 v6 v7 v8 v9 v10 v11 v12 v13 v14 : Value} (hx : evS σ x = some (.agg #[v0, v1, v2, v3, v4, v5, v6, v7, v8, v9, v10, v11, v12, v13, v14])) (a : Act) (ha : Env n σ a) : (execOp a.eval ⟨dst, .box 114 x, ty, pos, af, g⟩).run Try.prog w = .ok (.value (.pointer (some ⟨w.heap.size, 0, none⟩))) (w.alloc (.cells #[v0, v1, v2, v3, v4, v5, v6, v7, v8, v9, v10, v11, v12, v13, v14] 114)) := by
 simp only [execOp, ha.eval hx]
 simp [go_sem]
theorem QAQ (a : Act) (_ : Env n σ a) : (execOp a.eval ⟨dst, .alloc 114, ty, pos, af, g⟩).run Try.prog w = .ok (.value (.pointer (some ⟨w.heap.size, 0, none⟩))) (w.alloc (.cells #[.int .i64 0, .int .i64 0, .int .i64 0, .int .i64 0, .int .i64 0, .bool false, .int .i64 0, .int .i64 0, .int .i64 0, .int .i64 0, .int .i64 0, .int .i64 0, .int .i64 0, .int .i64 0, .int .i64 0] 114)) := by
 simp only [execOp]
 simp [go_sem]
theorem QCQ (a : Act) (_ : Env n σ a) : (execOp a.eval ⟨dst, .alloc 49, ty, pos, af, g⟩).run Try.prog w = .ok (.value (.pointer (some ⟨w.heap.size, 0, none⟩))) (w.alloc (.cells #[.int .i64 0, .int .i64 0] 49)) := by
 simp only [execOp]
 simp [go_sem]
theorem QHb (a : Act) (_ : Env n σ a) : (execOp a.eval ⟨dst, .alloc 39, ty, pos, af, g⟩).run Try.prog w = .ok (.value (.pointer (some ⟨w.heap.size, 0, none⟩))) (w.alloc (.cells #[.bool false, .int .i64 0, .int .i64 0, .int .i64 0, .int .i64 0] 39)) := by
 simp only [execOp]
 simp [go_sem]
theorem QEK : (Try.prog.info? 39).map (·.size) = some 5 := by kernel_rfl
theorem QEi {p q r : Int} (hx : evS σ x = some (.int .i64 p)) (hy : evS σ y = some (.int .i64 q)) (hr : max p q = r) : ZJ Try.prog n σ w ⟨dst, .call { callee := .builtin .max, args := #[x, y], argTypes := at' }, ty, pos, af, g⟩ (.int .i64 r) := fun a ha => by
 simp only [execOp, resolve, List.map_toArray, List.map_cons, List.map_nil, ha.eval hx, ha.eval hy]
 subst hr
 simp [go_sem, Int.max_def]
 split <;> split <;> omega
theorem ZN {b o : Nat} (hx : evS σ x = some (.pointer (some ⟨b, o, none⟩))) : ZJ Try.prog n σ w ⟨dst, .fieldAddr 114 x 0, ty, pos, af, g⟩ (.pointer (some ⟨b, o, none⟩)) := fun a ha => by
 simp only [execOp, ha.eval hx]
 simp [go_sem]
theorem YB {b o : Nat} {v0 v1 v2 v3 v4 v5 v6 v7 v8 v9 v10 v11 v12 v13 v14 : Value} (hx : evS σ x = some (.pointer (some ⟨b, o, none⟩))) (c0 : w.cell? ⟨b, o, none⟩ = some v0) (c1 : w.cell? ⟨b, o + 1, none⟩ = some v1) (c2 : w.cell? ⟨b, o + 2, none⟩ = some v2) (c3 : w.cell? ⟨b, o + 3, none⟩ = some v3) (c4 : w.cell? ⟨b, o + 4, none⟩ = some v4) (c5 : w.cell? ⟨b, o + 5, none⟩ = some v5) (c6 : w.cell? ⟨b, o + 6, none⟩ = some v6) (c7 : w.cell? ⟨b, o + 7, none⟩ = some v7) (c8 : w.cell? ⟨b, o + 8, none⟩ = some v8) (c9 : w.cell? ⟨b, o + 9, none⟩ = some v9) (c10 : w.cell? ⟨b, o + 10, none⟩ = some v10) (c11 : w.cell? ⟨b, o + 11, none⟩ = some v11) (c12 : w.cell? ⟨b, o + 12, none⟩ = some v12) (c13 : w.cell? ⟨b, o + 13, none⟩ = some v13) (c14 : w.cell? ⟨b, o + 14, none⟩ = some v14) : ZJ Try.prog n σ w ⟨dst, .load 114 x, ty, pos, af, g⟩ (.agg #[v0, v1, v2, v3, v4, v5, v6, v7, v8, v9, v10, v11, v12, v13, v14]) := fun a ha => by
 simp only [execOp, ha.eval hx]
 simp [go_sem, c0, c1, c2, c3, c4, c5, c6, c7, c8, c9, c10, c11, c12, c13, c14]
theorem QC2 {b o : Nat} {v0 v1 : Value} (hx : evS σ x = some (.pointer (some ⟨b, o, none⟩))) (c0 : w.cell? ⟨b, o, none⟩ = some v0) (c1 : w.cell? ⟨b, o + 1, none⟩ = some v1) : ZJ Try.prog n σ w ⟨dst, .load 49 x, ty, pos, af, g⟩ (.agg #[v0, v1]) := fun a ha => by
 simp only [execOp, ha.eval hx]
 simp [go_sem, c0, c1]
theorem Z9 : (Try.prog.info? 114).map (·.size) = some 15 := by kernel_rfl
theorem QAw : (Try.prog.info? 49).map (·.size) = some 2 := by kernel_rfl
theorem QAP {b o : Nat} {v0 v1 v2 v3 v4 v5 v6 v7 v8 v9 v10 v11 v12 v13 v14 : Value} (c0 : w.cell? ⟨b, o, none⟩ = some v0) (c1 : w.cell? ⟨b, o + 1, none⟩ = some v1) (c2 : w.cell? ⟨b, o + 2, none⟩ = some v2) (c3 : w.cell? ⟨b, o + 3, none⟩ = some v3) (c4 : w.cell? ⟨b, o + 4, none⟩ = some v4) (c5 : w.cell? ⟨b, o + 5, none⟩ = some v5) (c6 : w.cell? ⟨b, o + 6, none⟩ = some v6) (c7 : w.cell? ⟨b, o + 7, none⟩ = some v7) (c8 : w.cell? ⟨b, o + 8, none⟩ = some v8) (c9 : w.cell? ⟨b, o + 9, none⟩ = some v9) (c10 : w.cell? ⟨b, o + 10, none⟩ = some v10) (c11 : w.cell? ⟨b, o + 11, none⟩ = some v11) (c12 : w.cell? ⟨b, o + 12, none⟩ = some v12) (c13 : w.cell? ⟨b, o + 13, none⟩ = some v13) (c14 : w.cell? ⟨b, o + 14, none⟩ = some v14) : (loadVar 114 ⟨b, o, none⟩).run Try.prog w = .ok (.agg #[v0, v1, v2, v3, v4, v5, v6, v7, v8, v9, v10, v11, v12, v13, v14]) w := by
 simp [go_sem, loadVar, c0, c1, c2, c3, c4, c5, c6, c7, c8, c9, c10, c11, c12, c13, c14]
theorem QG8 {b o : Nat} {v0 v1 : Value} (c0 : w.cell? ⟨b, o, none⟩ = some v0) (c1 : w.cell? ⟨b, o + 1, none⟩ = some v1) : (loadVar 49 ⟨b, o, none⟩).run Try.prog w = .ok (.agg #[v0, v1]) w := by
 simp [go_sem, loadVar, c0, c1]
theorem cF76 : cF 76 := fun _ _ => by simp [go_sem]
theorem QAN {b o : Nat} (hx : evS σ x = some (.pointer (some ⟨b, o, none⟩))) : ZJ Try.prog n σ w ⟨dst, .fieldAddr 111 x 2, ty, pos, af, g⟩ (.pointer (some ⟨b, o + 11, none⟩)) := fun a ha => by
 simp only [execOp, ha.eval hx]
 simp [go_sem]
theorem QC_ {b o : Nat} (hx : evS σ x = some (.pointer (some ⟨b, o, none⟩))) : ZJ Try.prog n σ w ⟨dst, .fieldAddr 49 x 0, ty, pos, af, g⟩ (.pointer (some ⟨b, o, none⟩)) := fun a ha => by
 simp only [execOp, ha.eval hx]
 simp [go_sem]
theorem YF {b o : Nat} (hx : evS σ x = some (.pointer (some ⟨b, o, none⟩))) : ZJ Try.prog n σ w ⟨dst, .fieldAddr 49 x 1, ty, pos, af, g⟩ (.pointer (some ⟨b, o + 1, none⟩)) := fun a ha => by
 simp only [execOp, ha.eval hx]
 simp [go_sem]
theorem YZ {b o : Nat} (hx : evS σ x = some (.pointer (some ⟨b, o, none⟩))) : ZJ Try.prog n σ w ⟨dst, .fieldAddr 114 x 2, ty, pos, af, g⟩ (.pointer (some ⟨b, o + 14, none⟩)) := fun a ha => by
 simp only [execOp, ha.eval hx]
 simp [go_sem]
theorem Zr {b o : Nat} (hx : evS σ x = some (.pointer (some ⟨b, o, none⟩))) : ZJ Try.prog n σ w ⟨dst, .fieldAddr 114 x 1, ty, pos, af, g⟩ (.pointer (some ⟨b, o + 12, none⟩)) := fun a ha => by
 simp only [execOp, ha.eval hx]
 simp [go_sem]
theorem Zo {b o k : Nat} (hx : evS σ x = some (.pointer (some ⟨b, o, none⟩))) (hy : evS σ y = some (.int .i64 (k : Int))) (hk : k < 2) : ZJ Try.prog n σ w ⟨dst, .indexAddr 112 x y, ty, pos, af, g⟩ (.pointer (some ⟨b, o + k, none⟩)) := fun a ha => by
 have k0 : (0 : Int) ≤ (k : Int) := Int.natCast_nonneg _;have k1 : (k : Int) < 2 := by omega
 simp only [execOp, ha.eval hx, ha.eval hy]
 simp [go_sem, k0, k1]
end
theorem QCJ {σ : Sg} {s : Nat} {b b' : Int} (h : b = b') (hs : σ s = some (.int .i64 b)) : σ s = some (.int .i64 b') := h ▸ hs
section
variable {n : Nat} {σ : Sg} {w : World} {dst : Option Tmp} {ty : TypeId} {pos : String} {af : Array Edge} {g : Option (Nat × Bool)} {x y z : Operand} {at' : Array TypeId}
theorem QDT {a b r : Bool} (hx : evS σ x = some (.bool a)) (hy : evS σ y = some (.bool b)) (hc : decide (a = b) = r) : ZJ Try.prog n σ w ⟨dst, .binOp .eql 4 x y 4, ty, pos, af, g⟩ (.bool r) := fun _ ha => by
 simp only [execOp, ha.eval hx, ha.eval hy]
 subst hc
 cases a <;> cases b <;> simp [go_sem]
theorem QFq {u : Bool} {t t' : TypeId} (hx : evS σ x = some (.int .i64 (wyB u))) : ZJ Try.prog n σ w ⟨dst, .binOp .eql t x (.const (.int .i64 1)) t', ty, pos, af, g⟩ (.bool u) := YH hx rfl (by cases u <;> rfl)
end
set_option maxRecDepth 100000 in
theorem QGe {l : LK} {s : ST} {ts : List TW} {u : Bool} {v : Value} {w : World} {B : Nat} (h : StOk l s) (hts : ∀ t ∈ ts, twB l t = true) (h8 : s.t0 + s.t1 + ts.length ≤ 8) (hr : Rd w B 5 v ts.length (twsC ts)) (hB : B ≤ w.heap.size) :
  Calls Try.prog 57 #[stV s, v, .int .i64 (wyB u)] w fun e w' => e = .returned (.tuple #[stV (if fitB s.lk.length ts = true then tkS s ts u else s), rnV (if fitB s.lk.length ts = true then runT s ts u else rn0), .bool (fitB s.lk.length ts)]) ∧ Below w.heap.size w w' := by
 obtain ⟨At, ct, rfl, _⟩ := hr.shape;have hlen : s.lk.length = l.length := by rw [h.lk]; rfl
 have h8n : ts.length ≤ 8 := by omega
 have hbw := Below.refl w.heap.size w
 unfold stV rnV
 refine EC.enter 169 Try.func57 rfl rfl rfl (EC.seq (EC.region (EL.newP (QNR rfl) rfl ?_)));intro g1 w1 q1 hb1 hg1 hl1;have bhbw_1 := Nat.le_trans hbw.size hg1;replace hbw := bo_ hbw hb1;clear hb1 hg1 hl1;refine EL.newP QAQ rfl ?_;intro g2 w2 q2 hb2 hg2 hl2;have n1_2 := q1.na hg2;have bhbw_2 := Nat.le_trans hbw.size hg2;replace q1 := q1.bl hb2;replace hbw := bo_ hbw hb2;clear hb2 hg2 hl2;refine EL.newP QCQ rfl ?_;intro g3 w3 q3 hb3 hg3 hl3;have n1_3 := q1.na hg3;have n2_3 := q2.na hg3;have bhbw_3 := Nat.le_trans hbw.size hg3;replace q1 := q1.bl hb3;replace q2 := q2.bl hb3;replace hbw := bo_ hbw hb3;clear hb3 hg3 hl3;refine EL.as rfl rfl (EL.nil (EX.seq (EC.seq (EC.region (EL.as rfl rfl (EL.as rfl rfl (EL.nil (EX.seq (EC.seq ?_)))))))));refine EC.seq (EC.region (EL.mv rfl rfl (EL.val (Zs rfl) rfl (EL.mv rfl rfl (EL.nil (EX.seq (EC.block ?_)))))));refine EC.loopD [9, 10, 12, 19, 20, 21, 22, 23, 24, 25, 26, 27, 28, 29, 30, 31] (fun k : Nat => [(19, .int .i64 (k : Nat)), (9, .int .i64 (ZW (ts.take k))), (10, .int .i64 (arrT (ts.take k)))]) (fun k W => k ≤ ts.length ∧ Blk W g1 114 (stB s) ∧ Blk W g2 114 #[.int .i64 0, .int .i64 0, .int .i64 0, .int .i64 0, .int .i64 0, .bool false, .int .i64 0, .int .i64 0, .int .i64 0, .int .i64 0, .int .i64 0, .int .i64 0, .int .i64 0, .int .i64 0, .int .i64 0] ∧ Blk W g3 49 #[.int .i64 0, .int .i64 0] ∧ Below w.heap.size w W) (fun k => ts.length - k) 0 ⟨Nat.zero_le _, q1, q2, q3, hbw⟩ ⟨rfl, rfl, rfl, trivial⟩ ?_
 clear q1 q2 q3 hbw
 rintro k wk ⟨hk, q1, q2, q3, hbw⟩
 by_cases hltk : k < ts.length
 ·
  obtain ⟨b, o, rfl, _, cc⟩ := Zy ts k hltk w B _ _ _ hr;have hy := hts _ (Z1 hltk tw0);have hs1 : ZW (ts.take (k + 1)) = ZW (ts.take k) + (ts.getD k tw0).length := QFO (f := (·.length)) hltk;have hs2 := QFn hltk
  generalize ts.getD k tw0 = y at cc hy hs1 hs2
  obtain ⟨y1, y2, _, _⟩ := QAg hy;have hlb0 := Y_ h.ok;have hk2 := QF2 hts h8n h.ok k;refine EC.seq (EC.region ?_);refine EL.val (ZS (r := true) rfl rfl (decide_eq_true (by omega))) rfl ?_
  refine EL.nil (EX.seq (EC.seq (EC.yes rfl (EC.skip (EX.seq (EC.seq (EC.block (EC.seq (EC.region ?_)))))))));refine EL.val (YR rfl rfl hltk) rfl (EL.val (QAU rfl (ZB hbw cc.c0) (ZB hbw cc.c1) (ZB hbw cc.c2) (ZB hbw cc.c3) (ZB hbw cc.c4)) rfl (EL.newP QHb rfl ?_));intro g4 w4 q4 hb4 hg4 hl4;have n1_4 := q1.na hg4;have n2_4 := q2.na hg4;have n3_4 := q3.na hg4;have bhbw_4 := Nat.le_trans hbw.size hg4;replace q1 := q1.bl hb4;replace q2 := q2.bl hb4;replace q3 := q3.bl hb4;replace hbw := bo_ hbw hb4;clear hb4 hg4 hl4;refine EL.store rfl rfl q4 QEK rfl rfl rfl rfl ?_;intro w5 hq5 hg5;replace q1 := q1.gr hg5 n1_4;replace q2 := q2.gr hg5 n2_4;replace q3 := q3.gr hg5 n3_4;replace hbw := ZD hbw hg5 bhbw_4;replace q4 := hq5;clear hg5 hq5;refine EL.nil (EX.seq ?_);refine EC.regionQ (by kernel_rfl) (by kernel_rfl) ?_
  refine EQ.mv rfl rfl ?_;refine EQ.val (fun _ hw => (QD7 rfl)) rfl ?_
  refine EQ.val (fun _ hw => (ld_3 rfl (ZB hw (q4.at (j := 2) rfl)))) rfl ?_
  refine EQ.val (fun _ hw => (ZP rfl rfl (c := ZW (ts.take (k + 1))) ((IntWalk.i64_in _ ⟨by omega, by omega⟩).trans hs1.symm))) rfl ?_
  refine EQ.mv rfl rfl ?_;refine EQ.val (fun _ hw => (Yn rfl)) rfl ?_
  refine EQ.val (fun _ hw => (ld_3 rfl (ZB hw (q4.at (j := 1) rfl)))) rfl ?_
  refine EQ.val (fun _ hw => (QEi rfl rfl hs2.symm)) rfl ?_
  refine EQ.val (fun _ hw => (ZZ rfl)) rfl ?_
  refine EQ.val (fun _ hw => (ZZ rfl)) rfl ?_
  refine EQ.fin (fun w6 hw_ => ?_)
  replace q1 := q1.bl hw_;replace q2 := q2.bl hw_;replace q3 := q3.bl hw_;replace q4 := q4.bl hw_;replace hbw := bo_ hbw hw_;clear hw_;refine EX.blk (EX.seq (EC.region ?_));refine EL.val (ZP rfl rfl (c := ((k + 1 : Nat) : Int)) ((IntWalk.i64_in _ ⟨by first | omega | (simp only; omega), by first | omega | (simp only; omega)⟩).trans (by first | omega | (simp only; omega)))) rfl ?_
  refine EL.mv rfl rfl (EL.nil ?_);refine EX.roundD (k + 1) ⟨rfl, rfl, rfl, trivial⟩ (by repeat first | with_reducible exact .refl _ | refine sp_ rfl ?_ | exact .refl _ | refine sd_ rfl ?_ | refine sn_ ?_) ⟨hltk, q1, q2, q3, hbw⟩ (by omega)
 ·
  obtain rfl : k = ts.length := by omega
  rw [List.take_length];have hlg := QF2 hts h8n h.ok ts.length;rw [List.take_length] at hlg;refine EC.seq (EC.region ?_);refine EL.val (ZS (r := false) rfl rfl (decide_eq_false (by omega))) rfl ?_
  refine EL.nil (EX.seq (EC.seq (EC.no rfl (EC.exit (EX.seq_exit (EX.seq_exit (EX.blk_here (EX.seq (EC.seq ?_)))))))));refine EC.seq (EC.region (EL.mv rfl rfl (EL.val (Zs rfl) rfl ?_)))
  by_cases h1 : 1 < ts.length
  ·
   refine EL.val (Zm (r := true) rfl rfl (decide_eq_true (by omega))) rfl ?_
   refine EL.mv rfl rfl (EL.mg rfl rfl rfl rfl (EL.valg rfl rfl (ZN rfl) rfl (EL.valg rfl rfl (ZY rfl) rfl (EL.valg rfl rfl (Yx rfl) rfl (EL.valg rfl rfl (ld_3 rfl (q1.at (j := 0) rfl)) rfl ?_)))))
   by_cases h2 : s.lk.length < ZW ts
   ·
    refine EL.valg rfl rfl (Zm (r := true) rfl rfl (decide_eq_true h2)) rfl (EL.pt rfl rfl rfl (EL.nil (EX.seq (EC.yes rfl (EC.seq ?_)))));have lt_1 := q1.lt;have lt_2 := q2.lt;have lt_3 := q3.lt;refine EC.regionS [[], [], [0], [0, 1, 2], [0, 1, 2, 3]] 3 [] [2] (fun fl w_ => wk.grownBy w_ (some g2) ∧ (fl 2 = false → Blk w_ g2 114 _)) (phiS (fun i_ r => match i_ with | 0 => r 0 = (stA s) | 1 => r 1 = .agg #[.int .i64 0, .int .i64 0] | _ => True) [(2, fun _ r w_ => Blk w_ g2 114 (stB s))]) (by kernel_rfl) rfl rfl (by intro i hi; simp at hi; first | (subst hi; exact ⟨by simp, by omega⟩) | (rcases hi with rfl | rfl | rfl <;> exact ⟨by simp, by omega⟩) | (rcases hi with rfl | rfl <;> exact ⟨by simp, by omega⟩)) (QAA q2) (ZK QAH (Zb)) (fun i_ hi_ hs_ => ?_) (fun i_ hi_ => ?_) ?_
    ·match i_, hi_ with
     | 0, _ =>
      intro val fl w1 a hb ha hd hfl;obtain ⟨hb, hg0⟩ := hb;have ha := ha.s0 (d := 3) rfl
      exact ZC ha rfl rfl (YB rfl ((q1.grown hb (fun h => n1_2 (Option.some.inj h))).at (j := 0) rfl) ((q1.grown hb (fun h => n1_2 (Option.some.inj h))).at (j := 1) rfl) ((q1.grown hb (fun h => n1_2 (Option.some.inj h))).at (j := 2) rfl) ((q1.grown hb (fun h => n1_2 (Option.some.inj h))).at (j := 3) rfl) ((q1.grown hb (fun h => n1_2 (Option.some.inj h))).at (j := 4) rfl) ((q1.grown hb (fun h => n1_2 (Option.some.inj h))).at (j := 5) rfl) ((q1.grown hb (fun h => n1_2 (Option.some.inj h))).at (j := 6) rfl) ((q1.grown hb (fun h => n1_2 (Option.some.inj h))).at (j := 7) rfl) ((q1.grown hb (fun h => n1_2 (Option.some.inj h))).at (j := 8) rfl) ((q1.grown hb (fun h => n1_2 (Option.some.inj h))).at (j := 9) rfl) ((q1.grown hb (fun h => n1_2 (Option.some.inj h))).at (j := 10) rfl) ((q1.grown hb (fun h => n1_2 (Option.some.inj h))).at (j := 11) rfl) ((q1.grown hb (fun h => n1_2 (Option.some.inj h))).at (j := 12) rfl) ((q1.grown hb (fun h => n1_2 (Option.some.inj h))).at (j := 13) rfl) ((q1.grown hb (fun h => n1_2 (Option.some.inj h))).at (j := 14) rfl)) rfl rfl
     | 1, _ =>
      intro val fl w1 a hb ha hd hfl;obtain ⟨hb, hg0⟩ := hb;have ha := ha.s0 (d := 7) rfl
      exact ZC ha rfl rfl (QC2 rfl ((q3.grown hb (fun h => n2_3.symm (Option.some.inj h))).at (j := 0) rfl) ((q3.grown hb (fun h => n2_3.symm (Option.some.inj h))).at (j := 1) rfl)) rfl rfl
     | 2, _ =>
      exact absurd (by simp) hs_
     | k + 3, h => exact absurd h (by omega)
    ·simp only [List.mem_singleton] at hi_; subst hi_
     intro val fl w1 a hb hfi ha hd hfl;obtain ⟨hb, hg0⟩ := hb;have e0 : val 0 = _ := hd 0 (ZA.1 rfl);have ha := ha.sub (Sub.ins (d := 43) (Sub.ins (d := 6) (Sub.nil _) rfl) (ZO rfl e0));refine Zc ha rfl rfl rfl (hg0 hfi) Z9 rfl rfl rfl rfl ?_;intro w' hq hgr;refine ⟨undef, rfl, hgr.size, ⟨Z3 hb hgr, fun h => by rw [ZQ] at h; cases h⟩, hq, fun j _ hj hn hA => ?_⟩
     exact ZF (C := fun j => j ≠ 2 ∧ 2 ∉ clsAt [[], [], [0], [0, 1, 2], [0, 1, 2, 3]] j ∧ ∀ p ∈ [], (p = j ∨ p ∈ clsAt [[], [], [0], [0, 1, 2], [0, 1, 2, 3]] j) → ∀ q ∈ [], (q = 2 ∨ q ∈ clsAt [[], [], [0], [0, 1, 2], [0, 1, 2, 3]] 2) → p ≠ q → val p ≠ val q) (fun hc => absurd rfl hc.1) (fun _ _ h => h) j ⟨hj, hn, hA⟩
    ·intro val fl wR8 hfl hb halc hd
     obtain ⟨hb, _⟩ := hb;have e0 : val 0 = _ := hd 0 (by omega)
     have e1 : val 1 = _ := hd 1 (by omega)
     refine EL.ends (cs := [_, _, val 2]) ⟨e0, e1, rfl, trivial⟩ rfl ?_;replace q1 := q1.gr hb n1_2;have q2 : Blk wR8 g2 114 (stB s) := hd 2 (by omega)
     replace q3 := q3.gr hb n2_3.symm;replace hbw := ZD hbw hb bhbw_2;refine EL.store rfl rfl q3 QAw rfl rfl rfl rfl ?_;intro w7 hq7 hg7;replace q1 := q1.gr hg7 n1_3;replace q2 := q2.gr hg7 n2_3;replace hbw := ZD hbw hg7 bhbw_3;replace q3 := hq7;clear hg7 hq7;refine EL.as rfl rfl (EL.nil (EX.seq (EC.ret (EX.seq_ret ?_))))
     exact EX.done (QEV rfl rfl rfl rfl (QAP (q2.at (j := 0) rfl) (q2.at (j := 1) rfl) (q2.at (j := 2) rfl) (q2.at (j := 3) rfl) (q2.at (j := 4) rfl) (q2.at (j := 5) rfl) (q2.at (j := 6) rfl) (q2.at (j := 7) rfl) (q2.at (j := 8) rfl) (q2.at (j := 9) rfl) (q2.at (j := 10) rfl) (q2.at (j := 11) rfl) (q2.at (j := 12) rfl) (q2.at (j := 13) rfl) (q2.at (j := 14) rfl)) (QG8 (q3.at (j := 0) rfl) (q3.at (j := 1) rfl))) ⟨by rw [show fitB s.lk.length ts = false by unfold fitB; simp [h1, h2]]; rfl, hbw⟩
   ·
    refine EL.valg rfl rfl (Zm (r := false) rfl rfl (decide_eq_false h2)) rfl (EL.pt rfl rfl rfl (EL.nil (EX.seq (EC.no rfl (EC.skip (EX.seq ?_))))));have hfit : fitB s.lk.length ts = true := by unfold fitB; simp [h2]
    obtain ⟨hr1, hr2, hr3, hr4, hr5, hr6⟩ := QET (u := u) h hts (hlen ▸ hfit) h8;refine EC.cutD [45, 46, 47, 48, 49, 50, 51, 52, 53, 54, 55, 56, 57, 58, 59, 60, 61, 62, 63] (fun _ : Unit => []) (fun _ W => Blk W g1 114 (stB (Ze s u)) ∧ Blk W g2 114 #[.int .i64 0, .int .i64 0, .int .i64 0, .int .i64 0, .int .i64 0, .bool false, .int .i64 0, .int .i64 0, .int .i64 0, .int .i64 0, .int .i64 0, .int .i64 0, .int .i64 0, .int .i64 0, .int .i64 0] ∧ Blk W g3 49 #[.int .i64 0, .int .i64 0] ∧ Below w.heap.size w W) ?_ ?_
    ·
     have hmr := (QAl s).1;have hml : (mvS s).lk.turn = s.lk.turn := by rw [QCV]; rfl
     have hfr := h.fr;have hlb := Y_ h.okL;refine EC.seq (EC.region (EL.val (ZN rfl) rfl (EL.val (ZY rfl) rfl (EL.val (QA5 rfl) rfl (EL.val (ld_4 rfl (q1.at (j := 5) rfl)) rfl (EL.mv rfl rfl (EL.val (QFq rfl) rfl ?_)))))))
     by_cases hh : s.lk.high = u
     ·
      refine EL.val (QDT (r := true) rfl rfl (decide_eq_true hh)) rfl (EL.nil (EX.seq (EC.yes rfl (EC.seq (EC.region (EL.val (ZN rfl) rfl ?_))))));refine EL.call (cA1 cF76 rfl) rfl (QAL (s := s) q1 h.okL h.wt (by omega)) ?_
      rintro e w8 ⟨rfl, hq8, hg8⟩
      refine ⟨_, rfl, ?_⟩;replace q2 := q2.gr hg8 n1_2.symm;replace q3 := q3.gr hg8 n1_3.symm;replace hbw := ZD hbw hg8 bhbw_1;replace q1 := hq8;clear hg8 hq8;refine EL.nil (EX.seq (EC.region (EL.val (ZN rfl) rfl (EL.val (QAN rfl) rfl (EL.val (ld_3 rfl (q1.at (j := 11) rfl)) rfl (EL.val (ZN rfl) rfl (EL.val (ZY rfl) rfl (EL.val (Yw rfl) rfl (EL.val (ld_3 rfl (q1.at (j := 2) rfl)) rfl ?_)))))))));refine EL.val (ZP rfl rfl (c := (mvS s).fr + (mvS s).lk.turn) (IntWalk.i64_in _ ⟨by omega, by omega⟩)) rfl ?_
      refine EL.val (ZN rfl) rfl (EL.val (QAN rfl) rfl (EL.store rfl rfl q1 sz_3 rfl rfl rfl rfl ?_));intro w9 hq9 hg9;replace q2 := q2.gr hg9 n1_2.symm;replace q3 := q3.gr hg9 n1_3.symm;replace hbw := ZD hbw hg9 bhbw_1;replace q1 := hq9;clear hg9 hq9;refine EL.nil ?_
      exact EX.cutE () trivial (by repeat first | with_reducible exact (Sub.refl _).del _ | refine sp_ rfl ?_ | exact (Sub.refl _).del _ | refine sd_ rfl ?_ | refine sn_ ?_) ⟨by unfold Ze; rw [if_pos hh]; exact q1, q2, q3, hbw⟩
     ·
      refine EL.val (QDT (r := false) rfl rfl (decide_eq_false hh)) rfl (EL.nil (EX.seq (EC.no rfl (EC.skip ?_))))
      exact EX.cutE () trivial (by repeat first | with_reducible exact (Sub.refl _).del _ | refine sp_ rfl ?_ | exact (Sub.refl _).del _ | refine sd_ rfl ?_ | refine sn_ ?_) ⟨by unfold Ze; rw [if_neg hh]; exact q1, q2, q3, hbw⟩
    ·
     clear q1 q2 q3 hbw
     rintro ⟨⟩ W2 ⟨q1, q2, q3, hbw⟩
     have hSk : (Ze s u).lk = lkW s.lk (!u) := QBF s u;have hSL : lkB (Ze s u).lk = true := by rw [hSk]; exact h.okL
     have hSW := QDv (u := u) h.wt h.okL;have hSr := QBR s u;have hSc := h.cost;have hrd : runT s ts u = ⟨max (Ze s u).fr (arrT ts), max (Ze s u).fr (arrT ts) - s.lk.turn + partsN (ZW ts) s.lk.length * (s.lk.turn + s.lk.cycle)⟩ := rfl;have hmd : midS s ts u = mvN (2 * partsN (ZW ts) s.lk.length - 1) (Ze s u) := rfl;have htk : tkS s ts u = endS (outS (midS s ts u) ts u (runT s ts u).stop) ts.length u (runT s ts u).stop := rfl
     generalize Ze s u = S at *
     have hSl : S.lk.length = s.lk.length := by rw [hSk]; rfl
     have hSt : S.lk.turn = s.lk.turn := by rw [hSk]; rfl
     have hSy : S.lk.cycle = s.lk.cycle := by rw [hSk]; rfl
     have hlb := Y_ h.okL;refine EC.seq (EC.region (EL.val (ZN rfl) rfl (EL.val (QAN rfl) rfl (EL.val (ld_3 rfl (q1.at (j := 11) rfl)) rfl (EL.mv rfl rfl (EL.val (QEi rfl rfl rfl) rfl (EL.val (QC_ rfl) rfl (EL.store rfl rfl q3 sz_3 rfl rfl rfl rfl ?_))))))));intro w10 hq10 hg10;replace q1 := q1.gr hg10 n1_3;replace q2 := q2.gr hg10 n2_3;replace hbw := ZD hbw hg10 bhbw_3;replace q3 := hq10;clear hg10 hq10;refine EL.nil (EX.seq (EC.seq (EC.region (EL.val (QC_ rfl) rfl (EL.val (ld_3 rfl (q3.at (j := 0) rfl)) rfl (EL.val (ZN rfl) rfl (EL.val (ZY rfl) rfl (EL.val (Yw rfl) rfl (EL.val (ld_3 rfl (q1.at (j := 2) rfl)) rfl ?_)))))))));refine EL.val (Zv rfl rfl (c := max S.fr (arrT ts) - s.lk.turn) ((IntWalk.i64_in _ ⟨by omega, by omega⟩).trans (by rw [hSt]))) rfl ?_
     refine EL.val (YF rfl) rfl (EL.store rfl rfl q3 sz_3 rfl rfl rfl rfl ?_);intro w11 hq11 hg11;replace q1 := q1.gr hg11 n1_3;replace q2 := q2.gr hg11 n2_3;replace hbw := ZD hbw hg11 bhbw_3;replace q3 := hq11;clear hg11 hq11;refine EL.nil (EX.seq (EC.seq (EC.seq (EC.region (EL.mv rfl rfl (EL.as rfl rfl (EL.nil (EX.seq (EC.block ?_)))))))));obtain ⟨p, hp⟩ : ∃ p, p = partsN (ZW ts) s.lk.length := ⟨_, rfl⟩;rw [← hp] at hrd hmd;have hp3 : p ≤ 3 := by rw [hp]; exact hlen ▸ QBv hts h.ok (hlen ▸ hfit)
     have hplt := fun j => QCq (long := ZW ts) (L := s.lk.length) (by omega) j
     rw [← hp] at hplt;have hz0 : (max S.fr (arrT ts)) - s.lk.turn = (((0 : Nat) : Int)) * (s.lk.turn + s.lk.cycle) + ((max S.fr (arrT ts)) - s.lk.turn) := by simp
     rw [hz0] at q3;refine EC.loopD [13, 79, 80, 81, 82, 83, 84, 85, 86, 87, 88, 89, 90, 91, 92, 93, 94, 95, 96, 97, 98, 99, 100, 101, 102, 103, 104, 105, 106] (fun j : Nat => [(13, .int .i64 (ZW ts - ((j : Nat) : Int) * s.lk.length))]) (fun j W => j ≤ p ∧ Blk W g1 114 (stB (mvN (2 * j - 1) S)) ∧ Blk W g2 114 #[.int .i64 0, .int .i64 0, .int .i64 0, .int .i64 0, .int .i64 0, .bool false, .int .i64 0, .int .i64 0, .int .i64 0, .int .i64 0, .int .i64 0, .int .i64 0, .int .i64 0, .int .i64 0, .int .i64 0] ∧ Blk W g3 49 #[.int .i64 (max S.fr (arrT ts)), .int .i64 (((j : Nat) : Int) * (s.lk.turn + s.lk.cycle) + ((max S.fr (arrT ts)) - s.lk.turn))] ∧ Below w.heap.size w W) (fun j => p - j) 0 ⟨Nat.zero_le _, q1, q2, q3, hbw⟩ ⟨QCJ (by simp) rfl, trivial⟩ ?_
     clear q1 q2 q3 hbw
     rintro j wj ⟨hj, q1, q2, q3, hbw⟩
     by_cases hltj : j < p
     ·
      have hjl := (hplt j).2 hltj;have hjb : 0 ≤ (j : Int) * s.lk.length ∧ (j : Int) * s.lk.length ≤ 3 * 500 := ⟨Int.mul_nonneg (by omega) (by omega), Int.mul_le_mul (by omega) (by omega) (by omega) (by omega)⟩
      have hjc : 0 ≤ (j : Int) * (s.lk.turn + s.lk.cycle) ∧ (j : Int) * (s.lk.turn + s.lk.cycle) ≤ 3 * 1000 := ⟨Int.mul_nonneg (by omega) (by omega), Int.mul_le_mul (by omega) (by omega) (by omega) (by omega)⟩
      have hj1 : ((j + 1 : Nat) : Int) * s.lk.length = j * s.lk.length + s.lk.length := by rw [Int.natCast_add, Int.add_mul]; simp
      have hj2 : ((j + 1 : Nat) : Int) * (s.lk.turn + s.lk.cycle) = j * (s.lk.turn + s.lk.cycle) + (s.lk.turn + s.lk.cycle) := by rw [Int.natCast_add, Int.add_mul]; simp
      have hXL := QF8 (n := 2 * j - 1) hSL;have hXW := QEh hSW hSL (2 * j - 1);have hX1 : (mvN (2 * (j + 1) - 1) S).lk.turn = s.lk.turn ∧ (mvN (2 * (j + 1) - 1) S).lk.cycle = s.lk.cycle ∧ (mvN (2 * (j + 1) - 1) S).lk.length = s.lk.length := by obtain ⟨hv, he⟩ := QEg (2 * (j + 1) - 1) S; rw [he]; exact ⟨hSt, hSy, hSl⟩
      have hjz : j = 0 ∨ 0 < j := by omega
      have hjp : 0 < j → 0 < (j : Int) * s.lk.length := fun h => Int.mul_pos (by omega) (by omega)
      refine EC.seq (EC.seq (EC.region (EL.mv rfl rfl ?_)));refine EL.val (Zm (r := true) rfl rfl (decide_eq_true (by have := hplt j; omega))) rfl ?_
      refine EL.nil (EX.seq (EC.yes rfl (EC.skip (EX.seq (EC.seq (EC.block (EC.seq (EC.seq (EC.region ?_)))))))));refine EL.mv rfl rfl (EL.mv rfl rfl ?_)
      by_cases hj0 : 0 < j
      ·
       have hXe : (mvS (mvS (mvN (2 * j - 1) S))) = (mvN (2 * (j + 1) - 1) S) := by rw [show 2 * (j + 1) - 1 = (2 * j - 1) + 1 + 1 by omega]; rfl
       refine EL.val (ZS (r := true) rfl rfl (decide_eq_true (by have := hjp hj0; omega))) rfl ?_
       refine EL.nil (EX.seq (EC.yes rfl (EC.region (EL.val (ZN rfl) rfl ?_))));refine EL.call (cA1 cF76 rfl) rfl (QAL (s := (mvN (2 * j - 1) S)) q1 hXL hXW (by omega)) ?_
       rintro e w12 ⟨rfl, hq12, hg12⟩
       refine ⟨_, rfl, ?_⟩;replace q2 := q2.gr hg12 n1_2.symm;replace q3 := q3.gr hg12 n1_3.symm;replace hbw := ZD hbw hg12 bhbw_1;replace q1 := hq12;clear hg12 hq12;refine EL.nil (EX.seq (EC.seq (EC.region (EL.val (ZN rfl) rfl ?_))));refine EL.call (cA1 cF76 rfl) rfl (QAL (s := (mvS (mvN (2 * j - 1) S))) q1 (QIf hXL) (QG2 hXW hXL) (by omega)) ?_
       rintro e w13 ⟨rfl, hq13, hg13⟩
       refine ⟨_, rfl, ?_⟩;replace q2 := q2.gr hg13 n1_2.symm;replace q3 := q3.gr hg13 n1_3.symm;replace hbw := ZD hbw hg13 bhbw_1;replace q1 := hq13;clear hg13 hq13;rw [hXe] at q1;replace q1 : Blk w13 g1 114 (stB (mvN (2 * (j + 1) - 1) S)) := q1;refine EL.nil (EX.seq (EC.region (EL.val (YF rfl) rfl (EL.val (ld_3 rfl (q3.at (j := 1) rfl)) rfl (EL.val (ZN rfl) rfl (EL.val (ZY rfl) rfl (EL.val (Yw rfl) rfl (EL.val (ld_3 rfl (q1.at (j := 2) rfl)) rfl (EL.val (ZN rfl) rfl ?_)))))))));refine EL.val (ZY rfl) rfl (EL.val (QBc rfl) rfl (EL.val (ld_3 rfl (q1.at (j := 1) rfl)) rfl ?_));refine EL.val (ZP rfl rfl (c := s.lk.turn + s.lk.cycle) ((IntWalk.i64_in _ ⟨by omega, by omega⟩).trans (by rw [hX1.1, hX1.2.1]))) rfl ?_
       refine EL.val (ZP rfl rfl (c := ((j + 1 : Nat) : Int) * (s.lk.turn + s.lk.cycle) + ((max S.fr (arrT ts)) - s.lk.turn)) ((IntWalk.i64_in _ ⟨by omega, by omega⟩).trans (by omega))) rfl ?_
       refine EL.val (YF rfl) rfl (EL.store rfl rfl q3 sz_3 rfl rfl rfl rfl ?_);intro w14 hq14 hg14;replace q1 := q1.gr hg14 n1_3;replace q2 := q2.gr hg14 n2_3;replace hbw := ZD hbw hg14 bhbw_3;replace q3 := hq14;clear hg14 hq14;refine EL.nil (EX.blk (EX.seq (EC.region (EL.mv rfl rfl (EL.val (ZN rfl) rfl (EL.val (ZY rfl) rfl (EL.val (Yx rfl) rfl (EL.val (ld_3 rfl (q1.at (j := 0) rfl)) rfl ?_))))))));refine EL.val (Zv rfl rfl (c := ZW ts - ((j + 1 : Nat) : Int) * s.lk.length) ((IntWalk.i64_in _ ⟨by omega, by omega⟩).trans (by rw [hX1.2.2]; omega))) rfl ?_
       refine EL.as rfl rfl (EL.nil ?_);refine EX.roundD (j + 1) ⟨rfl, trivial⟩ (by repeat first | with_reducible exact .refl _ | refine sp_ rfl ?_ | exact .refl _ | refine sd_ rfl ?_ | refine sn_ ?_) ⟨hltj, q1, q2, q3, hbw⟩ (by omega)
      ·
       have hXe : (mvS (mvN (2 * j - 1) S)) = (mvN (2 * (j + 1) - 1) S) := by rw [show j = 0 by omega]; rfl
       refine EL.val (ZS (r := false) rfl rfl (decide_eq_false (by rw [show j = 0 by omega]; simp))) rfl ?_
       refine EL.nil (EX.seq (EC.no rfl (EC.skip (EX.seq (EC.seq (EC.region (EL.val (ZN rfl) rfl ?_)))))));refine EL.call (cA1 cF76 rfl) rfl (QAL (s := (mvN (2 * j - 1) S)) q1 hXL hXW (by omega)) ?_
       rintro e w15 ⟨rfl, hq15, hg15⟩
       refine ⟨_, rfl, ?_⟩;replace q2 := q2.gr hg15 n1_2.symm;replace q3 := q3.gr hg15 n1_3.symm;replace hbw := ZD hbw hg15 bhbw_1;replace q1 := hq15;clear hg15 hq15;rw [hXe] at q1;replace q1 : Blk w15 g1 114 (stB (mvN (2 * (j + 1) - 1) S)) := q1;refine EL.nil (EX.seq (EC.region (EL.val (YF rfl) rfl (EL.val (ld_3 rfl (q3.at (j := 1) rfl)) rfl (EL.val (ZN rfl) rfl (EL.val (ZY rfl) rfl (EL.val (Yw rfl) rfl (EL.val (ld_3 rfl (q1.at (j := 2) rfl)) rfl (EL.val (ZN rfl) rfl ?_)))))))));refine EL.val (ZY rfl) rfl (EL.val (QBc rfl) rfl (EL.val (ld_3 rfl (q1.at (j := 1) rfl)) rfl ?_));refine EL.val (ZP rfl rfl (c := s.lk.turn + s.lk.cycle) ((IntWalk.i64_in _ ⟨by omega, by omega⟩).trans (by rw [hX1.1, hX1.2.1]))) rfl ?_
       refine EL.val (ZP rfl rfl (c := ((j + 1 : Nat) : Int) * (s.lk.turn + s.lk.cycle) + ((max S.fr (arrT ts)) - s.lk.turn)) ((IntWalk.i64_in _ ⟨by omega, by omega⟩).trans (by omega))) rfl ?_
       refine EL.val (YF rfl) rfl (EL.store rfl rfl q3 sz_3 rfl rfl rfl rfl ?_);intro w16 hq16 hg16;replace q1 := q1.gr hg16 n1_3;replace q2 := q2.gr hg16 n2_3;replace hbw := ZD hbw hg16 bhbw_3;replace q3 := hq16;clear hg16 hq16;refine EL.nil (EX.blk (EX.seq (EC.region (EL.mv rfl rfl (EL.val (ZN rfl) rfl (EL.val (ZY rfl) rfl (EL.val (Yx rfl) rfl (EL.val (ld_3 rfl (q1.at (j := 0) rfl)) rfl ?_))))))));refine EL.val (Zv rfl rfl (c := ZW ts - ((j + 1 : Nat) : Int) * s.lk.length) ((IntWalk.i64_in _ ⟨by omega, by omega⟩).trans (by rw [hX1.2.2]; omega))) rfl ?_
       refine EL.as rfl rfl (EL.nil ?_);refine EX.roundD (j + 1) ⟨rfl, trivial⟩ (by repeat first | with_reducible exact .refl _ | refine sp_ rfl ?_ | exact .refl _ | refine sd_ rfl ?_ | refine sn_ ?_) ⟨hltj, q1, q2, q3, hbw⟩ (by omega)
     ·
      obtain rfl : j = p := by omega
      rw [← hmd] at q1;have hMB := QEh hSW hSL (2 * j - 1);have hMr := QCw (2 * j - 1) S;rw [← hmd] at hMB hMr
      generalize runT s ts u = Rn at *
      generalize midS s ts u = M at *
      have hRs : (max S.fr (arrT ts)) = Rn.start := by rw [hrd]
      have hRe : ((j : Nat) : Int) * (s.lk.turn + s.lk.cycle) + ((max S.fr (arrT ts)) - s.lk.turn) = Rn.stop := by rw [hrd]; simp only; omega
      rw [hRe, hRs] at q3;have hMB2 := hMB.mono (M := 100000000) (by omega)
      refine EC.seq (EC.seq (EC.region (EL.mv rfl rfl ?_)));refine EL.val (Zm (r := false) rfl rfl (decide_eq_false (by have := hplt j; omega))) rfl ?_
      refine EL.nil (EX.seq (EC.no rfl (EC.exit (EX.seq_exit (EX.seq_exit (EX.blk_here (EX.seq (EC.seq (EC.seq ?_)))))))));refine EC.region (EL.mv rfl rfl (EL.val (Zs rfl) rfl (EL.mv rfl rfl (EL.nil (EX.seq (EC.block ?_))))));have hO0 : outS M (ts.take 0) u Rn.stop = M := QEc M u Rn.stop;rw [← hO0] at q1;refine EC.loopD [15, 16, 109, 110, 111, 112, 113, 114, 115, 116, 117, 118, 119, 120, 121, 122, 123, 124, 125, 126, 127, 128, 129, 130, 131, 132, 133, 134, 135, 136, 137, 138, 139, 140, 141, 142, 143, 144, 145, 146, 147, 148, 149, 150, 151, 152, 153] (fun k : Nat => [(109, .int .i64 (k : Nat))]) (fun k W => k ≤ ts.length ∧ Blk W g1 114 (stB (outS M (ts.take k) u Rn.stop)) ∧ Blk W g2 114 #[.int .i64 0, .int .i64 0, .int .i64 0, .int .i64 0, .int .i64 0, .bool false, .int .i64 0, .int .i64 0, .int .i64 0, .int .i64 0, .int .i64 0, .int .i64 0, .int .i64 0, .int .i64 0, .int .i64 0] ∧ Blk W g3 49 #[.int .i64 Rn.start, .int .i64 Rn.stop] ∧ Below w.heap.size w W) (fun k => ts.length - k) 0 ⟨Nat.zero_le _, q1, q2, q3, hbw⟩ ⟨rfl, trivial⟩ ?_
      clear q1 q2 q3 hbw
      rintro k wk ⟨hk, q1, q2, q3, hbw⟩
      by_cases hltk : k < ts.length
      ·
       obtain ⟨b, o, rfl, _, cc⟩ := Zy ts k hltk w B _ _ _ hr;have hy := hts _ (Z1 hltk tw0);have hos := QDX M (ts.take k) (ts.getD k tw0) u Rn.stop;rw [← Zz hltk] at hos;obtain ⟨ob1, ob2, ob3⟩ := QHv (e := Rn.stop) u hMB2 hts h8n ⟨by omega, by omega⟩ k
       generalize ts.getD k tw0 = y at cc hy hos
       obtain ⟨y1, y2, y3, y4⟩ := QAg hy;have hcb := QD9 (e := Rn.stop) hy ⟨by omega, by omega⟩
       have hpb := QF1 u hy;have hwb := QJu u;refine EC.seq (EC.region ?_);refine EL.val (ZS (r := true) rfl rfl (decide_eq_true (by omega))) rfl ?_
       refine EL.nil (EX.seq (EC.seq (EC.yes rfl (EC.skip (EX.seq (EC.seq (EC.block (EC.seq (EC.region ?_)))))))));refine EL.val (YR rfl rfl hltk) rfl (EL.val (QAU rfl (ZB hbw cc.c0) (ZB hbw cc.c1) (ZB hbw cc.c2) (ZB hbw cc.c3) (ZB hbw cc.c4)) rfl (EL.newP QHb rfl ?_));intro g17 w17 q17 hb17 hg17 hl17;have n1_17 := q1.na hg17;have n2_17 := q2.na hg17;have n3_17 := q3.na hg17;have bhbw_17 := Nat.le_trans hbw.size hg17;replace q1 := q1.bl hb17;replace q2 := q2.bl hb17;replace q3 := q3.bl hb17;replace hbw := bo_ hbw hb17;clear hb17 hg17 hl17;refine EL.store rfl rfl q17 QEK rfl rfl rfl rfl ?_;intro w18 hq18 hg18;replace q1 := q1.gr hg18 n1_17;replace q2 := q2.gr hg18 n2_17;replace q3 := q3.gr hg18 n3_17;replace hbw := ZD hbw hg18 bhbw_17;replace q17 := hq18;clear hg18 hq18;refine EL.nil (EX.seq (EC.seq (EC.region (EL.val (YZ rfl) rfl (EL.val (ld_3 rfl (q1.at (j := 14) rfl)) rfl (EL.val (QDD rfl) rfl (EL.val (ld_3 rfl (q17.at (j := 3) rfl)) rfl (EL.val (YF rfl) rfl (EL.val (ld_3 rfl (q3.at (j := 1) rfl)) rfl ?_)))))))));refine EL.val (Yn rfl) rfl (EL.val (ld_3 rfl (q17.at (j := 1) rfl)) rfl ?_);refine EL.val (Zv rfl rfl (by first | assumption | exact IntWalk.i64_in _ ⟨by omega, by omega⟩)) rfl ?_
       refine EL.val (QAR rfl rfl (by first | assumption | exact IntWalk.i64_in _ ⟨by omega, by omega⟩)) rfl ?_
       refine EL.val (ZP rfl rfl (by first | assumption | exact IntWalk.i64_in _ ⟨by omega, by omega⟩)) rfl ?_
       refine EL.val (YZ rfl) rfl (EL.store rfl rfl q1 sz_3 rfl rfl rfl rfl ?_);intro w19 hq19 hg19;replace q2 := q2.gr hg19 n1_2.symm;replace q3 := q3.gr hg19 n1_3.symm;replace q17 := q17.gr hg19 n1_17.symm;replace hbw := ZD hbw hg19 bhbw_1;replace q1 := hq19;clear hg19 hq19;refine EL.nil (EX.seq (EC.seq (EC.region (EL.val (QDC rfl) rfl (EL.val (ld_3 rfl (q17.at (j := 4) rfl)) rfl (EL.mv rfl rfl ?_))))));refine EL.val (QAR rfl rfl (by first | assumption | exact IntWalk.i64_in _ ⟨by omega, by omega⟩)) rfl ?_
       refine EL.val (Zv rfl rfl (by first | assumption | exact IntWalk.i64_in _ ⟨by omega, by omega⟩)) rfl ?_
       refine EL.val (QAR rfl rfl (by first | assumption | exact IntWalk.i64_in _ ⟨by omega, by omega⟩)) rfl ?_
       refine EL.as rfl rfl (EL.nil (EX.seq (EC.region (EL.val (ZN rfl) rfl (EL.val (Za rfl) rfl (EL.val (Zi rfl) rfl (EL.val (YD rfl) rfl (EL.val (ld_3 rfl (q1.at (j := 6) rfl)) rfl (EL.mv rfl rfl ?_)))))))));refine EL.val (Zv rfl rfl (by first | assumption | exact IntWalk.i64_in _ ⟨by omega, by omega⟩)) rfl ?_
       refine EL.val (ZN rfl) rfl (EL.val (Za rfl) rfl (EL.val (Zi rfl) rfl (EL.val (QAI rfl) rfl (EL.val (ld_3 rfl (q1.at (j := 7) rfl)) rfl (EL.mv rfl rfl ?_)))));refine EL.val (ZP rfl rfl (by first | assumption | exact IntWalk.i64_in _ ⟨by omega, by omega⟩)) rfl ?_
       refine EL.val (ZN rfl) rfl (EL.val (Za rfl) rfl (EL.val (Zi rfl) rfl (EL.val (YD rfl) rfl (EL.store rfl rfl q1 sz_3 rfl rfl rfl rfl ?_))));intro w20 hq20 hg20;replace q2 := q2.gr hg20 n1_2.symm;replace q3 := q3.gr hg20 n1_3.symm;replace q17 := q17.gr hg20 n1_17.symm;replace hbw := ZD hbw hg20 bhbw_1;replace q1 := hq20;clear hg20 hq20;refine EL.val (ZN rfl) rfl (EL.val (Za rfl) rfl (EL.val (Zi rfl) rfl (EL.val (QAI rfl) rfl (EL.store rfl rfl q1 sz_3 rfl rfl rfl rfl ?_))));intro w21 hq21 hg21;replace q2 := q2.gr hg21 n1_2.symm;replace q3 := q3.gr hg21 n1_3.symm;replace q17 := q17.gr hg21 n1_17.symm;replace hbw := ZD hbw hg21 bhbw_1;replace q1 := hq21;clear hg21 hq21;refine EL.nil (EX.blk (EX.seq (EC.region ?_)));refine EL.val (ZP rfl rfl (c := ((k + 1 : Nat) : Int)) ((IntWalk.i64_in _ ⟨by first | omega | (simp only; omega), by first | omega | (simp only; omega)⟩).trans (by first | omega | (simp only; omega)))) rfl ?_
       refine EL.mv rfl rfl (EL.nil ?_);refine EX.roundD (k + 1) ⟨rfl, trivial⟩ (by repeat first | with_reducible exact .refl _ | refine sp_ rfl ?_ | exact .refl _ | refine sd_ rfl ?_ | refine sn_ ?_) ⟨hltk, (by rw [hos]; exact q1), q2, q3, hbw⟩ (by omega)
      ·
       obtain rfl : k = ts.length := by omega
       rw [List.take_length] at q1;refine EC.seq (EC.region ?_);refine EL.val (ZS (r := false) rfl rfl (decide_eq_false (by omega))) rfl ?_
       refine EL.nil (EX.seq (EC.seq (EC.no rfl (EC.exit (EX.seq_exit (EX.seq_exit (EX.blk_here (EX.seq (EC.seq ?_)))))))));refine EC.region (EL.val (YF rfl) rfl (EL.val (ld_3 rfl (q3.at (j := 1) rfl)) rfl (EL.val (ZN rfl) rfl (EL.val (QAN rfl) rfl (EL.store rfl rfl q1 sz_3 rfl rfl rfl rfl ?_)))));intro w22 hq22 hg22;replace q2 := q2.gr hg22 n1_2.symm;replace q3 := q3.gr hg22 n1_3.symm;replace hbw := ZD hbw hg22 bhbw_1;replace q1 := hq22;clear hg22 hq22;refine EL.nil (EX.seq (EC.seq (EC.region (EL.mv rfl rfl (EL.val (Zr rfl) rfl ?_)))));have hot0 : (outS M ts u Rn.stop).t0 = M.t0 := rfl;have hot1 : (outS M ts u Rn.stop).t1 = M.t1 := rfl;have ht0 : M.t0 = s.t0 := hMr.2.1.trans hSr.1;have ht1 : M.t1 = s.t1 := hMr.2.2.1.trans hSr.2.1
       cases u
       ·
        refine EL.val (Zo (k := 0) rfl rfl (by omega)) rfl ?_
        refine EL.val (ld_3 rfl (q1.at (j := 12) rfl)) rfl (EL.mv rfl rfl (EL.val (Zs rfl) rfl ?_));refine EL.val (ZP rfl rfl (c := ((M.t0 + ts.length : Nat) : Int)) ((IntWalk.i64_in _ ⟨by omega, by omega⟩).trans (by show _ = ((M.t0 + ts.length : Nat) : Int); omega))) rfl ?_
        refine EL.val (Zr rfl) rfl ?_;refine EL.val (Zo (k := 0) rfl rfl (by omega)) rfl ?_
        refine EL.store rfl rfl q1 sz_3 rfl rfl rfl rfl ?_;intro w23 hq23 hg23;replace q2 := q2.gr hg23 n1_2.symm;replace q3 := q3.gr hg23 n1_3.symm;replace hbw := ZD hbw hg23 bhbw_1;replace q1 := hq23;clear hg23 hq23;refine EL.nil (EX.seq (EC.seq ?_));replace q1 : Blk w23 g1 114 (stB (tkS s ts false)) := by rw [htk]; exact q1
        have lt_1 := q1.lt;have lt_2 := q2.lt;have lt_3 := q3.lt;refine EC.regionS [[], [], [0], [0, 1, 2], [0, 1, 2, 3]] 3 [] [2] (fun fl w_ => w23.grownBy w_ (some g2) ∧ (fl 2 = false → Blk w_ g2 114 _)) (phiS (fun i_ r => match i_ with | 0 => r 0 = (stA (tkS s ts false)) | 1 => r 1 = .agg #[.int .i64 Rn.start, .int .i64 Rn.stop] | _ => True) [(2, fun _ r w_ => Blk w_ g2 114 (stB (tkS s ts false)))]) (by kernel_rfl) rfl rfl (by intro i hi; simp at hi; first | (subst hi; exact ⟨by simp, by omega⟩) | (rcases hi with rfl | rfl | rfl <;> exact ⟨by simp, by omega⟩) | (rcases hi with rfl | rfl <;> exact ⟨by simp, by omega⟩)) (QAA q2) (ZK QAH (Zb)) (fun i_ hi_ hs_ => ?_) (fun i_ hi_ => ?_) ?_
        ·match i_, hi_ with
         | 0, _ =>
          intro val fl w1 a hb ha hd hfl;obtain ⟨hb, hg0⟩ := hb;have ha := ha.s0 (d := 3) rfl
          exact ZC ha rfl rfl (YB rfl ((q1.grown hb (fun h => n1_2 (Option.some.inj h))).at (j := 0) rfl) ((q1.grown hb (fun h => n1_2 (Option.some.inj h))).at (j := 1) rfl) ((q1.grown hb (fun h => n1_2 (Option.some.inj h))).at (j := 2) rfl) ((q1.grown hb (fun h => n1_2 (Option.some.inj h))).at (j := 3) rfl) ((q1.grown hb (fun h => n1_2 (Option.some.inj h))).at (j := 4) rfl) ((q1.grown hb (fun h => n1_2 (Option.some.inj h))).at (j := 5) rfl) ((q1.grown hb (fun h => n1_2 (Option.some.inj h))).at (j := 6) rfl) ((q1.grown hb (fun h => n1_2 (Option.some.inj h))).at (j := 7) rfl) ((q1.grown hb (fun h => n1_2 (Option.some.inj h))).at (j := 8) rfl) ((q1.grown hb (fun h => n1_2 (Option.some.inj h))).at (j := 9) rfl) ((q1.grown hb (fun h => n1_2 (Option.some.inj h))).at (j := 10) rfl) ((q1.grown hb (fun h => n1_2 (Option.some.inj h))).at (j := 11) rfl) ((q1.grown hb (fun h => n1_2 (Option.some.inj h))).at (j := 12) rfl) ((q1.grown hb (fun h => n1_2 (Option.some.inj h))).at (j := 13) rfl) ((q1.grown hb (fun h => n1_2 (Option.some.inj h))).at (j := 14) rfl)) rfl rfl
         | 1, _ =>
          intro val fl w1 a hb ha hd hfl;obtain ⟨hb, hg0⟩ := hb;have ha := ha.s0 (d := 7) rfl
          exact ZC ha rfl rfl (QC2 rfl ((q3.grown hb (fun h => n2_3.symm (Option.some.inj h))).at (j := 0) rfl) ((q3.grown hb (fun h => n2_3.symm (Option.some.inj h))).at (j := 1) rfl)) rfl rfl
         | 2, _ =>
          exact absurd (by simp) hs_
         | k + 3, h => exact absurd h (by omega)
        ·simp only [List.mem_singleton] at hi_; subst hi_
         intro val fl w1 a hb hfi ha hd hfl;obtain ⟨hb, hg0⟩ := hb;have e0 : val 0 = _ := hd 0 (ZA.1 rfl);have ha := ha.sub (Sub.ins (d := 167) (Sub.ins (d := 6) (Sub.nil _) rfl) (ZO rfl e0));refine Zc ha rfl rfl rfl (hg0 hfi) Z9 rfl rfl rfl rfl ?_;intro w' hq hgr;refine ⟨undef, rfl, hgr.size, ⟨Z3 hb hgr, fun h => by rw [ZQ] at h; cases h⟩, hq, fun j _ hj hn hA => ?_⟩
         exact ZF (C := fun j => j ≠ 2 ∧ 2 ∉ clsAt [[], [], [0], [0, 1, 2], [0, 1, 2, 3]] j ∧ ∀ p ∈ [], (p = j ∨ p ∈ clsAt [[], [], [0], [0, 1, 2], [0, 1, 2, 3]] j) → ∀ q ∈ [], (q = 2 ∨ q ∈ clsAt [[], [], [0], [0, 1, 2], [0, 1, 2, 3]] 2) → p ≠ q → val p ≠ val q) (fun hc => absurd rfl hc.1) (fun _ _ h => h) j ⟨hj, hn, hA⟩
        ·intro val fl wR30 hfl hb halc hd
         obtain ⟨hb, _⟩ := hb;have e0 : val 0 = _ := hd 0 (by omega)
         have e1 : val 1 = _ := hd 1 (by omega)
         refine EL.ends (cs := [_, _, val 2]) ⟨e0, e1, rfl, trivial⟩ rfl ?_;replace q1 := q1.gr hb n1_2;have q2 : Blk wR30 g2 114 (stB (tkS s ts false)) := hd 2 (by omega)
         replace q3 := q3.gr hb n2_3.symm;replace hbw := ZD hbw hb bhbw_2;refine EL.store rfl rfl q3 QAw rfl rfl rfl rfl ?_;intro w24 hq24 hg24;replace q1 := q1.gr hg24 n1_3;replace q2 := q2.gr hg24 n2_3;replace hbw := ZD hbw hg24 bhbw_3;replace q3 := hq24;clear hg24 hq24;refine EL.as rfl rfl (EL.nil (EX.seq (EC.ret ?_)))
         exact EX.done (QEV rfl rfl rfl rfl (QAP (q2.at (j := 0) rfl) (q2.at (j := 1) rfl) (q2.at (j := 2) rfl) (q2.at (j := 3) rfl) (q2.at (j := 4) rfl) (q2.at (j := 5) rfl) (q2.at (j := 6) rfl) (q2.at (j := 7) rfl) (q2.at (j := 8) rfl) (q2.at (j := 9) rfl) (q2.at (j := 10) rfl) (q2.at (j := 11) rfl) (q2.at (j := 12) rfl) (q2.at (j := 13) rfl) (q2.at (j := 14) rfl)) (QG8 (q3.at (j := 0) rfl) (q3.at (j := 1) rfl))) ⟨by rw [hfit]; rfl, hbw⟩
       ·
        refine EL.val (Zo (k := 1) rfl rfl (by omega)) rfl ?_
        refine EL.val (ld_3 rfl (q1.at (j := 13) rfl)) rfl (EL.mv rfl rfl (EL.val (Zs rfl) rfl ?_));refine EL.val (ZP rfl rfl (c := ((M.t1 + ts.length : Nat) : Int)) ((IntWalk.i64_in _ ⟨by omega, by omega⟩).trans (by show _ = ((M.t1 + ts.length : Nat) : Int); omega))) rfl ?_
        refine EL.val (Zr rfl) rfl ?_;refine EL.val (Zo (k := 1) rfl rfl (by omega)) rfl ?_
        refine EL.store rfl rfl q1 sz_3 rfl rfl rfl rfl ?_;intro w25 hq25 hg25;replace q2 := q2.gr hg25 n1_2.symm;replace q3 := q3.gr hg25 n1_3.symm;replace hbw := ZD hbw hg25 bhbw_1;replace q1 := hq25;clear hg25 hq25;refine EL.nil (EX.seq (EC.seq ?_));replace q1 : Blk w25 g1 114 (stB (tkS s ts true)) := by rw [htk]; exact q1
        have lt_1 := q1.lt;have lt_2 := q2.lt;have lt_3 := q3.lt;refine EC.regionS [[], [], [0], [0, 1, 2], [0, 1, 2, 3]] 3 [] [2] (fun fl w_ => w25.grownBy w_ (some g2) ∧ (fl 2 = false → Blk w_ g2 114 _)) (phiS (fun i_ r => match i_ with | 0 => r 0 = (stA (tkS s ts true)) | 1 => r 1 = .agg #[.int .i64 Rn.start, .int .i64 Rn.stop] | _ => True) [(2, fun _ r w_ => Blk w_ g2 114 (stB (tkS s ts true)))]) (by kernel_rfl) rfl rfl (by intro i hi; simp at hi; first | (subst hi; exact ⟨by simp, by omega⟩) | (rcases hi with rfl | rfl | rfl <;> exact ⟨by simp, by omega⟩) | (rcases hi with rfl | rfl <;> exact ⟨by simp, by omega⟩)) (QAA q2) (ZK QAH (Zb)) (fun i_ hi_ hs_ => ?_) (fun i_ hi_ => ?_) ?_
        ·match i_, hi_ with
         | 0, _ =>
          intro val fl w1 a hb ha hd hfl;obtain ⟨hb, hg0⟩ := hb;have ha := ha.s0 (d := 3) rfl
          exact ZC ha rfl rfl (YB rfl ((q1.grown hb (fun h => n1_2 (Option.some.inj h))).at (j := 0) rfl) ((q1.grown hb (fun h => n1_2 (Option.some.inj h))).at (j := 1) rfl) ((q1.grown hb (fun h => n1_2 (Option.some.inj h))).at (j := 2) rfl) ((q1.grown hb (fun h => n1_2 (Option.some.inj h))).at (j := 3) rfl) ((q1.grown hb (fun h => n1_2 (Option.some.inj h))).at (j := 4) rfl) ((q1.grown hb (fun h => n1_2 (Option.some.inj h))).at (j := 5) rfl) ((q1.grown hb (fun h => n1_2 (Option.some.inj h))).at (j := 6) rfl) ((q1.grown hb (fun h => n1_2 (Option.some.inj h))).at (j := 7) rfl) ((q1.grown hb (fun h => n1_2 (Option.some.inj h))).at (j := 8) rfl) ((q1.grown hb (fun h => n1_2 (Option.some.inj h))).at (j := 9) rfl) ((q1.grown hb (fun h => n1_2 (Option.some.inj h))).at (j := 10) rfl) ((q1.grown hb (fun h => n1_2 (Option.some.inj h))).at (j := 11) rfl) ((q1.grown hb (fun h => n1_2 (Option.some.inj h))).at (j := 12) rfl) ((q1.grown hb (fun h => n1_2 (Option.some.inj h))).at (j := 13) rfl) ((q1.grown hb (fun h => n1_2 (Option.some.inj h))).at (j := 14) rfl)) rfl rfl
         | 1, _ =>
          intro val fl w1 a hb ha hd hfl;obtain ⟨hb, hg0⟩ := hb;have ha := ha.s0 (d := 7) rfl
          exact ZC ha rfl rfl (QC2 rfl ((q3.grown hb (fun h => n2_3.symm (Option.some.inj h))).at (j := 0) rfl) ((q3.grown hb (fun h => n2_3.symm (Option.some.inj h))).at (j := 1) rfl)) rfl rfl
         | 2, _ =>
          exact absurd (by simp) hs_
         | k + 3, h => exact absurd h (by omega)
        ·simp only [List.mem_singleton] at hi_; subst hi_
         intro val fl w1 a hb hfi ha hd hfl;obtain ⟨hb, hg0⟩ := hb;have e0 : val 0 = _ := hd 0 (ZA.1 rfl);have ha := ha.sub (Sub.ins (d := 167) (Sub.ins (d := 6) (Sub.nil _) rfl) (ZO rfl e0));refine Zc ha rfl rfl rfl (hg0 hfi) Z9 rfl rfl rfl rfl ?_;intro w' hq hgr;refine ⟨undef, rfl, hgr.size, ⟨Z3 hb hgr, fun h => by rw [ZQ] at h; cases h⟩, hq, fun j _ hj hn hA => ?_⟩
         exact ZF (C := fun j => j ≠ 2 ∧ 2 ∉ clsAt [[], [], [0], [0, 1, 2], [0, 1, 2, 3]] j ∧ ∀ p ∈ [], (p = j ∨ p ∈ clsAt [[], [], [0], [0, 1, 2], [0, 1, 2, 3]] j) → ∀ q ∈ [], (q = 2 ∨ q ∈ clsAt [[], [], [0], [0, 1, 2], [0, 1, 2, 3]] 2) → p ≠ q → val p ≠ val q) (fun hc => absurd rfl hc.1) (fun _ _ h => h) j ⟨hj, hn, hA⟩
        ·intro val fl wR30 hfl hb halc hd
         obtain ⟨hb, _⟩ := hb;have e0 : val 0 = _ := hd 0 (by omega)
         have e1 : val 1 = _ := hd 1 (by omega)
         refine EL.ends (cs := [_, _, val 2]) ⟨e0, e1, rfl, trivial⟩ rfl ?_;replace q1 := q1.gr hb n1_2;have q2 : Blk wR30 g2 114 (stB (tkS s ts true)) := hd 2 (by omega)
         replace q3 := q3.gr hb n2_3.symm;replace hbw := ZD hbw hb bhbw_2;refine EL.store rfl rfl q3 QAw rfl rfl rfl rfl ?_;intro w26 hq26 hg26;replace q1 := q1.gr hg26 n1_3;replace q2 := q2.gr hg26 n2_3;replace hbw := ZD hbw hg26 bhbw_3;replace q3 := hq26;clear hg26 hq26;refine EL.as rfl rfl (EL.nil (EX.seq (EC.ret ?_)))
         exact EX.done (QEV rfl rfl rfl rfl (QAP (q2.at (j := 0) rfl) (q2.at (j := 1) rfl) (q2.at (j := 2) rfl) (q2.at (j := 3) rfl) (q2.at (j := 4) rfl) (q2.at (j := 5) rfl) (q2.at (j := 6) rfl) (q2.at (j := 7) rfl) (q2.at (j := 8) rfl) (q2.at (j := 9) rfl) (q2.at (j := 10) rfl) (q2.at (j := 11) rfl) (q2.at (j := 12) rfl) (q2.at (j := 13) rfl) (q2.at (j := 14) rfl)) (QG8 (q3.at (j := 0) rfl) (q3.at (j := 1) rfl))) ⟨by rw [hfit]; rfl, hbw⟩
  ·
   refine EL.val (Zm (r := false) rfl rfl (decide_eq_false (by omega))) rfl ?_
   refine EL.mv rfl rfl (EL.skip rfl rfl rfl rfl (EL.skip rfl rfl rfl rfl (EL.skip rfl rfl rfl rfl (EL.skip rfl rfl rfl rfl (EL.skip rfl rfl rfl rfl (EL.skip rfl rfl rfl rfl (EL.pf rfl rfl rfl (EL.nil (EX.seq ?_)))))))));refine EC.no rfl (EC.skip (EX.seq ?_));have hfit : fitB s.lk.length ts = true := by unfold fitB; simp [h1]
   obtain ⟨hr1, hr2, hr3, hr4, hr5, hr6⟩ := QET (u := u) h hts (hlen ▸ hfit) h8;refine EC.cutD [45, 46, 47, 48, 49, 50, 51, 52, 53, 54, 55, 56, 57, 58, 59, 60, 61, 62, 63] (fun _ : Unit => []) (fun _ W => Blk W g1 114 (stB (Ze s u)) ∧ Blk W g2 114 #[.int .i64 0, .int .i64 0, .int .i64 0, .int .i64 0, .int .i64 0, .bool false, .int .i64 0, .int .i64 0, .int .i64 0, .int .i64 0, .int .i64 0, .int .i64 0, .int .i64 0, .int .i64 0, .int .i64 0] ∧ Blk W g3 49 #[.int .i64 0, .int .i64 0] ∧ Below w.heap.size w W) ?_ ?_
   ·
    have hmr := (QAl s).1;have hml : (mvS s).lk.turn = s.lk.turn := by rw [QCV]; rfl
    have hfr := h.fr;have hlb := Y_ h.okL;refine EC.seq (EC.region (EL.val (ZN rfl) rfl (EL.val (ZY rfl) rfl (EL.val (QA5 rfl) rfl (EL.val (ld_4 rfl (q1.at (j := 5) rfl)) rfl (EL.mv rfl rfl (EL.val (QFq rfl) rfl ?_)))))))
    by_cases hh : s.lk.high = u
    ·
     refine EL.val (QDT (r := true) rfl rfl (decide_eq_true hh)) rfl (EL.nil (EX.seq (EC.yes rfl (EC.seq (EC.region (EL.val (ZN rfl) rfl ?_))))));refine EL.call (cA1 cF76 rfl) rfl (QAL (s := s) q1 h.okL h.wt (by omega)) ?_
     rintro e w27 ⟨rfl, hq27, hg27⟩
     refine ⟨_, rfl, ?_⟩;replace q2 := q2.gr hg27 n1_2.symm;replace q3 := q3.gr hg27 n1_3.symm;replace hbw := ZD hbw hg27 bhbw_1;replace q1 := hq27;clear hg27 hq27;refine EL.nil (EX.seq (EC.region (EL.val (ZN rfl) rfl (EL.val (QAN rfl) rfl (EL.val (ld_3 rfl (q1.at (j := 11) rfl)) rfl (EL.val (ZN rfl) rfl (EL.val (ZY rfl) rfl (EL.val (Yw rfl) rfl (EL.val (ld_3 rfl (q1.at (j := 2) rfl)) rfl ?_)))))))));refine EL.val (ZP rfl rfl (c := (mvS s).fr + (mvS s).lk.turn) (IntWalk.i64_in _ ⟨by omega, by omega⟩)) rfl ?_
     refine EL.val (ZN rfl) rfl (EL.val (QAN rfl) rfl (EL.store rfl rfl q1 sz_3 rfl rfl rfl rfl ?_));intro w28 hq28 hg28;replace q2 := q2.gr hg28 n1_2.symm;replace q3 := q3.gr hg28 n1_3.symm;replace hbw := ZD hbw hg28 bhbw_1;replace q1 := hq28;clear hg28 hq28;refine EL.nil ?_
     exact EX.cutE () trivial (by repeat first | with_reducible exact (Sub.refl _).del _ | refine sp_ rfl ?_ | exact (Sub.refl _).del _ | refine sd_ rfl ?_ | refine sn_ ?_) ⟨by unfold Ze; rw [if_pos hh]; exact q1, q2, q3, hbw⟩
    ·
     refine EL.val (QDT (r := false) rfl rfl (decide_eq_false hh)) rfl (EL.nil (EX.seq (EC.no rfl (EC.skip ?_))))
     exact EX.cutE () trivial (by repeat first | with_reducible exact (Sub.refl _).del _ | refine sp_ rfl ?_ | exact (Sub.refl _).del _ | refine sd_ rfl ?_ | refine sn_ ?_) ⟨by unfold Ze; rw [if_neg hh]; exact q1, q2, q3, hbw⟩
   ·
    clear q1 q2 q3 hbw
    rintro ⟨⟩ W2 ⟨q1, q2, q3, hbw⟩
    have hSk : (Ze s u).lk = lkW s.lk (!u) := QBF s u;have hSL : lkB (Ze s u).lk = true := by rw [hSk]; exact h.okL
    have hSW := QDv (u := u) h.wt h.okL;have hSr := QBR s u;have hSc := h.cost;have hrd : runT s ts u = ⟨max (Ze s u).fr (arrT ts), max (Ze s u).fr (arrT ts) - s.lk.turn + partsN (ZW ts) s.lk.length * (s.lk.turn + s.lk.cycle)⟩ := rfl;have hmd : midS s ts u = mvN (2 * partsN (ZW ts) s.lk.length - 1) (Ze s u) := rfl;have htk : tkS s ts u = endS (outS (midS s ts u) ts u (runT s ts u).stop) ts.length u (runT s ts u).stop := rfl
    generalize Ze s u = S at *
    have hSl : S.lk.length = s.lk.length := by rw [hSk]; rfl
    have hSt : S.lk.turn = s.lk.turn := by rw [hSk]; rfl
    have hSy : S.lk.cycle = s.lk.cycle := by rw [hSk]; rfl
    have hlb := Y_ h.okL;refine EC.seq (EC.region (EL.val (ZN rfl) rfl (EL.val (QAN rfl) rfl (EL.val (ld_3 rfl (q1.at (j := 11) rfl)) rfl (EL.mv rfl rfl (EL.val (QEi rfl rfl rfl) rfl (EL.val (QC_ rfl) rfl (EL.store rfl rfl q3 sz_3 rfl rfl rfl rfl ?_))))))));intro w29 hq29 hg29;replace q1 := q1.gr hg29 n1_3;replace q2 := q2.gr hg29 n2_3;replace hbw := ZD hbw hg29 bhbw_3;replace q3 := hq29;clear hg29 hq29;refine EL.nil (EX.seq (EC.seq (EC.region (EL.val (QC_ rfl) rfl (EL.val (ld_3 rfl (q3.at (j := 0) rfl)) rfl (EL.val (ZN rfl) rfl (EL.val (ZY rfl) rfl (EL.val (Yw rfl) rfl (EL.val (ld_3 rfl (q1.at (j := 2) rfl)) rfl ?_)))))))));refine EL.val (Zv rfl rfl (c := max S.fr (arrT ts) - s.lk.turn) ((IntWalk.i64_in _ ⟨by omega, by omega⟩).trans (by rw [hSt]))) rfl ?_
    refine EL.val (YF rfl) rfl (EL.store rfl rfl q3 sz_3 rfl rfl rfl rfl ?_);intro w30 hq30 hg30;replace q1 := q1.gr hg30 n1_3;replace q2 := q2.gr hg30 n2_3;replace hbw := ZD hbw hg30 bhbw_3;replace q3 := hq30;clear hg30 hq30;refine EL.nil (EX.seq (EC.seq (EC.seq (EC.region (EL.mv rfl rfl (EL.as rfl rfl (EL.nil (EX.seq (EC.block ?_)))))))));obtain ⟨p, hp⟩ : ∃ p, p = partsN (ZW ts) s.lk.length := ⟨_, rfl⟩;rw [← hp] at hrd hmd;have hp3 : p ≤ 3 := by rw [hp]; exact hlen ▸ QBv hts h.ok (hlen ▸ hfit)
    have hplt := fun j => QCq (long := ZW ts) (L := s.lk.length) (by omega) j
    rw [← hp] at hplt;have hz0 : (max S.fr (arrT ts)) - s.lk.turn = (((0 : Nat) : Int)) * (s.lk.turn + s.lk.cycle) + ((max S.fr (arrT ts)) - s.lk.turn) := by simp
    rw [hz0] at q3;refine EC.loopD [13, 79, 80, 81, 82, 83, 84, 85, 86, 87, 88, 89, 90, 91, 92, 93, 94, 95, 96, 97, 98, 99, 100, 101, 102, 103, 104, 105, 106] (fun j : Nat => [(13, .int .i64 (ZW ts - ((j : Nat) : Int) * s.lk.length))]) (fun j W => j ≤ p ∧ Blk W g1 114 (stB (mvN (2 * j - 1) S)) ∧ Blk W g2 114 #[.int .i64 0, .int .i64 0, .int .i64 0, .int .i64 0, .int .i64 0, .bool false, .int .i64 0, .int .i64 0, .int .i64 0, .int .i64 0, .int .i64 0, .int .i64 0, .int .i64 0, .int .i64 0, .int .i64 0] ∧ Blk W g3 49 #[.int .i64 (max S.fr (arrT ts)), .int .i64 (((j : Nat) : Int) * (s.lk.turn + s.lk.cycle) + ((max S.fr (arrT ts)) - s.lk.turn))] ∧ Below w.heap.size w W) (fun j => p - j) 0 ⟨Nat.zero_le _, q1, q2, q3, hbw⟩ ⟨QCJ (by simp) rfl, trivial⟩ ?_
    clear q1 q2 q3 hbw
    rintro j wj ⟨hj, q1, q2, q3, hbw⟩
    by_cases hltj : j < p
    ·
     have hjl := (hplt j).2 hltj;have hjb : 0 ≤ (j : Int) * s.lk.length ∧ (j : Int) * s.lk.length ≤ 3 * 500 := ⟨Int.mul_nonneg (by omega) (by omega), Int.mul_le_mul (by omega) (by omega) (by omega) (by omega)⟩
     have hjc : 0 ≤ (j : Int) * (s.lk.turn + s.lk.cycle) ∧ (j : Int) * (s.lk.turn + s.lk.cycle) ≤ 3 * 1000 := ⟨Int.mul_nonneg (by omega) (by omega), Int.mul_le_mul (by omega) (by omega) (by omega) (by omega)⟩
     have hj1 : ((j + 1 : Nat) : Int) * s.lk.length = j * s.lk.length + s.lk.length := by rw [Int.natCast_add, Int.add_mul]; simp
     have hj2 : ((j + 1 : Nat) : Int) * (s.lk.turn + s.lk.cycle) = j * (s.lk.turn + s.lk.cycle) + (s.lk.turn + s.lk.cycle) := by rw [Int.natCast_add, Int.add_mul]; simp
     have hXL := QF8 (n := 2 * j - 1) hSL;have hXW := QEh hSW hSL (2 * j - 1);have hX1 : (mvN (2 * (j + 1) - 1) S).lk.turn = s.lk.turn ∧ (mvN (2 * (j + 1) - 1) S).lk.cycle = s.lk.cycle ∧ (mvN (2 * (j + 1) - 1) S).lk.length = s.lk.length := by obtain ⟨hv, he⟩ := QEg (2 * (j + 1) - 1) S; rw [he]; exact ⟨hSt, hSy, hSl⟩
     have hjz : j = 0 ∨ 0 < j := by omega
     have hjp : 0 < j → 0 < (j : Int) * s.lk.length := fun h => Int.mul_pos (by omega) (by omega)
     refine EC.seq (EC.seq (EC.region (EL.mv rfl rfl ?_)));refine EL.val (Zm (r := true) rfl rfl (decide_eq_true (by have := hplt j; omega))) rfl ?_
     refine EL.nil (EX.seq (EC.yes rfl (EC.skip (EX.seq (EC.seq (EC.block (EC.seq (EC.seq (EC.region ?_)))))))));refine EL.mv rfl rfl (EL.mv rfl rfl ?_)
     by_cases hj0 : 0 < j
     ·
      have hXe : (mvS (mvS (mvN (2 * j - 1) S))) = (mvN (2 * (j + 1) - 1) S) := by rw [show 2 * (j + 1) - 1 = (2 * j - 1) + 1 + 1 by omega]; rfl
      refine EL.val (ZS (r := true) rfl rfl (decide_eq_true (by have := hjp hj0; omega))) rfl ?_
      refine EL.nil (EX.seq (EC.yes rfl (EC.region (EL.val (ZN rfl) rfl ?_))));refine EL.call (cA1 cF76 rfl) rfl (QAL (s := (mvN (2 * j - 1) S)) q1 hXL hXW (by omega)) ?_
      rintro e w31 ⟨rfl, hq31, hg31⟩
      refine ⟨_, rfl, ?_⟩;replace q2 := q2.gr hg31 n1_2.symm;replace q3 := q3.gr hg31 n1_3.symm;replace hbw := ZD hbw hg31 bhbw_1;replace q1 := hq31;clear hg31 hq31;refine EL.nil (EX.seq (EC.seq (EC.region (EL.val (ZN rfl) rfl ?_))));refine EL.call (cA1 cF76 rfl) rfl (QAL (s := (mvS (mvN (2 * j - 1) S))) q1 (QIf hXL) (QG2 hXW hXL) (by omega)) ?_
      rintro e w32 ⟨rfl, hq32, hg32⟩
      refine ⟨_, rfl, ?_⟩;replace q2 := q2.gr hg32 n1_2.symm;replace q3 := q3.gr hg32 n1_3.symm;replace hbw := ZD hbw hg32 bhbw_1;replace q1 := hq32;clear hg32 hq32;rw [hXe] at q1;replace q1 : Blk w32 g1 114 (stB (mvN (2 * (j + 1) - 1) S)) := q1;refine EL.nil (EX.seq (EC.region (EL.val (YF rfl) rfl (EL.val (ld_3 rfl (q3.at (j := 1) rfl)) rfl (EL.val (ZN rfl) rfl (EL.val (ZY rfl) rfl (EL.val (Yw rfl) rfl (EL.val (ld_3 rfl (q1.at (j := 2) rfl)) rfl (EL.val (ZN rfl) rfl ?_)))))))));refine EL.val (ZY rfl) rfl (EL.val (QBc rfl) rfl (EL.val (ld_3 rfl (q1.at (j := 1) rfl)) rfl ?_));refine EL.val (ZP rfl rfl (c := s.lk.turn + s.lk.cycle) ((IntWalk.i64_in _ ⟨by omega, by omega⟩).trans (by rw [hX1.1, hX1.2.1]))) rfl ?_
      refine EL.val (ZP rfl rfl (c := ((j + 1 : Nat) : Int) * (s.lk.turn + s.lk.cycle) + ((max S.fr (arrT ts)) - s.lk.turn)) ((IntWalk.i64_in _ ⟨by omega, by omega⟩).trans (by omega))) rfl ?_
      refine EL.val (YF rfl) rfl (EL.store rfl rfl q3 sz_3 rfl rfl rfl rfl ?_);intro w33 hq33 hg33;replace q1 := q1.gr hg33 n1_3;replace q2 := q2.gr hg33 n2_3;replace hbw := ZD hbw hg33 bhbw_3;replace q3 := hq33;clear hg33 hq33;refine EL.nil (EX.blk (EX.seq (EC.region (EL.mv rfl rfl (EL.val (ZN rfl) rfl (EL.val (ZY rfl) rfl (EL.val (Yx rfl) rfl (EL.val (ld_3 rfl (q1.at (j := 0) rfl)) rfl ?_))))))));refine EL.val (Zv rfl rfl (c := ZW ts - ((j + 1 : Nat) : Int) * s.lk.length) ((IntWalk.i64_in _ ⟨by omega, by omega⟩).trans (by rw [hX1.2.2]; omega))) rfl ?_
      refine EL.as rfl rfl (EL.nil ?_);refine EX.roundD (j + 1) ⟨rfl, trivial⟩ (by repeat first | with_reducible exact .refl _ | refine sp_ rfl ?_ | exact .refl _ | refine sd_ rfl ?_ | refine sn_ ?_) ⟨hltj, q1, q2, q3, hbw⟩ (by omega)
     ·
      have hXe : (mvS (mvN (2 * j - 1) S)) = (mvN (2 * (j + 1) - 1) S) := by rw [show j = 0 by omega]; rfl
      refine EL.val (ZS (r := false) rfl rfl (decide_eq_false (by rw [show j = 0 by omega]; simp))) rfl ?_
      refine EL.nil (EX.seq (EC.no rfl (EC.skip (EX.seq (EC.seq (EC.region (EL.val (ZN rfl) rfl ?_)))))));refine EL.call (cA1 cF76 rfl) rfl (QAL (s := (mvN (2 * j - 1) S)) q1 hXL hXW (by omega)) ?_
      rintro e w34 ⟨rfl, hq34, hg34⟩
      refine ⟨_, rfl, ?_⟩;replace q2 := q2.gr hg34 n1_2.symm;replace q3 := q3.gr hg34 n1_3.symm;replace hbw := ZD hbw hg34 bhbw_1;replace q1 := hq34;clear hg34 hq34;rw [hXe] at q1;replace q1 : Blk w34 g1 114 (stB (mvN (2 * (j + 1) - 1) S)) := q1;refine EL.nil (EX.seq (EC.region (EL.val (YF rfl) rfl (EL.val (ld_3 rfl (q3.at (j := 1) rfl)) rfl (EL.val (ZN rfl) rfl (EL.val (ZY rfl) rfl (EL.val (Yw rfl) rfl (EL.val (ld_3 rfl (q1.at (j := 2) rfl)) rfl (EL.val (ZN rfl) rfl ?_)))))))));refine EL.val (ZY rfl) rfl (EL.val (QBc rfl) rfl (EL.val (ld_3 rfl (q1.at (j := 1) rfl)) rfl ?_));refine EL.val (ZP rfl rfl (c := s.lk.turn + s.lk.cycle) ((IntWalk.i64_in _ ⟨by omega, by omega⟩).trans (by rw [hX1.1, hX1.2.1]))) rfl ?_
      refine EL.val (ZP rfl rfl (c := ((j + 1 : Nat) : Int) * (s.lk.turn + s.lk.cycle) + ((max S.fr (arrT ts)) - s.lk.turn)) ((IntWalk.i64_in _ ⟨by omega, by omega⟩).trans (by omega))) rfl ?_
      refine EL.val (YF rfl) rfl (EL.store rfl rfl q3 sz_3 rfl rfl rfl rfl ?_);intro w35 hq35 hg35;replace q1 := q1.gr hg35 n1_3;replace q2 := q2.gr hg35 n2_3;replace hbw := ZD hbw hg35 bhbw_3;replace q3 := hq35;clear hg35 hq35;refine EL.nil (EX.blk (EX.seq (EC.region (EL.mv rfl rfl (EL.val (ZN rfl) rfl (EL.val (ZY rfl) rfl (EL.val (Yx rfl) rfl (EL.val (ld_3 rfl (q1.at (j := 0) rfl)) rfl ?_))))))));refine EL.val (Zv rfl rfl (c := ZW ts - ((j + 1 : Nat) : Int) * s.lk.length) ((IntWalk.i64_in _ ⟨by omega, by omega⟩).trans (by rw [hX1.2.2]; omega))) rfl ?_
      refine EL.as rfl rfl (EL.nil ?_);refine EX.roundD (j + 1) ⟨rfl, trivial⟩ (by repeat first | with_reducible exact .refl _ | refine sp_ rfl ?_ | exact .refl _ | refine sd_ rfl ?_ | refine sn_ ?_) ⟨hltj, q1, q2, q3, hbw⟩ (by omega)
    ·
     obtain rfl : j = p := by omega
     rw [← hmd] at q1;have hMB := QEh hSW hSL (2 * j - 1);have hMr := QCw (2 * j - 1) S;rw [← hmd] at hMB hMr
     generalize runT s ts u = Rn at *
     generalize midS s ts u = M at *
     have hRs : (max S.fr (arrT ts)) = Rn.start := by rw [hrd]
     have hRe : ((j : Nat) : Int) * (s.lk.turn + s.lk.cycle) + ((max S.fr (arrT ts)) - s.lk.turn) = Rn.stop := by rw [hrd]; simp only; omega
     rw [hRe, hRs] at q3;have hMB2 := hMB.mono (M := 100000000) (by omega)
     refine EC.seq (EC.seq (EC.region (EL.mv rfl rfl ?_)));refine EL.val (Zm (r := false) rfl rfl (decide_eq_false (by have := hplt j; omega))) rfl ?_
     refine EL.nil (EX.seq (EC.no rfl (EC.exit (EX.seq_exit (EX.seq_exit (EX.blk_here (EX.seq (EC.seq (EC.seq ?_)))))))));refine EC.region (EL.mv rfl rfl (EL.val (Zs rfl) rfl (EL.mv rfl rfl (EL.nil (EX.seq (EC.block ?_))))));have hO0 : outS M (ts.take 0) u Rn.stop = M := QEc M u Rn.stop;rw [← hO0] at q1;refine EC.loopD [15, 16, 109, 110, 111, 112, 113, 114, 115, 116, 117, 118, 119, 120, 121, 122, 123, 124, 125, 126, 127, 128, 129, 130, 131, 132, 133, 134, 135, 136, 137, 138, 139, 140, 141, 142, 143, 144, 145, 146, 147, 148, 149, 150, 151, 152, 153] (fun k : Nat => [(109, .int .i64 (k : Nat))]) (fun k W => k ≤ ts.length ∧ Blk W g1 114 (stB (outS M (ts.take k) u Rn.stop)) ∧ Blk W g2 114 #[.int .i64 0, .int .i64 0, .int .i64 0, .int .i64 0, .int .i64 0, .bool false, .int .i64 0, .int .i64 0, .int .i64 0, .int .i64 0, .int .i64 0, .int .i64 0, .int .i64 0, .int .i64 0, .int .i64 0] ∧ Blk W g3 49 #[.int .i64 Rn.start, .int .i64 Rn.stop] ∧ Below w.heap.size w W) (fun k => ts.length - k) 0 ⟨Nat.zero_le _, q1, q2, q3, hbw⟩ ⟨rfl, trivial⟩ ?_
     clear q1 q2 q3 hbw
     rintro k wk ⟨hk, q1, q2, q3, hbw⟩
     by_cases hltk : k < ts.length
     ·
      obtain ⟨b, o, rfl, _, cc⟩ := Zy ts k hltk w B _ _ _ hr;have hy := hts _ (Z1 hltk tw0);have hos := QDX M (ts.take k) (ts.getD k tw0) u Rn.stop;rw [← Zz hltk] at hos;obtain ⟨ob1, ob2, ob3⟩ := QHv (e := Rn.stop) u hMB2 hts h8n ⟨by omega, by omega⟩ k
      generalize ts.getD k tw0 = y at cc hy hos
      obtain ⟨y1, y2, y3, y4⟩ := QAg hy;have hcb := QD9 (e := Rn.stop) hy ⟨by omega, by omega⟩
      have hpb := QF1 u hy;have hwb := QJu u;refine EC.seq (EC.region ?_);refine EL.val (ZS (r := true) rfl rfl (decide_eq_true (by omega))) rfl ?_
      refine EL.nil (EX.seq (EC.seq (EC.yes rfl (EC.skip (EX.seq (EC.seq (EC.block (EC.seq (EC.region ?_)))))))));refine EL.val (YR rfl rfl hltk) rfl (EL.val (QAU rfl (ZB hbw cc.c0) (ZB hbw cc.c1) (ZB hbw cc.c2) (ZB hbw cc.c3) (ZB hbw cc.c4)) rfl (EL.newP QHb rfl ?_));intro g36 w36 q36 hb36 hg36 hl36;have n1_36 := q1.na hg36;have n2_36 := q2.na hg36;have n3_36 := q3.na hg36;have bhbw_36 := Nat.le_trans hbw.size hg36;replace q1 := q1.bl hb36;replace q2 := q2.bl hb36;replace q3 := q3.bl hb36;replace hbw := bo_ hbw hb36;clear hb36 hg36 hl36;refine EL.store rfl rfl q36 QEK rfl rfl rfl rfl ?_;intro w37 hq37 hg37;replace q1 := q1.gr hg37 n1_36;replace q2 := q2.gr hg37 n2_36;replace q3 := q3.gr hg37 n3_36;replace hbw := ZD hbw hg37 bhbw_36;replace q36 := hq37;clear hg37 hq37;refine EL.nil (EX.seq (EC.seq (EC.region (EL.val (YZ rfl) rfl (EL.val (ld_3 rfl (q1.at (j := 14) rfl)) rfl (EL.val (QDD rfl) rfl (EL.val (ld_3 rfl (q36.at (j := 3) rfl)) rfl (EL.val (YF rfl) rfl (EL.val (ld_3 rfl (q3.at (j := 1) rfl)) rfl ?_)))))))));refine EL.val (Yn rfl) rfl (EL.val (ld_3 rfl (q36.at (j := 1) rfl)) rfl ?_);refine EL.val (Zv rfl rfl (by first | assumption | exact IntWalk.i64_in _ ⟨by omega, by omega⟩)) rfl ?_
      refine EL.val (QAR rfl rfl (by first | assumption | exact IntWalk.i64_in _ ⟨by omega, by omega⟩)) rfl ?_
      refine EL.val (ZP rfl rfl (by first | assumption | exact IntWalk.i64_in _ ⟨by omega, by omega⟩)) rfl ?_
      refine EL.val (YZ rfl) rfl (EL.store rfl rfl q1 sz_3 rfl rfl rfl rfl ?_);intro w38 hq38 hg38;replace q2 := q2.gr hg38 n1_2.symm;replace q3 := q3.gr hg38 n1_3.symm;replace q36 := q36.gr hg38 n1_36.symm;replace hbw := ZD hbw hg38 bhbw_1;replace q1 := hq38;clear hg38 hq38;refine EL.nil (EX.seq (EC.seq (EC.region (EL.val (QDC rfl) rfl (EL.val (ld_3 rfl (q36.at (j := 4) rfl)) rfl (EL.mv rfl rfl ?_))))));refine EL.val (QAR rfl rfl (by first | assumption | exact IntWalk.i64_in _ ⟨by omega, by omega⟩)) rfl ?_
      refine EL.val (Zv rfl rfl (by first | assumption | exact IntWalk.i64_in _ ⟨by omega, by omega⟩)) rfl ?_
      refine EL.val (QAR rfl rfl (by first | assumption | exact IntWalk.i64_in _ ⟨by omega, by omega⟩)) rfl ?_
      refine EL.as rfl rfl (EL.nil (EX.seq (EC.region (EL.val (ZN rfl) rfl (EL.val (Za rfl) rfl (EL.val (Zi rfl) rfl (EL.val (YD rfl) rfl (EL.val (ld_3 rfl (q1.at (j := 6) rfl)) rfl (EL.mv rfl rfl ?_)))))))));refine EL.val (Zv rfl rfl (by first | assumption | exact IntWalk.i64_in _ ⟨by omega, by omega⟩)) rfl ?_
      refine EL.val (ZN rfl) rfl (EL.val (Za rfl) rfl (EL.val (Zi rfl) rfl (EL.val (QAI rfl) rfl (EL.val (ld_3 rfl (q1.at (j := 7) rfl)) rfl (EL.mv rfl rfl ?_)))));refine EL.val (ZP rfl rfl (by first | assumption | exact IntWalk.i64_in _ ⟨by omega, by omega⟩)) rfl ?_
      refine EL.val (ZN rfl) rfl (EL.val (Za rfl) rfl (EL.val (Zi rfl) rfl (EL.val (YD rfl) rfl (EL.store rfl rfl q1 sz_3 rfl rfl rfl rfl ?_))));intro w39 hq39 hg39;replace q2 := q2.gr hg39 n1_2.symm;replace q3 := q3.gr hg39 n1_3.symm;replace q36 := q36.gr hg39 n1_36.symm;replace hbw := ZD hbw hg39 bhbw_1;replace q1 := hq39;clear hg39 hq39;refine EL.val (ZN rfl) rfl (EL.val (Za rfl) rfl (EL.val (Zi rfl) rfl (EL.val (QAI rfl) rfl (EL.store rfl rfl q1 sz_3 rfl rfl rfl rfl ?_))));intro w40 hq40 hg40;replace q2 := q2.gr hg40 n1_2.symm;replace q3 := q3.gr hg40 n1_3.symm;replace q36 := q36.gr hg40 n1_36.symm;replace hbw := ZD hbw hg40 bhbw_1;replace q1 := hq40;clear hg40 hq40;refine EL.nil (EX.blk (EX.seq (EC.region ?_)));refine EL.val (ZP rfl rfl (c := ((k + 1 : Nat) : Int)) ((IntWalk.i64_in _ ⟨by first | omega | (simp only; omega), by first | omega | (simp only; omega)⟩).trans (by first | omega | (simp only; omega)))) rfl ?_
      refine EL.mv rfl rfl (EL.nil ?_);refine EX.roundD (k + 1) ⟨rfl, trivial⟩ (by repeat first | with_reducible exact .refl _ | refine sp_ rfl ?_ | exact .refl _ | refine sd_ rfl ?_ | refine sn_ ?_) ⟨hltk, (by rw [hos]; exact q1), q2, q3, hbw⟩ (by omega)
     ·
      obtain rfl : k = ts.length := by omega
      rw [List.take_length] at q1;refine EC.seq (EC.region ?_);refine EL.val (ZS (r := false) rfl rfl (decide_eq_false (by omega))) rfl ?_
      refine EL.nil (EX.seq (EC.seq (EC.no rfl (EC.exit (EX.seq_exit (EX.seq_exit (EX.blk_here (EX.seq (EC.seq ?_)))))))));refine EC.region (EL.val (YF rfl) rfl (EL.val (ld_3 rfl (q3.at (j := 1) rfl)) rfl (EL.val (ZN rfl) rfl (EL.val (QAN rfl) rfl (EL.store rfl rfl q1 sz_3 rfl rfl rfl rfl ?_)))));intro w41 hq41 hg41;replace q2 := q2.gr hg41 n1_2.symm;replace q3 := q3.gr hg41 n1_3.symm;replace hbw := ZD hbw hg41 bhbw_1;replace q1 := hq41;clear hg41 hq41;refine EL.nil (EX.seq (EC.seq (EC.region (EL.mv rfl rfl (EL.val (Zr rfl) rfl ?_)))));have hot0 : (outS M ts u Rn.stop).t0 = M.t0 := rfl;have hot1 : (outS M ts u Rn.stop).t1 = M.t1 := rfl;have ht0 : M.t0 = s.t0 := hMr.2.1.trans hSr.1;have ht1 : M.t1 = s.t1 := hMr.2.2.1.trans hSr.2.1
      cases u
      ·
       refine EL.val (Zo (k := 0) rfl rfl (by omega)) rfl ?_
       refine EL.val (ld_3 rfl (q1.at (j := 12) rfl)) rfl (EL.mv rfl rfl (EL.val (Zs rfl) rfl ?_));refine EL.val (ZP rfl rfl (c := ((M.t0 + ts.length : Nat) : Int)) ((IntWalk.i64_in _ ⟨by omega, by omega⟩).trans (by show _ = ((M.t0 + ts.length : Nat) : Int); omega))) rfl ?_
       refine EL.val (Zr rfl) rfl ?_;refine EL.val (Zo (k := 0) rfl rfl (by omega)) rfl ?_
       refine EL.store rfl rfl q1 sz_3 rfl rfl rfl rfl ?_;intro w42 hq42 hg42;replace q2 := q2.gr hg42 n1_2.symm;replace q3 := q3.gr hg42 n1_3.symm;replace hbw := ZD hbw hg42 bhbw_1;replace q1 := hq42;clear hg42 hq42;refine EL.nil (EX.seq (EC.seq ?_));replace q1 : Blk w42 g1 114 (stB (tkS s ts false)) := by rw [htk]; exact q1
       have lt_1 := q1.lt;have lt_2 := q2.lt;have lt_3 := q3.lt;refine EC.regionS [[], [], [0], [0, 1, 2], [0, 1, 2, 3]] 3 [] [2] (fun fl w_ => w42.grownBy w_ (some g2) ∧ (fl 2 = false → Blk w_ g2 114 _)) (phiS (fun i_ r => match i_ with | 0 => r 0 = (stA (tkS s ts false)) | 1 => r 1 = .agg #[.int .i64 Rn.start, .int .i64 Rn.stop] | _ => True) [(2, fun _ r w_ => Blk w_ g2 114 (stB (tkS s ts false)))]) (by kernel_rfl) rfl rfl (by intro i hi; simp at hi; first | (subst hi; exact ⟨by simp, by omega⟩) | (rcases hi with rfl | rfl | rfl <;> exact ⟨by simp, by omega⟩) | (rcases hi with rfl | rfl <;> exact ⟨by simp, by omega⟩)) (QAA q2) (ZK QAH (Zb)) (fun i_ hi_ hs_ => ?_) (fun i_ hi_ => ?_) ?_
       ·match i_, hi_ with
        | 0, _ =>
         intro val fl w1 a hb ha hd hfl;obtain ⟨hb, hg0⟩ := hb;have ha := ha.s0 (d := 3) rfl
         exact ZC ha rfl rfl (YB rfl ((q1.grown hb (fun h => n1_2 (Option.some.inj h))).at (j := 0) rfl) ((q1.grown hb (fun h => n1_2 (Option.some.inj h))).at (j := 1) rfl) ((q1.grown hb (fun h => n1_2 (Option.some.inj h))).at (j := 2) rfl) ((q1.grown hb (fun h => n1_2 (Option.some.inj h))).at (j := 3) rfl) ((q1.grown hb (fun h => n1_2 (Option.some.inj h))).at (j := 4) rfl) ((q1.grown hb (fun h => n1_2 (Option.some.inj h))).at (j := 5) rfl) ((q1.grown hb (fun h => n1_2 (Option.some.inj h))).at (j := 6) rfl) ((q1.grown hb (fun h => n1_2 (Option.some.inj h))).at (j := 7) rfl) ((q1.grown hb (fun h => n1_2 (Option.some.inj h))).at (j := 8) rfl) ((q1.grown hb (fun h => n1_2 (Option.some.inj h))).at (j := 9) rfl) ((q1.grown hb (fun h => n1_2 (Option.some.inj h))).at (j := 10) rfl) ((q1.grown hb (fun h => n1_2 (Option.some.inj h))).at (j := 11) rfl) ((q1.grown hb (fun h => n1_2 (Option.some.inj h))).at (j := 12) rfl) ((q1.grown hb (fun h => n1_2 (Option.some.inj h))).at (j := 13) rfl) ((q1.grown hb (fun h => n1_2 (Option.some.inj h))).at (j := 14) rfl)) rfl rfl
        | 1, _ =>
         intro val fl w1 a hb ha hd hfl;obtain ⟨hb, hg0⟩ := hb;have ha := ha.s0 (d := 7) rfl
         exact ZC ha rfl rfl (QC2 rfl ((q3.grown hb (fun h => n2_3.symm (Option.some.inj h))).at (j := 0) rfl) ((q3.grown hb (fun h => n2_3.symm (Option.some.inj h))).at (j := 1) rfl)) rfl rfl
        | 2, _ =>
         exact absurd (by simp) hs_
        | k + 3, h => exact absurd h (by omega)
       ·simp only [List.mem_singleton] at hi_; subst hi_
        intro val fl w1 a hb hfi ha hd hfl;obtain ⟨hb, hg0⟩ := hb;have e0 : val 0 = _ := hd 0 (ZA.1 rfl);have ha := ha.sub (Sub.ins (d := 167) (Sub.ins (d := 6) (Sub.nil _) rfl) (ZO rfl e0));refine Zc ha rfl rfl rfl (hg0 hfi) Z9 rfl rfl rfl rfl ?_;intro w' hq hgr;refine ⟨undef, rfl, hgr.size, ⟨Z3 hb hgr, fun h => by rw [ZQ] at h; cases h⟩, hq, fun j _ hj hn hA => ?_⟩
        exact ZF (C := fun j => j ≠ 2 ∧ 2 ∉ clsAt [[], [], [0], [0, 1, 2], [0, 1, 2, 3]] j ∧ ∀ p ∈ [], (p = j ∨ p ∈ clsAt [[], [], [0], [0, 1, 2], [0, 1, 2, 3]] j) → ∀ q ∈ [], (q = 2 ∨ q ∈ clsAt [[], [], [0], [0, 1, 2], [0, 1, 2, 3]] 2) → p ≠ q → val p ≠ val q) (fun hc => absurd rfl hc.1) (fun _ _ h => h) j ⟨hj, hn, hA⟩
       ·intro val fl wR30 hfl hb halc hd
        obtain ⟨hb, _⟩ := hb;have e0 : val 0 = _ := hd 0 (by omega)
        have e1 : val 1 = _ := hd 1 (by omega)
        refine EL.ends (cs := [_, _, val 2]) ⟨e0, e1, rfl, trivial⟩ rfl ?_;replace q1 := q1.gr hb n1_2;have q2 : Blk wR30 g2 114 (stB (tkS s ts false)) := hd 2 (by omega)
        replace q3 := q3.gr hb n2_3.symm;replace hbw := ZD hbw hb bhbw_2;refine EL.store rfl rfl q3 QAw rfl rfl rfl rfl ?_;intro w43 hq43 hg43;replace q1 := q1.gr hg43 n1_3;replace q2 := q2.gr hg43 n2_3;replace hbw := ZD hbw hg43 bhbw_3;replace q3 := hq43;clear hg43 hq43;refine EL.as rfl rfl (EL.nil (EX.seq (EC.ret ?_)))
        exact EX.done (QEV rfl rfl rfl rfl (QAP (q2.at (j := 0) rfl) (q2.at (j := 1) rfl) (q2.at (j := 2) rfl) (q2.at (j := 3) rfl) (q2.at (j := 4) rfl) (q2.at (j := 5) rfl) (q2.at (j := 6) rfl) (q2.at (j := 7) rfl) (q2.at (j := 8) rfl) (q2.at (j := 9) rfl) (q2.at (j := 10) rfl) (q2.at (j := 11) rfl) (q2.at (j := 12) rfl) (q2.at (j := 13) rfl) (q2.at (j := 14) rfl)) (QG8 (q3.at (j := 0) rfl) (q3.at (j := 1) rfl))) ⟨by rw [hfit]; rfl, hbw⟩
      ·
       refine EL.val (Zo (k := 1) rfl rfl (by omega)) rfl ?_
       refine EL.val (ld_3 rfl (q1.at (j := 13) rfl)) rfl (EL.mv rfl rfl (EL.val (Zs rfl) rfl ?_));refine EL.val (ZP rfl rfl (c := ((M.t1 + ts.length : Nat) : Int)) ((IntWalk.i64_in _ ⟨by omega, by omega⟩).trans (by show _ = ((M.t1 + ts.length : Nat) : Int); omega))) rfl ?_
       refine EL.val (Zr rfl) rfl ?_;refine EL.val (Zo (k := 1) rfl rfl (by omega)) rfl ?_
       refine EL.store rfl rfl q1 sz_3 rfl rfl rfl rfl ?_;intro w44 hq44 hg44;replace q2 := q2.gr hg44 n1_2.symm;replace q3 := q3.gr hg44 n1_3.symm;replace hbw := ZD hbw hg44 bhbw_1;replace q1 := hq44;clear hg44 hq44;refine EL.nil (EX.seq (EC.seq ?_));replace q1 : Blk w44 g1 114 (stB (tkS s ts true)) := by rw [htk]; exact q1
       have lt_1 := q1.lt;have lt_2 := q2.lt;have lt_3 := q3.lt;refine EC.regionS [[], [], [0], [0, 1, 2], [0, 1, 2, 3]] 3 [] [2] (fun fl w_ => w44.grownBy w_ (some g2) ∧ (fl 2 = false → Blk w_ g2 114 _)) (phiS (fun i_ r => match i_ with | 0 => r 0 = (stA (tkS s ts true)) | 1 => r 1 = .agg #[.int .i64 Rn.start, .int .i64 Rn.stop] | _ => True) [(2, fun _ r w_ => Blk w_ g2 114 (stB (tkS s ts true)))]) (by kernel_rfl) rfl rfl (by intro i hi; simp at hi; first | (subst hi; exact ⟨by simp, by omega⟩) | (rcases hi with rfl | rfl | rfl <;> exact ⟨by simp, by omega⟩) | (rcases hi with rfl | rfl <;> exact ⟨by simp, by omega⟩)) (QAA q2) (ZK QAH (Zb)) (fun i_ hi_ hs_ => ?_) (fun i_ hi_ => ?_) ?_
       ·match i_, hi_ with
        | 0, _ =>
         intro val fl w1 a hb ha hd hfl;obtain ⟨hb, hg0⟩ := hb;have ha := ha.s0 (d := 3) rfl
         exact ZC ha rfl rfl (YB rfl ((q1.grown hb (fun h => n1_2 (Option.some.inj h))).at (j := 0) rfl) ((q1.grown hb (fun h => n1_2 (Option.some.inj h))).at (j := 1) rfl) ((q1.grown hb (fun h => n1_2 (Option.some.inj h))).at (j := 2) rfl) ((q1.grown hb (fun h => n1_2 (Option.some.inj h))).at (j := 3) rfl) ((q1.grown hb (fun h => n1_2 (Option.some.inj h))).at (j := 4) rfl) ((q1.grown hb (fun h => n1_2 (Option.some.inj h))).at (j := 5) rfl) ((q1.grown hb (fun h => n1_2 (Option.some.inj h))).at (j := 6) rfl) ((q1.grown hb (fun h => n1_2 (Option.some.inj h))).at (j := 7) rfl) ((q1.grown hb (fun h => n1_2 (Option.some.inj h))).at (j := 8) rfl) ((q1.grown hb (fun h => n1_2 (Option.some.inj h))).at (j := 9) rfl) ((q1.grown hb (fun h => n1_2 (Option.some.inj h))).at (j := 10) rfl) ((q1.grown hb (fun h => n1_2 (Option.some.inj h))).at (j := 11) rfl) ((q1.grown hb (fun h => n1_2 (Option.some.inj h))).at (j := 12) rfl) ((q1.grown hb (fun h => n1_2 (Option.some.inj h))).at (j := 13) rfl) ((q1.grown hb (fun h => n1_2 (Option.some.inj h))).at (j := 14) rfl)) rfl rfl
        | 1, _ =>
         intro val fl w1 a hb ha hd hfl;obtain ⟨hb, hg0⟩ := hb;have ha := ha.s0 (d := 7) rfl
         exact ZC ha rfl rfl (QC2 rfl ((q3.grown hb (fun h => n2_3.symm (Option.some.inj h))).at (j := 0) rfl) ((q3.grown hb (fun h => n2_3.symm (Option.some.inj h))).at (j := 1) rfl)) rfl rfl
        | 2, _ =>
         exact absurd (by simp) hs_
        | k + 3, h => exact absurd h (by omega)
       ·simp only [List.mem_singleton] at hi_; subst hi_
        intro val fl w1 a hb hfi ha hd hfl;obtain ⟨hb, hg0⟩ := hb;have e0 : val 0 = _ := hd 0 (ZA.1 rfl);have ha := ha.sub (Sub.ins (d := 167) (Sub.ins (d := 6) (Sub.nil _) rfl) (ZO rfl e0));refine Zc ha rfl rfl rfl (hg0 hfi) Z9 rfl rfl rfl rfl ?_;intro w' hq hgr;refine ⟨undef, rfl, hgr.size, ⟨Z3 hb hgr, fun h => by rw [ZQ] at h; cases h⟩, hq, fun j _ hj hn hA => ?_⟩
        exact ZF (C := fun j => j ≠ 2 ∧ 2 ∉ clsAt [[], [], [0], [0, 1, 2], [0, 1, 2, 3]] j ∧ ∀ p ∈ [], (p = j ∨ p ∈ clsAt [[], [], [0], [0, 1, 2], [0, 1, 2, 3]] j) → ∀ q ∈ [], (q = 2 ∨ q ∈ clsAt [[], [], [0], [0, 1, 2], [0, 1, 2, 3]] 2) → p ≠ q → val p ≠ val q) (fun hc => absurd rfl hc.1) (fun _ _ h => h) j ⟨hj, hn, hA⟩
       ·intro val fl wR30 hfl hb halc hd
        obtain ⟨hb, _⟩ := hb;have e0 : val 0 = _ := hd 0 (by omega)
        have e1 : val 1 = _ := hd 1 (by omega)
        refine EL.ends (cs := [_, _, val 2]) ⟨e0, e1, rfl, trivial⟩ rfl ?_;replace q1 := q1.gr hb n1_2;have q2 : Blk wR30 g2 114 (stB (tkS s ts true)) := hd 2 (by omega)
        replace q3 := q3.gr hb n2_3.symm;replace hbw := ZD hbw hb bhbw_2;refine EL.store rfl rfl q3 QAw rfl rfl rfl rfl ?_;intro w45 hq45 hg45;replace q1 := q1.gr hg45 n1_3;replace q2 := q2.gr hg45 n2_3;replace hbw := ZD hbw hg45 bhbw_3;replace q3 := hq45;clear hg45 hq45;refine EL.as rfl rfl (EL.nil (EX.seq (EC.ret ?_)))
        exact EX.done (QEV rfl rfl rfl rfl (QAP (q2.at (j := 0) rfl) (q2.at (j := 1) rfl) (q2.at (j := 2) rfl) (q2.at (j := 3) rfl) (q2.at (j := 4) rfl) (q2.at (j := 5) rfl) (q2.at (j := 6) rfl) (q2.at (j := 7) rfl) (q2.at (j := 8) rfl) (q2.at (j := 9) rfl) (q2.at (j := 10) rfl) (q2.at (j := 11) rfl) (q2.at (j := 12) rfl) (q2.at (j := 13) rfl) (q2.at (j := 14) rfl)) (QG8 (q3.at (j := 0) rfl) (q3.at (j := 1) rfl))) ⟨by rw [hfit]; rfl, hbw⟩
structure Dr where
 s : ST
 plan : List SP
def dr0 : Dr := ⟨st0, []⟩
def cmpI (a b : Int) : Int := if a < b then -1 else if b < a then 1 else 0
def orI : List Int → Int
 | [] => 0
 | x :: l => if x = 0 then orI l else x
def QAC (a b : SP) : Int := orI [cmpI (wyB a.up) (wyB b.up), cmpI a.tows b.tows]
def cmpL : List SP → List SP → Int
 | [], [] => 0
 | [], _ :: _ => -1
 | _ :: _, [] => 1
 | a :: x, b :: y => if QAC a b = 0 then cmpL x y else QAC a b
def cmpD (d e : Dr) : Int := orI [cmpI d.s.cost e.s.cost, cmpI d.s.mv e.s.mv, cmpL d.plan e.plan]
theorem QDF {α : Type} {l : List α} {d : α} {k : Nat} (hk : k < l.length) : l.drop k = l.getD k d :: l.drop (k + 1) := by
 rw [Zj hk]
 exact List.drop_eq_getElem_cons hk
theorem QKR {l : List Int} {k : Nat} (hk : k < l.length) : orI (l.drop k) = if l.getD k 0 = 0 then orI (l.drop (k + 1)) else l.getD k 0 := by
 rw [QDF (d := 0) hk]
 rfl
/-- a draft in memory -/
structure RdDr (w : World) (B : Nat) (v : Value) (d : Dr) : Prop where
 at_ : ∃ b sl, v = .pointer (some ⟨b, 0, none⟩) ∧ b < B ∧ (∀ j u, (stC d.s ++ [sl])[j]? = some u → w.cell? ⟨b, j, none⟩ = some u) ∧ Rd w B 2 sl d.plan.length (spsC d.plan)
theorem RdDr.below {w w' : World} {B : Nat} {v : Value} {d : Dr} (h : RdDr w B v d) (hb : Below B w w') : RdDr w' B v d := by
 obtain ⟨b, sl, e, hB, hc, hr⟩ := h.at_
 exact ⟨b, sl, e, hB, fun j u hu => (hb.cell hB).trans (hc j u hu), hr.below hb⟩
theorem RdDr.more {w : World} {B B' : Nat} {v : Value} {d : Dr} (h : RdDr w B v d) (hb : B ≤ B') : RdDr w B' v d := by
 obtain ⟨b, sl, e, hB, hc, hr⟩ := h.at_
 exact ⟨b, sl, e, Nat.lt_of_lt_of_le hB hb, hc, hr.more hb⟩
section
variable {n : Nat} {σ : Sg} {w : World} {dst : Option Tmp} {ty : TypeId} {pos : String} {af : Array Edge} {g : Option (Nat × Bool)} {x y z : Operand} {at' : Array TypeId}
theorem cF87 : cF 87 := fun _ _ => by simp [go_sem]
theorem QMp : cF 116 := fun _ _ => by simp [go_sem]
theorem QLC {v0 v1 : Value} (hx : evS σ x = some (.agg #[v0, v1])) (a : Act) (ha : Env n σ a) : (execOp a.eval ⟨dst, .box 87 x, ty, pos, af, g⟩).run Try.prog w = .ok (.value (.pointer (some ⟨w.heap.size, 0, none⟩))) (w.alloc (.cells #[v0, v1] 87)) := by
 simp only [execOp, ha.eval hx]
 simp [go_sem]
theorem QA0 {b o : Nat} (hx : evS σ x = some (.pointer (some ⟨b, o, none⟩))) : ZJ Try.prog n σ w ⟨dst, .fieldAddr 87 x 0, ty, pos, af, g⟩ (.pointer (some ⟨b, o, none⟩)) := fun a ha => by
 simp only [execOp, ha.eval hx]
 simp [go_sem]
theorem cF56 : cF 56 := fun _ _ => by simp [go_sem]
theorem QNt : cF 115 := fun _ _ => by simp [go_sem]
theorem Ym {b o : Nat} (hx : evS σ x = some (.pointer (some ⟨b, o, none⟩))) : ZJ Try.prog n σ w ⟨dst, .fieldAddr 87 x 1, ty, pos, af, g⟩ (.pointer (some ⟨b, o + 1, none⟩)) := fun a ha => by
 simp only [execOp, ha.eval hx]
 simp [go_sem]
theorem cF75 : cF 75 := fun _ _ => by simp [go_sem]
theorem QMq : cF 112 := fun _ _ => by simp [go_sem]
theorem QAT {A : Option Addr} {m c : Nat} (hx : evS σ x = some (.slice A m c)) : ZJ Try.prog n σ w ⟨dst, .call { callee := .builtin .len, args := #[x], argTypes := #[25] }, ty, pos, af, g⟩ (.int .i64 (m : Int)) := fun a ha => by
 simp only [execOp, resolve, List.map_toArray, List.map_cons, List.map_nil, ha.eval hx]
 simp [go_sem]
theorem QDh {b o m c k : Nat} (hx : evS σ x = some (.slice (some ⟨b, o, none⟩) m c)) (hy : evS σ y = some (.int .i64 (k : Int))) (hk : k < m) : ZJ Try.prog n σ w ⟨dst, .indexAddr 25 x y, ty, pos, af, g⟩ (.pointer (some ⟨b, o + k * 2, none⟩)) := fun a ha => by
 have k0 : (0 : Int) ≤ (k : Int) := Int.natCast_nonneg _;have k1 : (k : Int) < (m : Int) := by omega
 simp only [execOp, ha.eval hx, ha.eval hy]
 simp [go_sem, k0, k1]
theorem QBg {b o : Nat} {v0 v1 : Value} (hx : evS σ x = some (.pointer (some ⟨b, o, none⟩))) (c0 : w.cell? ⟨b, o, none⟩ = some v0) (c1 : w.cell? ⟨b, o + 1, none⟩ = some v1) : ZJ Try.prog n σ w ⟨dst, .load 87 x, ty, pos, af, g⟩ (.agg #[v0, v1]) := fun a ha => by
 simp only [execOp, ha.eval hx]
 simp [go_sem, c0, c1]
theorem QHa (a : Act) (_ : Env n σ a) : (execOp a.eval ⟨dst, .alloc 87, ty, pos, af, g⟩).run Try.prog w = .ok (.value (.pointer (some ⟨w.heap.size, 0, none⟩))) (w.alloc (.cells #[.bool false, .int .i64 0] 87)) := by
 simp only [execOp]
 simp [go_sem]
theorem QGf : (Try.prog.info? 87).map (·.size) = some 2 := by kernel_rfl
theorem QFF {xf x0 x1 : Operand} {v0 v1 : Value} (hf : evS σ xf = some (.func (.func 114) #[] #[])) (h0 : evS σ x0 = some v0) (h1 : evS σ x1 = some v1) (a : Act) (ha : Env n σ a) : (execOp a.eval ⟨dst, .call { callee := .value xf, args := #[x0, x1], argTypes := at' }, ty, pos, af, g⟩).run Try.prog w = .ok (.enter 114 #[v0, v1]) w := by
 simp only [execOp, resolve, List.map_toArray, List.map_cons, List.map_nil, ha.eval hf, ha.eval h0, ha.eval h1]
 simp [go_sem, Deferred.ofValue]
theorem Zh {b o : Nat} (hx : evS σ x = some (.pointer (some ⟨b, o, none⟩))) : ZJ Try.prog n σ w ⟨dst, .fieldAddr 124 x 0, ty, pos, af, g⟩ (.pointer (some ⟨b, o, none⟩)) := fun a ha => by
 simp only [execOp, ha.eval hx]
 simp [go_sem]
theorem QAq {b o : Nat} (hx : evS σ x = some (.pointer (some ⟨b, o, none⟩))) : ZJ Try.prog n σ w ⟨dst, .fieldAddr 124 x 1, ty, pos, af, g⟩ (.pointer (some ⟨b, o + 15, none⟩)) := fun a ha => by
 simp only [execOp, ha.eval hx]
 simp [go_sem]
theorem QDf {b o : Nat} {v0 : Value} (hx : evS σ x = some (.pointer (some ⟨b, o, none⟩))) (c0 : w.cell? ⟨b, o, none⟩ = some v0) : ZJ Try.prog n σ w ⟨dst, .load 25 x, ty, pos, af, g⟩ (v0) := fun a ha => by
 simp only [execOp, ha.eval hx]
 simp [go_sem, c0]
theorem QNu : cF 113 := fun _ _ => by simp [go_sem]
theorem QLG {x0 x1 x2 : Operand} {z0_0 z1_0 z2_0 : Int} (h0 : evS σ x0 = some (.int .i64 z0_0)) (h1 : evS σ x1 = some (.int .i64 z1_0)) (h2 : evS σ x2 = some (.int .i64 z2_0)) (a : Act) (ha : Env n σ a) : (execOp a.eval ⟨dst, .buildSlice 101 3 #[(0, x0), (1, x1), (2, x2)], ty, pos, af, g⟩).run Try.prog w = .ok (.value (.slice (some ⟨w.heap.size, 0, none⟩) 3 3)) (w.alloc (.cells #[.int .i64 z0_0, .int .i64 z1_0, .int .i64 z2_0] 3)) := by
 simp only [execOp, List.map_toArray, List.map_cons, List.map_nil, ha.eval h0, ha.eval h1, ha.eval h2]
 go_simp
end
theorem QIe (a : Int) (w : World) : Calls Try.prog 87 #[.int .i64 a] w fun e w' => e = .returned (.bool false) ∧ Below w.heap.size w w' := by
 have hbw := Below.refl w.heap.size w;refine EC.enter 6 Try.func87 rfl rfl rfl (EC.seq (EC.region (EL.as rfl rfl (EL.nil (EX.seq (EC.seq (EC.region (EL.mv rfl rfl (EL.mv rfl rfl ?_)))))))));refine EL.val (Zp (r := false) rfl rfl (decide_eq_false (by omega))) rfl ?_
 refine EL.as rfl rfl (EL.nil (EX.seq (EC.ret ?_)))
 exact EX.done (res1 rfl rfl) ⟨rfl, hbw⟩
theorem QA7 (a b : Int) (w : World) : Calls Try.prog 75 #[.int .i64 a, .int .i64 b] w fun e w' => e = .returned (.int .i64 (cmpI a b)) ∧ Below w.heap.size w w' := by
 have hbw := Below.refl w.heap.size w;refine EC.enter 20 Try.func75 rfl rfl rfl (EC.seq (EC.region (EL.as rfl rfl (EL.nil (EX.seq (EC.seq (EC.region (EL.mv rfl rfl (EL.call (cA1 cF87 rfl) rfl (QIe _ _) ?_)))))))))
 rintro e w1 ⟨rfl, hc1⟩
 refine ⟨_, rfl, ?_⟩;replace hbw := bo_ hbw hc1;clear hc1;refine EL.as rfl rfl (EL.nil (EX.seq (EC.seq (EC.region (EL.mv rfl rfl (EL.call (cA1 cF87 rfl) rfl (QIe _ _) ?_))))))
 rintro e w2 ⟨rfl, hc2⟩
 refine ⟨_, rfl, ?_⟩;replace hbw := bo_ hbw hc2;clear hc2;refine EL.as rfl rfl (EL.nil (EX.seq (EC.seq (EC.seq (EC.region (EL.mv rfl rfl (EL.nil (EX.seq (EC.no rfl ?_)))))))));refine EC.skip (EX.seq (EC.seq (EC.seq (EC.region (EL.mv rfl rfl (EL.nil (EX.seq (EC.no rfl (EC.skip ?_)))))))));refine EX.seq (EC.seq (EC.seq (EC.region (EL.mv rfl rfl (EL.mv rfl rfl ?_)))))
 by_cases h1 : a < b
 ·
  refine EL.val (ZS (r := true) rfl rfl (decide_eq_true (by omega))) rfl ?_
  refine EL.nil (EX.seq (EC.yes rfl (EC.seq (EC.region (EL.as rfl rfl (EL.nil (EX.seq (EC.ret (EX.seq_ret ?_)))))))))
  exact EX.done (res1 rfl rfl) ⟨by unfold cmpI; simp only [*, if_true, if_false], hbw⟩
 ·
  refine EL.val (ZS (r := false) rfl rfl (decide_eq_false (by omega))) rfl ?_
  refine EL.nil (EX.seq (EC.no rfl (EC.skip (EX.seq (EC.seq (EC.seq (EC.region (EL.mv rfl rfl (EL.mv rfl rfl ?_)))))))))
  by_cases h2 : b < a
  ·
   refine EL.val (Zm (r := true) rfl rfl (decide_eq_true (by omega))) rfl ?_
   refine EL.nil (EX.seq (EC.yes rfl (EC.seq (EC.region (EL.as rfl rfl (EL.nil (EX.seq (EC.ret (EX.seq_ret ?_)))))))))
   exact EX.done (res1 rfl rfl) ⟨by unfold cmpI; simp only [*, if_true, if_false], hbw⟩
  ·
   refine EL.val (Zm (r := false) rfl rfl (decide_eq_false (by omega))) rfl ?_
   refine EL.nil (EX.seq (EC.no rfl (EC.skip (EX.seq (EC.seq (EC.region (EL.as rfl rfl (EL.nil (EX.seq ?_)))))))));refine EC.ret ?_
   exact EX.done (res1 rfl rfl) ⟨by unfold cmpI; simp only [*, if_true, if_false], hbw⟩
theorem QId (a : Int) (w : World) : Calls Try.prog 116 #[.int .i64 a] w fun e w' => e = .returned (.bool false) ∧ Below w.heap.size w w' := by
 have hbw := Below.refl w.heap.size w;refine EC.enter 6 Try.func116 rfl rfl rfl (EC.seq (EC.region (EL.as rfl rfl (EL.nil (EX.seq (EC.seq (EC.region (EL.mv rfl rfl (EL.mv rfl rfl ?_)))))))));refine EL.val (Zp (r := false) rfl rfl (decide_eq_false (by omega))) rfl ?_
 refine EL.as rfl rfl (EL.nil (EX.seq (EC.ret ?_)))
 exact EX.done (res1 rfl rfl) ⟨rfl, hbw⟩
theorem QHJ (a b : Int) (w : World) : Calls Try.prog 115 #[.int .i64 a, .int .i64 b] w fun e w' => e = .returned (.int .i64 (cmpI a b)) ∧ Below w.heap.size w w' := by
 have hbw := Below.refl w.heap.size w;refine EC.enter 20 Try.func115 rfl rfl rfl (EC.seq (EC.region (EL.as rfl rfl (EL.nil (EX.seq (EC.seq (EC.region (EL.mv rfl rfl (EL.call (cA1 QMp rfl) rfl (QId _ _) ?_)))))))))
 rintro e w1 ⟨rfl, hc1⟩
 refine ⟨_, rfl, ?_⟩;replace hbw := bo_ hbw hc1;clear hc1;refine EL.as rfl rfl (EL.nil (EX.seq (EC.seq (EC.region (EL.mv rfl rfl (EL.call (cA1 QMp rfl) rfl (QId _ _) ?_))))))
 rintro e w2 ⟨rfl, hc2⟩
 refine ⟨_, rfl, ?_⟩;replace hbw := bo_ hbw hc2;clear hc2;refine EL.as rfl rfl (EL.nil (EX.seq (EC.seq (EC.seq (EC.region (EL.mv rfl rfl (EL.nil (EX.seq (EC.no rfl ?_)))))))));refine EC.skip (EX.seq (EC.seq (EC.seq (EC.region (EL.mv rfl rfl (EL.nil (EX.seq (EC.no rfl (EC.skip ?_)))))))));refine EX.seq (EC.seq (EC.seq (EC.region (EL.mv rfl rfl (EL.mv rfl rfl ?_)))))
 by_cases h1 : a < b
 ·
  refine EL.val (ZS (r := true) rfl rfl (decide_eq_true (by omega))) rfl ?_
  refine EL.nil (EX.seq (EC.yes rfl (EC.seq (EC.region (EL.as rfl rfl (EL.nil (EX.seq (EC.ret (EX.seq_ret ?_)))))))))
  exact EX.done (res1 rfl rfl) ⟨by unfold cmpI; simp only [*, if_true, if_false], hbw⟩
 ·
  refine EL.val (ZS (r := false) rfl rfl (decide_eq_false (by omega))) rfl ?_
  refine EL.nil (EX.seq (EC.no rfl (EC.skip (EX.seq (EC.seq (EC.seq (EC.region (EL.mv rfl rfl (EL.mv rfl rfl ?_)))))))))
  by_cases h2 : b < a
  ·
   refine EL.val (Zm (r := true) rfl rfl (decide_eq_true (by omega))) rfl ?_
   refine EL.nil (EX.seq (EC.yes rfl (EC.seq (EC.region (EL.as rfl rfl (EL.nil (EX.seq (EC.ret (EX.seq_ret ?_)))))))))
   exact EX.done (res1 rfl rfl) ⟨by unfold cmpI; simp only [*, if_true, if_false], hbw⟩
  ·
   refine EL.val (Zm (r := false) rfl rfl (decide_eq_false (by omega))) rfl ?_
   refine EL.nil (EX.seq (EC.no rfl (EC.skip (EX.seq (EC.seq (EC.region (EL.as rfl rfl (EL.nil (EX.seq ?_)))))))));refine EC.ret ?_
   exact EX.done (res1 rfl rfl) ⟨by unfold cmpI; simp only [*, if_true, if_false], hbw⟩
theorem QKQ {l : List Int} {v : Value} {w : World} {B : Nat} (hr : Rd w B 1 v l.length (ints l)) (hB : B ≤ w.heap.size) (hn : l.length ≤ 1000) : Calls Try.prog 112 #[v] w fun e w' => e = .returned (.int .i64 (orI l)) ∧ Below w.heap.size w w' := by
 obtain ⟨A, c, rfl, _⟩ := hr.shape;have hbw := Below.refl w.heap.size w;refine EC.enter 18 Try.func112 rfl rfl rfl (EC.seq (EC.region (EL.as rfl rfl (EL.nil (EX.seq (EC.seq (EC.region (EL.as rfl rfl (EL.nil ?_)))))))));refine EX.seq (EC.seq (EC.seq (EC.region (EL.mv rfl rfl (EL.val (QKh rfl) rfl (EL.mv rfl rfl (EL.nil (EX.seq (EC.block ?_)))))))));refine EC.loopD [2, 5, 8, 9, 10, 11, 12, 13, 14, 15, 16] (fun k : Nat => [(8, .int .i64 (k : Nat))]) (fun k W => k ≤ l.length ∧ orI l = orI (l.drop k) ∧ Below w.heap.size w W) (fun k => l.length - k) 0 ⟨Nat.zero_le _, rfl, hbw⟩ ⟨rfl, trivial⟩ ?_
 clear  hbw
 rintro k wk ⟨hk, hor, hbw⟩
 by_cases hltk : k < l.length
 ·
  obtain ⟨b, o, rfl, _, cc⟩ := QEm l k hltk w B _ _ _ hr;have hot := QKR hltk
  generalize l.getD k 0 = y at cc hot
  refine EC.seq (EC.region ?_);refine EL.val (ZS (r := true) rfl rfl (decide_eq_true (by omega))) rfl ?_
  refine EL.nil (EX.seq (EC.seq (EC.yes rfl (EC.skip (EX.seq (EC.seq (EC.block (EC.seq (EC.region ?_)))))))));refine EL.val (QKq rfl rfl hltk) rfl (EL.val (ld_3 rfl (ZB hbw cc)) rfl (EL.as rfl rfl (EL.nil (EX.seq (EC.seq (EC.region (EL.mv rfl rfl (EL.mv rfl rfl ?_))))))))
  by_cases h1 : y = 0
  ·
   refine EL.val (Zp (r := false) rfl rfl (decide_eq_false (by omega))) rfl ?_
   refine EL.nil (EX.seq (EC.no rfl (EC.skip (EX.blk (EX.seq (EC.region ?_))))));refine EL.val (ZP rfl rfl (c := ((k + 1 : Nat) : Int)) ((IntWalk.i64_in _ ⟨by first | omega | (simp only; omega), by first | omega | (simp only; omega)⟩).trans (by first | omega | (simp only; omega)))) rfl ?_
   refine EL.mv rfl rfl (EL.nil ?_);refine EX.roundD (k + 1) ⟨rfl, trivial⟩ (by repeat first | with_reducible exact .refl _ | refine sp_ rfl ?_ | exact .refl _ | refine sd_ rfl ?_ | refine sn_ ?_) ⟨hltk, (by rw [hor, hot, if_pos h1]), hbw⟩ (by omega)
  ·
   refine EL.val (Zp (r := true) rfl rfl (decide_eq_true (by omega))) rfl ?_
   refine EL.nil (EX.seq (EC.yes rfl (EC.seq (EC.region (EL.mv rfl rfl (EL.as rfl rfl (EL.nil (EX.seq (EC.ret ?_)))))))));refine EX.blk_ret (EX.seq_ret (EX.seq_ret (EX.blk_ret (EX.seq_ret ?_))))
   exact EX.done (res1 rfl rfl) ⟨by rw [hor, hot, if_neg h1], hbw⟩
 ·
  obtain rfl : k = l.length := by omega
  refine EC.seq (EC.region ?_);refine EL.val (ZS (r := false) rfl rfl (decide_eq_false (by omega))) rfl ?_
  refine EL.nil (EX.seq (EC.seq (EC.no rfl (EC.exit (EX.seq_exit (EX.seq_exit (EX.blk_here (EX.seq (EC.seq ?_)))))))));refine EC.region (EL.mv rfl rfl (EL.as rfl rfl (EL.nil (EX.seq (EC.ret ?_)))))
  exact EX.done (res1 rfl rfl) ⟨by rw [hor, List.drop_length]; rfl, hbw⟩
theorem QJG (p q : SP) (w : World) : Calls Try.prog 114 #[.agg #[.bool p.up, .int .i64 p.tows], .agg #[.bool q.up, .int .i64 q.tows]] w fun e w' => e = .returned (.int .i64 (QAC p q)) ∧ Below w.heap.size w w' := by
 have hbw := Below.refl w.heap.size w;refine EC.enter 19 Try.func114 rfl rfl rfl (EC.seq (EC.region (EL.newP (QLC rfl) rfl ?_)));intro g1 w1 q1 hb1 hg1 hl1;have bhbw_1 := Nat.le_trans hbw.size hg1;replace hbw := bo_ hbw hb1;clear hb1 hg1 hl1;refine EL.newP (QLC rfl) rfl ?_;intro g2 w2 q2 hb2 hg2 hl2;have n1_2 := q1.na hg2;have bhbw_2 := Nat.le_trans hbw.size hg2;replace q1 := q1.bl hb2;replace hbw := bo_ hbw hb2;clear hb2 hg2 hl2;refine EL.as rfl rfl (EL.nil (EX.seq (EC.seq ?_)));have lt_1 := q1.lt;have lt_2 := q2.lt;refine EC.regionP [[], [0], [0, 1], [], [3], [0, 1, 2, 3, 4], [0, 1, 2, 3, 4, 5], [], [7], [], [9], [0, 1, 2, 3, 4, 5, 6, 7, 8, 9, 10], [0, 1, 2, 3, 4, 5, 6, 7, 8, 9, 10, 11], [0, 1, 2, 3, 4, 5, 6, 7, 8, 9, 10, 11, 12], [0, 1, 2, 3, 4, 5, 6, 7, 8, 9, 10, 11, 12, 13]] 11 [] (phi (fun i_ r => match i_ with | 0 => r 0 = .pointer (some ⟨g1, 0, none⟩) | 1 => r 1 = .bool p.up | 2 => r 2 = .int .i64 (wyB p.up) | 3 => r 3 = .pointer (some ⟨g2, 0, none⟩) | 4 => r 4 = .bool q.up | 5 => r 5 = .int .i64 (wyB q.up) | 6 => r 6 = .int .i64 (cmpI (wyB p.up) (wyB q.up)) | 7 => r 7 = .pointer (some ⟨g1, 1, none⟩) | 8 => r 8 = .int .i64 p.tows | 9 => r 9 = .pointer (some ⟨g2, 1, none⟩) | 10 => r 10 = .int .i64 q.tows | _ => True) []) (by kernel_rfl) rfl rfl (YT) (fun i_ hi_ => ?_) ?_
 ·match i_, hi_ with
  | 0, _ =>
   intro val w1 a hb ha hd;have ha := ha.s0 (d := 2) rfl
   exact ZH ha rfl rfl (QA0 rfl) rfl rfl
  | 1, _ =>
   intro val w1 a hb ha hd;have e0 : val 0 = _ := hd 0 (ZA.1 rfl);have ha := ha.s1 (d := 5) rfl e0
   exact ZH ha rfl rfl (ld_4 rfl ((q1.below hb q1.lt).at (j := 0) rfl)) rfl rfl
  | 2, _ =>
   intro val w1 a hb ha hd;have e1 : val 1 = _ := hd 1 (ZA.1 rfl);have ha := ha.s1 (d := 6) rfl e1;refine Yl ha rfl rfl (cA1 cF56 rfl) (QBE _ _) rfl ?_
   rintro e w' ⟨rfl, hb'⟩
   exact ⟨_, rfl, hb', rfl⟩
  | 3, _ =>
   intro val w1 a hb ha hd;have ha := ha.s0 (d := 3) rfl
   exact ZH ha rfl rfl (QA0 rfl) rfl rfl
  | 4, _ =>
   intro val w1 a hb ha hd;have e3 : val 3 = _ := hd 3 (ZA.1 rfl);have ha := ha.s1 (d := 8) rfl e3
   exact ZH ha rfl rfl (ld_4 rfl ((q2.below hb q2.lt).at (j := 0) rfl)) rfl rfl
  | 5, _ =>
   intro val w1 a hb ha hd;have e4 : val 4 = _ := hd 4 (ZA.1 rfl);have ha := ha.s1 (d := 9) rfl e4;refine Yl ha rfl rfl (cA1 cF56 rfl) (QBE _ _) rfl ?_
   rintro e w' ⟨rfl, hb'⟩
   exact ⟨_, rfl, hb', rfl⟩
  | 6, _ =>
   intro val w1 a hb ha hd;have e2 : val 2 = _ := hd 2 (ZA.1 rfl);have e5 : val 5 = _ := hd 5 (ZA.1 rfl);have ha := ha.s2 (d := 10) (e := 7) rfl e5 rfl e2;refine Yl ha rfl rfl (cA2 QNt rfl rfl) (QHJ _ _ _) rfl ?_
   rintro e w' ⟨rfl, hb'⟩
   exact ⟨_, rfl, hb', rfl⟩
  | 7, _ =>
   intro val w1 a hb ha hd;have ha := ha.s0 (d := 2) rfl
   exact ZH ha rfl rfl (Ym rfl) rfl rfl
  | 8, _ =>
   intro val w1 a hb ha hd;have e7 : val 7 = _ := hd 7 (ZA.1 rfl);have ha := ha.s1 (d := 12) rfl e7
   exact ZH ha rfl rfl (ld_3 rfl ((q1.below hb q1.lt).at (j := 1) rfl)) rfl rfl
  | 9, _ =>
   intro val w1 a hb ha hd;have ha := ha.s0 (d := 3) rfl
   exact ZH ha rfl rfl (Ym rfl) rfl rfl
  | 10, _ =>
   intro val w1 a hb ha hd;have e9 : val 9 = _ := hd 9 (ZA.1 rfl);have ha := ha.s1 (d := 14) rfl e9
   exact ZH ha rfl rfl (ld_3 rfl ((q2.below hb q2.lt).at (j := 1) rfl)) rfl rfl
  | k + 11, h => exact absurd h (by omega)
 ·intro val wR1 hb halc hd
  have e0 : val 0 = _ := hd 0 (by omega)
  have e1 : val 1 = _ := hd 1 (by omega)
  have e2 : val 2 = _ := hd 2 (by omega)
  have e3 : val 3 = _ := hd 3 (by omega)
  have e4 : val 4 = _ := hd 4 (by omega)
  have e5 : val 5 = _ := hd 5 (by omega)
  have e6 : val 6 = _ := hd 6 (by omega)
  have e7 : val 7 = _ := hd 7 (by omega)
  have e8 : val 8 = _ := hd 8 (by omega)
  have e9 : val 9 = _ := hd 9 (by omega)
  have e10 : val 10 = _ := hd 10 (by omega)
  refine EL.ends (cs := [_, _, _, _, _, _, _, _, _, _, _]) ⟨e0, e1, e2, e3, e4, e5, e6, e7, e8, e9, e10, trivial⟩ rfl ?_;replace q1 := q1.bl hb;replace q2 := q2.bl hb;replace hbw := bo_ hbw hb;clear hb;refine EL.call (cA2 cF75 rfl rfl) rfl (QA7 _ _ _) ?_
  rintro e w3 ⟨rfl, hc3⟩
  refine ⟨_, rfl, ?_⟩;replace q1 := q1.bl hc3;replace q2 := q2.bl hc3;replace hbw := bo_ hbw hc3;clear hc3;refine EL.newS (QE1 rfl rfl) rfl ?_;intro g4 w4 q4 hb4 hg4 hl4;have n1_4 := q1.na hg4;have n2_4 := q2.na hg4;have bhbw_4 := Nat.le_trans hbw.size hg4;replace q1 := q1.bl hb4;replace q2 := q2.bl hb4;replace hbw := bo_ hbw hb4;clear hb4 hg4 hl4;refine EL.call (cA1 QMq rfl) rfl (QKQ (l := [cmpI (wyB p.up) (wyB q.up), cmpI p.tows q.tows]) (Y8 (k := 2) (l := ints [cmpI (wyB p.up) (wyB q.up), cmpI p.tows q.tows]) q4 rfl) (Nat.le_refl _) (by simp)) ?_
  rintro e w5 ⟨rfl, hc5⟩
  refine ⟨_, rfl, ?_⟩;replace q1 := q1.bl hc5;replace q2 := q2.bl hc5;replace q4 := q4.bl hc5;replace hbw := bo_ hbw hc5;clear hc5;refine EL.as rfl rfl (EL.nil (EX.seq (EC.ret ?_)))
  exact EX.done (res1 rfl rfl) ⟨rfl, hbw⟩
theorem QK7 {x y : List SP} {vx vy : Value} {w : World} {B : Nat} (hx : Rd w B 2 vx x.length (spsC x)) (hy : Rd w B 2 vy y.length (spsC y)) (hB : B ≤ w.heap.size) (hn : x.length ≤ 1000000) : Calls Try.prog 113 #[vx, vy, .func (.func 114) #[] #[]] w fun e w' => e = .returned (.int .i64 (cmpL x y)) ∧ Below w.heap.size w w' := by
 obtain ⟨Ax, cx_, rfl, _⟩ := hx.shape;obtain ⟨Ay, cy_, rfl, _⟩ := hy.shape;have hbw := Below.refl w.heap.size w;refine EC.enter 39 Try.func113 rfl rfl rfl (EC.seq (EC.region (EL.as rfl rfl (EL.nil (EX.seq (EC.seq (EC.seq (EC.region (EL.mv rfl rfl ?_)))))))));refine EL.val (QAT rfl) rfl (EL.mv rfl rfl (EL.nil (EX.seq (EC.block ?_))));refine EC.loopD [6, 7, 8, 9, 10, 13, 14, 15, 16, 17, 18, 19, 20, 21, 22, 23, 24, 25, 26, 27, 28, 29, 30, 31, 32, 33] (fun k : Nat => [(13, .int .i64 (k : Nat))]) (fun k W => k ≤ x.length ∧ k ≤ y.length ∧ cmpL x y = cmpL (x.drop k) (y.drop k) ∧ Below w.heap.size w W) (fun k => x.length - k) 0 ⟨Nat.zero_le _, Nat.zero_le _, rfl, hbw⟩ ⟨rfl, trivial⟩ ?_
 clear  hbw
 rintro k wk ⟨hk, hky0, hc, hbw⟩
 by_cases hltk : k < x.length
 ·
  obtain ⟨b, o, rfl, _, cx⟩ := QAb x k hltk w B _ _ _ hx;have hdx := QDF (d := sp0) hltk
  generalize x.getD k sp0 = p at cx hdx
  refine EC.seq (EC.region ?_);refine EL.val (ZS (r := true) rfl rfl (decide_eq_true (by omega))) rfl ?_
  refine EL.nil (EX.seq (EC.seq (EC.yes rfl (EC.skip (EX.seq (EC.seq (EC.block (EC.seq (EC.region ?_)))))))));refine EL.mv rfl rfl (EL.val (QDh rfl rfl hltk) rfl (EL.val (QBg rfl (ZB hbw cx.c0) (ZB hbw cx.c1)) rfl (EL.newP QHa rfl ?_)));intro g1 w1 q1 hb1 hg1 hl1;have bhbw_1 := Nat.le_trans hbw.size hg1;replace hbw := bo_ hbw hb1;clear hb1 hg1 hl1;refine EL.as rfl rfl (EL.store rfl rfl q1 QGf rfl rfl rfl rfl ?_);intro w2 hq2 hg2;replace hbw := ZD hbw hg2 bhbw_1;replace q1 := hq2;clear hg2 hq2;refine EL.nil (EX.seq (EC.seq (EC.seq (EC.region (EL.mv rfl rfl (EL.mv rfl rfl (EL.val (QAT rfl) rfl ?_)))))))
  by_cases hyk : y.length ≤ k
  ·
   refine EL.val (QCK (r := true) rfl rfl (decide_eq_true (by omega))) rfl ?_
   refine EL.nil (EX.seq (EC.yes rfl (EC.seq (EC.region (EL.as rfl rfl (EL.nil (EX.seq (EC.ret (EX.seq_ret ?_)))))))));refine EX.blk_ret (EX.seq_ret (EX.seq_ret (EX.blk_ret (EX.seq_ret ?_))))
   exact EX.done (res1 rfl rfl) ⟨by rw [hc, hdx, List.drop_eq_nil_of_le hyk]; rfl, hbw⟩
  ·
   have hky : k < y.length := by omega
   obtain ⟨b2, o2, rfl, _, cy⟩ := QAb y k hky w B _ _ _ hy;have hdy := QDF (d := sp0) hky
   generalize y.getD k sp0 = q at cy hdy
   refine EL.val (QCK (r := false) rfl rfl (decide_eq_false (by omega))) rfl ?_
   refine EL.nil (EX.seq (EC.no rfl (EC.skip (EX.seq (EC.seq (EC.region (EL.mv rfl rfl (EL.mv rfl rfl (EL.val (QDh rfl rfl hky) rfl ?_)))))))));refine EL.val (QBg rfl (ZB hbw cy.c0) (ZB hbw cy.c1)) rfl (EL.newP QHa rfl ?_);intro g3 w3 q3 hb3 hg3 hl3;have n1_3 := q1.na hg3;have bhbw_3 := Nat.le_trans hbw.size hg3;replace q1 := q1.bl hb3;replace hbw := bo_ hbw hb3;clear hb3 hg3 hl3;refine EL.store rfl rfl q3 QGf rfl rfl rfl rfl ?_;intro w4 hq4 hg4;replace q1 := q1.gr hg4 n1_3;replace hbw := ZD hbw hg4 bhbw_3;replace q3 := hq4;clear hg4 hq4;refine EL.nil (EX.seq (EC.seq (EC.region (EL.mv rfl rfl (EL.val (QBg rfl (q1.at (j := 0) rfl) (q1.at (j := 1) rfl)) rfl (EL.val (QBg rfl (q3.at (j := 0) rfl) (q3.at (j := 1) rfl)) rfl (EL.call (QFF rfl rfl rfl) rfl (QJG p q _) ?_)))))))
   rintro e w5 ⟨rfl, hc5⟩
   refine ⟨_, rfl, ?_⟩;replace q1 := q1.bl hc5;replace q3 := q3.bl hc5;replace hbw := bo_ hbw hc5;clear hc5;refine EL.as rfl rfl (EL.nil (EX.seq (EC.seq (EC.region (EL.mv rfl rfl ?_)))))
   by_cases h1 : QAC p q = 0
   ·
    refine EL.val (Zp (r := false) rfl rfl (decide_eq_false (by omega))) rfl ?_
    refine EL.nil (EX.seq (EC.no rfl (EC.skip (EX.blk (EX.seq (EC.region ?_))))));refine EL.val (ZP rfl rfl (c := ((k + 1 : Nat) : Int)) ((IntWalk.i64_in _ ⟨by first | omega | (simp only; omega), by first | omega | (simp only; omega)⟩).trans (by first | omega | (simp only; omega)))) rfl ?_
    refine EL.mv rfl rfl (EL.nil ?_);refine EX.roundD (k + 1) ⟨rfl, trivial⟩ (by repeat first | with_reducible exact .refl _ | refine sp_ rfl ?_ | exact .refl _ | refine sd_ rfl ?_ | refine sn_ ?_) ⟨hltk, hky, (by rw [hc, hdx, hdy]; exact if_pos h1), hbw⟩ (by omega)
   ·
    refine EL.val (Zp (r := true) rfl rfl (decide_eq_true (by omega))) rfl ?_
    refine EL.nil (EX.seq (EC.yes rfl (EC.seq (EC.region (EL.mv rfl rfl (EL.as rfl rfl (EL.nil (EX.seq (EC.ret ?_)))))))));refine EX.blk_ret (EX.seq_ret (EX.seq_ret (EX.blk_ret (EX.seq_ret ?_))))
    exact EX.done (res1 rfl rfl) ⟨by rw [hc, hdx, hdy]; exact congrArg (fun z => Ending.returned (.int .i64 z)) (if_neg h1).symm, hbw⟩
 ·
  obtain rfl : k = x.length := by omega
  refine EC.seq (EC.region ?_);refine EL.val (ZS (r := false) rfl rfl (decide_eq_false (by omega))) rfl ?_
  refine EL.nil (EX.seq (EC.seq (EC.no rfl (EC.exit (EX.seq_exit (EX.seq_exit (EX.blk_here (EX.seq (EC.seq ?_)))))))));refine EC.seq (EC.region (EL.mv rfl rfl (EL.val (QAT rfl) rfl (EL.mv rfl rfl (EL.val (QAT rfl) rfl ?_)))))
  by_cases hxy : x.length < y.length
  ·
   refine EL.val (ZS (r := true) rfl rfl (decide_eq_true (by omega))) rfl ?_
   refine EL.nil (EX.seq (EC.yes rfl (EC.seq (EC.region (EL.as rfl rfl (EL.nil (EX.seq (EC.ret (EX.seq_ret ?_)))))))))
   exact EX.done (res1 rfl rfl) ⟨by rw [hc, List.drop_length, QDF (d := sp0) hxy]; rfl, hbw⟩
  ·
   refine EL.val (ZS (r := false) rfl rfl (decide_eq_false (by omega))) rfl ?_
   refine EL.nil (EX.seq (EC.no rfl (EC.skip (EX.seq (EC.seq (EC.region (EL.as rfl rfl (EL.nil (EX.seq ?_)))))))));refine EC.ret ?_
   exact EX.done (res1 rfl rfl) ⟨by rw [hc, List.drop_length, List.drop_eq_nil_of_le (by omega)]; rfl, hbw⟩
theorem QK8 {d e : Dr} {v u : Value} {w : World} {B : Nat} (hd : RdDr w B v d) (he : RdDr w B u e) (hB : B ≤ w.heap.size) (hn : d.plan.length ≤ 1000000) : Calls Try.prog 111 #[v, u] w fun e_ w' => e_ = .returned (.int .i64 (cmpD d e)) ∧ Below w.heap.size w w' := by
 obtain ⟨b1, sl1, rfl, hb1, hd1, hd2⟩ := hd.at_;obtain ⟨b2, sl2, rfl, hb2, he1, he2⟩ := he.at_;obtain ⟨A1, c1, rfl, _⟩ := hd2.shape;obtain ⟨A2, c2, rfl, _⟩ := he2.shape;have hbw := Below.refl w.heap.size w;refine EC.enter 42 Try.func111 rfl rfl rfl (EC.seq (EC.region (EL.as rfl rfl (EL.nil (EX.seq (EC.seq ?_))))));refine EC.regionP [[], [0], [0, 1], [0, 1, 2], [0, 1, 2, 3], [], [5], [5, 6], [5, 6, 7], [5, 6, 7, 8], [0, 1, 2, 3, 4, 5, 6, 7, 8, 9], [], [11], [11, 12], [11, 12, 13], [11, 12, 13, 14], [11, 12, 13, 14, 15], [11, 12, 13, 14, 15, 16], [], [18], [18, 19], [18, 19, 20], [18, 19, 20, 21], [18, 19, 20, 21, 22], [18, 19, 20, 21, 22, 23], [0, 1, 2, 3, 4, 5, 6, 7, 8, 9, 10, 11, 12, 13, 14, 15, 16, 17, 18, 19, 20, 21, 22, 23, 24], [], [26], [26, 27], [26, 27, 28], [], [30], [30, 31], [30, 31, 32], [0, 1, 2, 3, 4, 5, 6, 7, 8, 9, 10, 11, 12, 13, 14, 15, 16, 17, 18, 19, 20, 21, 22, 23, 24, 25, 26, 27, 28, 29, 30, 31, 32, 33], [0, 1, 2, 3, 4, 5, 6, 7, 8, 9, 10, 11, 12, 13, 14, 15, 16, 17, 18, 19, 20, 21, 22, 23, 24, 25, 26, 27, 28, 29, 30, 31, 32, 33, 34], [0, 1, 2, 3, 4, 5, 6, 7, 8, 9, 10, 11, 12, 13, 14, 15, 16, 17, 18, 19, 20, 21, 22, 23, 24, 25, 26, 27, 28, 29, 30, 31, 32, 33, 34, 35], [0, 1, 2, 3, 4, 5, 6, 7, 8, 9, 10, 11, 12, 13, 14, 15, 16, 17, 18, 19, 20, 21, 22, 23, 24, 25, 26, 27, 28, 29, 30, 31, 32, 33, 34, 35, 36]] 34 [] (phi (fun i_ r => match i_ with | 0 => r 0 = .pointer (some ⟨b1, 0, none⟩) | 1 => r 1 = .pointer (some ⟨b1, 0, none⟩) | 2 => r 2 = .pointer (some ⟨b1, 0, none⟩) | 3 => r 3 = .pointer (some ⟨b1, 14, none⟩) | 4 => r 4 = .int .i64 d.s.cost | 5 => r 5 = .pointer (some ⟨b2, 0, none⟩) | 6 => r 6 = .pointer (some ⟨b2, 0, none⟩) | 7 => r 7 = .pointer (some ⟨b2, 0, none⟩) | 8 => r 8 = .pointer (some ⟨b2, 14, none⟩) | 9 => r 9 = .int .i64 e.s.cost | 10 => r 10 = .int .i64 (cmpI d.s.cost e.s.cost) | 11 => r 11 = .pointer (some ⟨b1, 0, none⟩) | 12 => r 12 = .pointer (some ⟨b1, 0, none⟩) | 13 => r 13 = .pointer (some ⟨b1, 0, none⟩) | 14 => r 14 = .pointer (some ⟨b1, 0, none⟩) | 15 => r 15 = .pointer (some ⟨b1, 6, none⟩) | 16 => r 16 = .pointer (some ⟨b1, 6 + 4, none⟩) | 17 => r 17 = .int .i64 d.s.mv | 18 => r 18 = .pointer (some ⟨b2, 0, none⟩) | 19 => r 19 = .pointer (some ⟨b2, 0, none⟩) | 20 => r 20 = .pointer (some ⟨b2, 0, none⟩) | 21 => r 21 = .pointer (some ⟨b2, 0, none⟩) | 22 => r 22 = .pointer (some ⟨b2, 6, none⟩) | 23 => r 23 = .pointer (some ⟨b2, 6 + 4, none⟩) | 24 => r 24 = .int .i64 e.s.mv | 25 => r 25 = .int .i64 (cmpI d.s.mv e.s.mv) | 26 => r 26 = .pointer (some ⟨b1, 0, none⟩) | 27 => r 27 = .pointer (some ⟨b1, 0, none⟩) | 28 => r 28 = .pointer (some ⟨b1, 15, none⟩) | 29 => r 29 = .slice A1 d.plan.length c1 | 30 => r 30 = .pointer (some ⟨b2, 0, none⟩) | 31 => r 31 = .pointer (some ⟨b2, 0, none⟩) | 32 => r 32 = .pointer (some ⟨b2, 15, none⟩) | 33 => r 33 = .slice A2 e.plan.length c2 | _ => True) []) (by kernel_rfl) rfl rfl (YT) (fun i_ hi_ => ?_) ?_
 ·match i_, hi_ with
  | 0, _ =>
   intro val w1 a hb ha hd;have ha := ha.s0 (d := 0) rfl
   exact ZH ha rfl rfl (x_move rfl) rfl rfl
  | 1, _ =>
   intro val w1 a hb ha hd;have e0 : val 0 = _ := hd 0 (ZA.1 rfl);have ha := ha.s1 (d := 5) rfl e0
   exact ZH ha rfl rfl (ZG rfl) rfl rfl
  | 2, _ =>
   intro val w1 a hb ha hd;have e1 : val 1 = _ := hd 1 (ZA.1 rfl);have ha := ha.s1 (d := 6) rfl e1
   exact ZH ha rfl rfl (Zh rfl) rfl rfl
  | 3, _ =>
   intro val w1 a hb ha hd;have e2 : val 2 = _ := hd 2 (ZA.1 rfl);have ha := ha.s1 (d := 7) rfl e2
   exact ZH ha rfl rfl (YZ rfl) rfl rfl
  | 4, _ =>
   intro val w1 a hb ha hd;have e3 : val 3 = _ := hd 3 (ZA.1 rfl);have ha := ha.s1 (d := 8) rfl e3
   exact ZH ha rfl rfl (ld_3 rfl (ZB hb (ZB hbw (hd1 14 _ rfl)))) rfl rfl
  | 5, _ =>
   intro val w1 a hb ha hd;have ha := ha.s0 (d := 1) rfl
   exact ZH ha rfl rfl (x_move rfl) rfl rfl
  | 6, _ =>
   intro val w1 a hb ha hd;have e5 : val 5 = _ := hd 5 (ZA.1 rfl);have ha := ha.s1 (d := 10) rfl e5
   exact ZH ha rfl rfl (ZG rfl) rfl rfl
  | 7, _ =>
   intro val w1 a hb ha hd;have e6 : val 6 = _ := hd 6 (ZA.1 rfl);have ha := ha.s1 (d := 11) rfl e6
   exact ZH ha rfl rfl (Zh rfl) rfl rfl
  | 8, _ =>
   intro val w1 a hb ha hd;have e7 : val 7 = _ := hd 7 (ZA.1 rfl);have ha := ha.s1 (d := 12) rfl e7
   exact ZH ha rfl rfl (YZ rfl) rfl rfl
  | 9, _ =>
   intro val w1 a hb ha hd;have e8 : val 8 = _ := hd 8 (ZA.1 rfl);have ha := ha.s1 (d := 13) rfl e8
   exact ZH ha rfl rfl (ld_3 rfl (ZB hb (ZB hbw (he1 14 _ rfl)))) rfl rfl
  | 10, _ =>
   intro val w1 a hb ha hd;have e4 : val 4 = _ := hd 4 (ZA.1 rfl);have e9 : val 9 = _ := hd 9 (ZA.1 rfl);have ha := ha.s2 (d := 14) (e := 9) rfl e9 rfl e4;refine Yl ha rfl rfl (cA2 cF75 rfl rfl) (QA7 _ _ _) rfl ?_
   rintro e w' ⟨rfl, hb'⟩
   exact ⟨_, rfl, hb', rfl⟩
  | 11, _ =>
   intro val w1 a hb ha hd;have ha := ha.s0 (d := 0) rfl
   exact ZH ha rfl rfl (x_move rfl) rfl rfl
  | 12, _ =>
   intro val w1 a hb ha hd;have e11 : val 11 = _ := hd 11 (ZA.1 rfl);have ha := ha.s1 (d := 16) rfl e11
   exact ZH ha rfl rfl (ZG rfl) rfl rfl
  | 13, _ =>
   intro val w1 a hb ha hd;have e12 : val 12 = _ := hd 12 (ZA.1 rfl);have ha := ha.s1 (d := 17) rfl e12
   exact ZH ha rfl rfl (Zh rfl) rfl rfl
  | 14, _ =>
   intro val w1 a hb ha hd;have e13 : val 13 = _ := hd 13 (ZA.1 rfl);have ha := ha.s1 (d := 18) rfl e13
   exact ZH ha rfl rfl (ZN rfl) rfl rfl
  | 15, _ =>
   intro val w1 a hb ha hd;have e14 : val 14 = _ := hd 14 (ZA.1 rfl);have ha := ha.s1 (d := 19) rfl e14
   exact ZH ha rfl rfl (Za rfl) rfl rfl
  | 16, _ =>
   intro val w1 a hb ha hd;have e15 : val 15 = _ := hd 15 (ZA.1 rfl);have ha := ha.s1 (d := 20) rfl e15
   exact ZH ha rfl rfl (QB0 rfl) rfl rfl
  | 17, _ =>
   intro val w1 a hb ha hd;have e16 : val 16 = _ := hd 16 (ZA.1 rfl);have ha := ha.s1 (d := 21) rfl e16
   exact ZH ha rfl rfl (ld_3 rfl (ZB hb (ZB hbw (hd1 10 _ rfl)))) rfl rfl
  | 18, _ =>
   intro val w1 a hb ha hd;have ha := ha.s0 (d := 1) rfl
   exact ZH ha rfl rfl (x_move rfl) rfl rfl
  | 19, _ =>
   intro val w1 a hb ha hd;have e18 : val 18 = _ := hd 18 (ZA.1 rfl);have ha := ha.s1 (d := 23) rfl e18
   exact ZH ha rfl rfl (ZG rfl) rfl rfl
  | 20, _ =>
   intro val w1 a hb ha hd;have e19 : val 19 = _ := hd 19 (ZA.1 rfl);have ha := ha.s1 (d := 24) rfl e19
   exact ZH ha rfl rfl (Zh rfl) rfl rfl
  | 21, _ =>
   intro val w1 a hb ha hd;have e20 : val 20 = _ := hd 20 (ZA.1 rfl);have ha := ha.s1 (d := 25) rfl e20
   exact ZH ha rfl rfl (ZN rfl) rfl rfl
  | 22, _ =>
   intro val w1 a hb ha hd;have e21 : val 21 = _ := hd 21 (ZA.1 rfl);have ha := ha.s1 (d := 26) rfl e21
   exact ZH ha rfl rfl (Za rfl) rfl rfl
  | 23, _ =>
   intro val w1 a hb ha hd;have e22 : val 22 = _ := hd 22 (ZA.1 rfl);have ha := ha.s1 (d := 27) rfl e22
   exact ZH ha rfl rfl (QB0 rfl) rfl rfl
  | 24, _ =>
   intro val w1 a hb ha hd;have e23 : val 23 = _ := hd 23 (ZA.1 rfl);have ha := ha.s1 (d := 28) rfl e23
   exact ZH ha rfl rfl (ld_3 rfl (ZB hb (ZB hbw (he1 10 _ rfl)))) rfl rfl
  | 25, _ =>
   intro val w1 a hb ha hd;have e17 : val 17 = _ := hd 17 (ZA.1 rfl);have e24 : val 24 = _ := hd 24 (ZA.1 rfl);have ha := ha.s2 (d := 29) (e := 22) rfl e24 rfl e17;refine Yl ha rfl rfl (cA2 cF75 rfl rfl) (QA7 _ _ _) rfl ?_
   rintro e w' ⟨rfl, hb'⟩
   exact ⟨_, rfl, hb', rfl⟩
  | 26, _ =>
   intro val w1 a hb ha hd;have ha := ha.s0 (d := 0) rfl
   exact ZH ha rfl rfl (x_move rfl) rfl rfl
  | 27, _ =>
   intro val w1 a hb ha hd;have e26 : val 26 = _ := hd 26 (ZA.1 rfl);have ha := ha.s1 (d := 31) rfl e26
   exact ZH ha rfl rfl (ZG rfl) rfl rfl
  | 28, _ =>
   intro val w1 a hb ha hd;have e27 : val 27 = _ := hd 27 (ZA.1 rfl);have ha := ha.s1 (d := 32) rfl e27
   exact ZH ha rfl rfl (QAq rfl) rfl rfl
  | 29, _ =>
   intro val w1 a hb ha hd;have e28 : val 28 = _ := hd 28 (ZA.1 rfl);have ha := ha.s1 (d := 33) rfl e28
   exact ZH ha rfl rfl (QDf rfl (ZB hb (ZB hbw (hd1 15 _ rfl)))) rfl rfl
  | 30, _ =>
   intro val w1 a hb ha hd;have ha := ha.s0 (d := 1) rfl
   exact ZH ha rfl rfl (x_move rfl) rfl rfl
  | 31, _ =>
   intro val w1 a hb ha hd;have e30 : val 30 = _ := hd 30 (ZA.1 rfl);have ha := ha.s1 (d := 35) rfl e30
   exact ZH ha rfl rfl (ZG rfl) rfl rfl
  | 32, _ =>
   intro val w1 a hb ha hd;have e31 : val 31 = _ := hd 31 (ZA.1 rfl);have ha := ha.s1 (d := 36) rfl e31
   exact ZH ha rfl rfl (QAq rfl) rfl rfl
  | 33, _ =>
   intro val w1 a hb ha hd;have e32 : val 32 = _ := hd 32 (ZA.1 rfl);have ha := ha.s1 (d := 37) rfl e32
   exact ZH ha rfl rfl (QDf rfl (ZB hb (ZB hbw (he1 15 _ rfl)))) rfl rfl
  | k + 34, h => exact absurd h (by omega)
 ·intro val wR1 hb halc hd
  have e0 : val 0 = _ := hd 0 (by omega)
  have e1 : val 1 = _ := hd 1 (by omega)
  have e2 : val 2 = _ := hd 2 (by omega)
  have e3 : val 3 = _ := hd 3 (by omega)
  have e4 : val 4 = _ := hd 4 (by omega)
  have e5 : val 5 = _ := hd 5 (by omega)
  have e6 : val 6 = _ := hd 6 (by omega)
  have e7 : val 7 = _ := hd 7 (by omega)
  have e8 : val 8 = _ := hd 8 (by omega)
  have e9 : val 9 = _ := hd 9 (by omega)
  have e10 : val 10 = _ := hd 10 (by omega)
  have e11 : val 11 = _ := hd 11 (by omega)
  have e12 : val 12 = _ := hd 12 (by omega)
  have e13 : val 13 = _ := hd 13 (by omega)
  have e14 : val 14 = _ := hd 14 (by omega)
  have e15 : val 15 = _ := hd 15 (by omega)
  have e16 : val 16 = _ := hd 16 (by omega)
  have e17 : val 17 = _ := hd 17 (by omega)
  have e18 : val 18 = _ := hd 18 (by omega)
  have e19 : val 19 = _ := hd 19 (by omega)
  have e20 : val 20 = _ := hd 20 (by omega)
  have e21 : val 21 = _ := hd 21 (by omega)
  have e22 : val 22 = _ := hd 22 (by omega)
  have e23 : val 23 = _ := hd 23 (by omega)
  have e24 : val 24 = _ := hd 24 (by omega)
  have e25 : val 25 = _ := hd 25 (by omega)
  have e26 : val 26 = _ := hd 26 (by omega)
  have e27 : val 27 = _ := hd 27 (by omega)
  have e28 : val 28 = _ := hd 28 (by omega)
  have e29 : val 29 = _ := hd 29 (by omega)
  have e30 : val 30 = _ := hd 30 (by omega)
  have e31 : val 31 = _ := hd 31 (by omega)
  have e32 : val 32 = _ := hd 32 (by omega)
  have e33 : val 33 = _ := hd 33 (by omega)
  refine EL.ends (cs := [_, _, _, _, _, _, _, _, _, _, _, _, _, _, _, _, _, _, _, _, _, _, _, _, _, _, _, _, _, _, _, _, _, _]) ⟨e0, e1, e2, e3, e4, e5, e6, e7, e8, e9, e10, e11, e12, e13, e14, e15, e16, e17, e18, e19, e20, e21, e22, e23, e24, e25, e26, e27, e28, e29, e30, e31, e32, e33, trivial⟩ rfl ?_;replace hbw := bo_ hbw hb;clear hb;refine EL.call (cA3 QNu rfl rfl rfl) rfl (QK7 (hd2.below (hbw.mono hB)) (he2.below (hbw.mono hB)) (Nat.le_trans hB hbw.size) hn) ?_
  rintro e w1 ⟨rfl, hc1⟩
  refine ⟨_, rfl, ?_⟩;replace hbw := bo_ hbw hc1;clear hc1;refine EL.newS (QLG rfl rfl rfl) rfl ?_;intro g2 w2 q2 hb2 hg2 hl2;have bhbw_2 := Nat.le_trans hbw.size hg2;replace hbw := bo_ hbw hb2;clear hb2 hg2 hl2;refine EL.call (cA1 QMq rfl) rfl (QKQ (l := [cmpI d.s.cost e.s.cost, cmpI d.s.mv e.s.mv, cmpL d.plan e.plan]) (Y8 (k := 3) (l := ints [cmpI d.s.cost e.s.cost, cmpI d.s.mv e.s.mv, cmpL d.plan e.plan]) q2 rfl) (Nat.le_refl _) (by simp)) ?_
  rintro e w3 ⟨rfl, hc3⟩
  refine ⟨_, rfl, ?_⟩;replace q2 := q2.bl hc3;replace hbw := bo_ hbw hc3;clear hc3;refine EL.as rfl rfl (EL.nil (EX.seq (EC.ret ?_)))
  exact EX.done (res1 rfl rfl) ⟨rfl, hbw⟩
/-- a tow is put behind all that do not arrive later -/
def insT (x : TW) : List TW → List TW
 | [] => [x]
 | y :: l => if x.arrive < y.arrive then x :: y :: l else y :: insT x l
def Yr (l : List TW) : List TW := l.foldl (fun a x => insT x a) []
def fU (u : Bool) (ts : List TW) : List TW := ts.filter (fun t => t.up == u)
def qL (ts : List TW) (u : Bool) : List TW := Yr (fU u ts)
def ArrT (l : List TW) : Prop := l.Pairwise (fun a b => a.arrive ≤ b.arrive)
theorem QDa (x : TW) : ∀ l, (insT x l).Perm (x :: l)
 | [] => .refl _
 | y :: l => by
  unfold insT
  split
  ·exact .refl _
  ·exact ((QDa x l).cons y).trans (.swap x y l)
theorem QDi {x : TW} : ∀ {l : List TW}, ArrT l → ArrT (insT x l)
 | [], _ => by simp [insT, ArrT]
 | y :: l, h => by
  obtain ⟨h1, h2⟩ := List.pairwise_cons.1 h
  unfold insT
  split
  ·rename_i hc
   refine List.pairwise_cons.2 ⟨fun z hz => ?_, h⟩
   rcases List.mem_cons.1 hz with rfl | hz
   ·omega
   ·have := h1 z hz
    omega
  ·rename_i hc
   refine List.pairwise_cons.2 ⟨fun z hz => ?_, QDi h2⟩
   rcases List.mem_cons.1 ((QDa x l).mem_iff.1 hz) with rfl | hz
   ·omega
   ·exact h1 z hz
theorem QEN (l : List TW) (x : TW) : Yr (l ++ [x]) = insT x (Yr l) := by simp [Yr]
theorem QCL : ∀ (l a : List TW), (l.foldl (fun a x => insT x a) a).Perm (l ++ a)
 | [], a => .refl _
 | x :: l, a => by
  rw [List.foldl_cons];refine (QCL l _).trans (((QDa x a).append_left l).trans ?_)
  exact List.perm_middle
theorem QBS (l : List TW) : (Yr l).Perm l := by
 have := QCL l []
 rwa [List.append_nil] at this
theorem QBe : ∀ (l a : List TW), ArrT a → ArrT (l.foldl (fun a x => insT x a) a)
 | [], a, h => h
 | x :: l, a, h => QBe l _ (QDi h)
theorem QCk (l : List TW) : ArrT (Yr l) := QBe l [] .nil
theorem QBZ {x : TW} : ∀ {P Q : List TW}, (∀ p ∈ P, ¬x.arrive < p.arrive) → (∀ q ∈ Q, x.arrive < q.arrive) → insT x (P ++ Q) = P ++ x :: Q
 | [], [], _, _ => rfl
 | [], q :: Q, _, h => by
  show insT x (q :: Q) = _
  unfold insT
  rw [if_pos (h q (List.mem_cons_self ..))]
  rfl
 | p :: P, Q, h, k => by
  show insT x (p :: (P ++ Q)) = _
  unfold insT
  rw [if_neg (h p (List.mem_cons_self ..)), QBZ (fun z hz => h z (List.mem_cons_of_mem _ hz)) k]
  rfl
/-- the last of a sorted beginning does not arrive later: none does -/
theorem QHX {x y : TW} {P Q : List TW} (h : ArrT ((P ++ [y]) ++ Q)) (hy : ¬x.arrive < y.arrive) : ∀ p ∈ P ++ [y], ¬x.arrive < p.arrive := fun p hp => by
 have h1 := (List.pairwise_append.1 h).1
 rcases List.mem_append.1 hp with hp | hp
 ·have := (List.pairwise_append.1 h1).2.2 p hp y (List.mem_singleton.2 rfl)
  omega
 ·rw [List.mem_singleton.1 hp]
  exact hy
theorem QF0 (ts : List TW) (u : Bool) : (qL ts u).Perm (fU u ts) := QBS _
theorem QM8 (ts : List TW) : (qL ts false).length + (qL ts true).length = ts.length := by
 rw [(QF0 ts false).length_eq, (QF0 ts true).length_eq]
 unfold fU
 induction ts with
 | nil => rfl
 | cons t ts ih =>
  rw [List.filter_cons, List.filter_cons]
  cases h : t.up <;> simp at ih ⊢ <;> omega
theorem QM7 {ts : List TW} {u : Bool} {t : TW} (h : t ∈ qL ts u) : t ∈ ts ∧ t.up = u := by
 have := (QF0 ts u).mem_iff.1 h
 unfold fU at this
 rw [List.mem_filter] at this
 exact ⟨this.1, by simpa using this.2⟩
/-- a tow changes places with the one ahead of it -/
theorem QJ_ {x y : TW} (P R : List TW) : ((P ++ y :: x :: R).set (P.length + 1) y).set P.length x = P ++ x :: y :: R := by
 rw [List.set_append_right _ _ (by omega), show P.length + 1 - P.length = 1 by omega]
 rw [List.set_append_right _ _ (by omega), Nat.sub_self]
 rfl
theorem QL5 {x y : TW} (P R : List TW) : (P ++ y :: x :: R).getD P.length tw0 = y ∧ (P ++ y :: x :: R).getD (P.length + 1) tw0 = x := by
 constructor <;> simp [List.getD]
def or3 (a b : Int) : Int := if a = 0 then b else a
/-- a comparison that is a total order -/
structure Cmp {α : Type} (f : α → α → Int) : Prop where
 anti : ∀ x y, f y x = -f x y
 eq : ∀ x y, f x y = 0 → x = y
 trans : ∀ x y z, f x y ≤ 0 → f y z ≤ 0 → f x z ≤ 0
theorem Cmp.self {α : Type} {f : α → α → Int} (h : Cmp f) (x : α) : f x x = 0 := by
 have := h.anti x x
 omega
theorem Cmp.strict {α : Type} {f : α → α → Int} (h : Cmp f) {x y z : α} (h1 : f x y < 0) (h2 : f y z ≤ 0) : f x z < 0 := by
 have h3 := h.trans x y z (by omega) h2
 by_cases e : f x z = 0
 ·have := h.eq x z e
  subst this;have := h.anti x y
  omega
 ·omega
theorem QDK : Cmp cmpI := ⟨fun x y => by unfold cmpI; split <;> split <;> (try split) <;> omega, fun x y h => by
 unfold cmpI at h
 split at h
 ·omega
 ·split at h <;> omega, fun x y z h1 h2 => by
 unfold cmpI at h1 h2 ⊢
 split at h1 <;> split at h2 <;> (try split at h1) <;> (try split at h2) <;> split <;> (try split) <;> omega⟩
theorem Cmp.lex {β γ : Type} {f : β → β → Int} {g : γ → γ → Int} (hf : Cmp f) (hg : Cmp g) : Cmp fun (x y : β × γ) => or3 (f x.1 y.1) (g x.2 y.2) := by
 refine ⟨fun x y => ?_, fun x y h => ?_, fun x y z h1 h2 => ?_⟩
 ·have h1 := hf.anti x.1 y.1
  have h2 := hg.anti x.2 y.2
  unfold or3
  split <;> split <;> omega
 ·unfold or3 at h
  split at h
  ·rename_i h1
   exact Prod.ext (hf.eq _ _ h1) (hg.eq _ _ h)
  ·rename_i h1
   exact absurd h h1
 ·unfold or3 at h1 h2 ⊢
  split at h1
  ·rename_i a1
   have e1 := hf.eq _ _ a1;rw [e1]
   split at h2
   ·rename_i a2
    rw [if_pos a2]
    exact hg.trans _ _ _ h1 h2
   ·rename_i a2
    rw [if_neg a2]
    exact h2
  ·rename_i a1
   split at h2
   ·rename_i a2
    have e2 := hf.eq _ _ a2;rw [← e2, if_neg a1]
    exact h1
   ·rename_i a2
    have := hf.strict (x := x.1) (y := y.1) (z := z.1) (by omega) h2
    rw [if_neg (by omega)]
    omega
theorem Cmp.inj {α β : Type} {f : β → β → Int} (hf : Cmp f) {k : α → β} (hk : ∀ x y, k x = k y → x = y) : Cmp fun x y => f (k x) (k y) :=
 ⟨fun x y => hf.anti _ _, fun x y h => hk _ _ (hf.eq _ _ h), fun x y z h1 h2 => hf.trans _ _ _ h1 h2⟩
/-- lists, one after another; the beginning of a list is less than it -/
def QB3 {α : Type} (f : α → α → Int) : List α → List α → Int
 | [], [] => 0
 | [], _ :: _ => -1
 | _ :: _, [] => 1
 | x :: xs, y :: ys => or3 (f x y) (QB3 f xs ys)
theorem Cmp.list {α : Type} {f : α → α → Int} (hf : Cmp f) : Cmp (QB3 f) := by
 refine ⟨fun x => ?_, fun x => ?_, fun x => ?_⟩
 ·induction x with
  | nil => intro y; cases y <;> rfl
  | cons a x ih =>
   intro y
   cases y with
   | nil => rfl
   | cons b y =>
    have h1 := hf.anti a b;have h2 := ih y
    show or3 (f b a) (QB3 f y x) = -or3 (f a b) (QB3 f x y)
    unfold or3
    split <;> split <;> omega
 ·induction x with
  | nil =>
   intro y h
   cases y with
   | nil => rfl
   | cons b y => exact absurd h (by show ¬((-1 : Int) = 0); decide)
  | cons a x ih =>
   intro y h
   cases y with
   | nil => exact absurd h (by show ¬((1 : Int) = 0); decide)
   | cons b y =>
    change or3 (f a b) (QB3 f x y) = 0 at h
    unfold or3 at h
    split at h
    ·rename_i h1
     rw [hf.eq _ _ h1, ih y h]
    ·rename_i h1
     exact absurd h h1
 ·induction x with
  | nil =>
   intro y z h1 h2
   cases z with
   | nil => exact Int.le_refl _
   | cons c z => show (-1 : Int) ≤ 0; decide
  | cons a x ih =>
   intro y z h1 h2
   cases y with
   | nil => exact absurd h1 (by show ¬((1 : Int) ≤ 0); decide)
   | cons b y =>
    cases z with
    | nil => exact absurd h2 (by show ¬((1 : Int) ≤ 0); decide)
    | cons c z =>
     change or3 (f a b) (QB3 f x y) ≤ 0 at h1;change or3 (f b c) (QB3 f y z) ≤ 0 at h2
     show or3 (f a c) (QB3 f x z) ≤ 0
     unfold or3 at h1 h2 ⊢
     split at h1
     ·rename_i a1
      have e1 := hf.eq _ _ a1;rw [e1]
      split at h2
      ·rename_i a2
       rw [if_pos a2]
       exact ih y z h1 h2
      ·rename_i a2
       rw [if_neg a2]
       exact h2
     ·rename_i a1
      split at h2
      ·rename_i a2
       have e2 := hf.eq _ _ a2;rw [← e2, if_neg a1]
       exact h1
      ·rename_i a2
       have := hf.strict (x := a) (y := b) (z := c) (by omega) h2
       rw [if_neg (by omega)]
       omega
/-! ### The order of drafts -/
theorem QKS (a b : Int) : orI [a, b] = or3 a b := by
 unfold orI or3
 split
 ·simp only [orI]
  split <;> simp_all
 ·rfl
theorem QMj (a b c : Int) : orI [a, b, c] = or3 a (or3 b c) := by
 unfold or3
 simp only [orI]
 split
 ·split
  ·split <;> simp_all
  ·rfl
 ·rfl
theorem QHM : Cmp QAC := by
 have h := Cmp.inj (Cmp.lex QDK QDK) (k := fun (x : SP) => (wyB x.up, x.tows)) (fun x y h => by
  obtain ⟨u, n⟩ := x;obtain ⟨v, m⟩ := y
  injection h with h1 h2
  cases u <;> cases v <;> simp_all [wyB])
 have e : QAC = fun x y => or3 (cmpI (wyB x.up) (wyB y.up)) (cmpI x.tows y.tows) := by
  funext x y
  exact QKS _ _
 rw [e]
 exact h
theorem QI1 : ∀ x y, cmpL x y = QB3 QAC x y
 | [], [] => rfl
 | [], _ :: _ => rfl
 | _ :: _, [] => rfl
 | a :: x, b :: y => by
  show (if QAC a b = 0 then cmpL x y else QAC a b) = or3 (QAC a b) (QB3 QAC x y)
  rw [QI1 x y]
  rfl
/-- the order of drafts' keys -/
def keyD (d : Dr) : Int × Int × List SP := (d.s.cost, d.s.mv, d.plan)
def cmpK (x y : Int × Int × List SP) : Int := or3 (cmpI x.1 y.1) (or3 (cmpI x.2.1 y.2.1) (QB3 QAC x.2.2 y.2.2))
theorem QCF : Cmp cmpK := Cmp.lex QDK (Cmp.lex QDK (Cmp.list QHM))
theorem QAs (d e : Dr) : cmpD d e = cmpK (keyD d) (keyD e) := by
 unfold cmpD
 rw [QMj, QI1]
 rfl
def leD (d e : Dr) : Prop := cmpD d e ≤ 0
theorem QAm (d : Dr) : leD d d := by
 unfold leD
 rw [QAs, QCF.self]
 exact Int.le_refl _
theorem Y1 {a b c : Dr} (h : leD a b) (k : leD b c) : leD a c := by
 unfold leD at *
 rw [QAs] at *
 exact QCF.trans _ _ _ h k
theorem QJZ {a b : Dr} (h : ¬leD a b) : leD b a := by
 unfold leD at *
 rw [QAs] at *;have := QCF.anti (keyD a) (keyD b)
 omega
theorem QKk {a b : Dr} : cmpD a b < 0 ↔ ¬leD b a := by
 unfold leD
 rw [QAs, QAs];have := QCF.anti (keyD a) (keyD b)
 omega
theorem QKl {a b : Dr} (h : leD a b) (k : leD b a) : keyD a = keyD b := by
 unfold leD at *
 rw [QAs] at *;have := QCF.anti (keyD a) (keyD b)
 exact QCF.eq _ _ (by omega)
/-! ### Heaps -/
def parN (k : Nat) : Nat := (k - 1) / 2
def swF {α : Type} (g : Nat → α) (i j : Nat) : Nat → α := fun k => if k = i then g j else if k = j then g i else g k
def YQ (n : Nat) (g : Nat → Dr) : Prop := ∀ k, 0 < k → k < n → leD (g (parN k)) (g k)
/-- a heap but for the place j, which may be too low in it -/
def UpI (n : Nat) (g : Nat → Dr) (j : Nat) : Prop := (∀ k, 0 < k → k < n → k ≠ j → leD (g (parN k)) (g k)) ∧ (0 < j → ∀ k, 0 < k → k < n → parN k = j → leD (g (parN j)) (g k))
/-- a heap but for the place i, which may be too high in it -/
def DnI (n : Nat) (g : Nat → Dr) (i : Nat) : Prop := (∀ k, 0 < k → k < n → parN k ≠ i → leD (g (parN k)) (g k)) ∧ (0 < i → ∀ k, 0 < k → k < n → parN k = i → leD (g (parN i)) (g k))
theorem YQ.top {n : Nat} {g : Nat → Dr} (h : YQ n g) : ∀ k, k < n → leD (g 0) (g k) := fun k => by
 induction k using Nat.strongRecOn with
 | ind k ih =>
  intro hk
  by_cases h0 : k = 0
  ·subst h0
   exact QAm _
  ·exact Y1 (ih (parN k) (by unfold parN; omega) (by unfold parN; omega)) (h k (by omega) hk)
theorem UpI.done {n j : Nat} {g : Nat → Dr} (h : UpI n g j) (hd : j = 0 ∨ leD (g (parN j)) (g j)) : YQ n g := fun k h0 hk => by
 by_cases e : k = j
 ·subst e
  rcases hd with rfl | hd
  ·omega
  ·exact hd
 ·exact h.1 k h0 hk e
theorem UpI.start {n : Nat} {g : Nat → Dr} (h : YQ n g) : UpI (n + 1) g n :=
 ⟨fun k h0 hk e => h k h0 (by omega), fun h0 k h1 h2 e => by unfold parN at e; omega⟩
theorem UpI.step {n j : Nat} {g : Nat → Dr} (h : UpI n g j) (h0 : 0 < j) (hj : j < n) (hl : leD (g j) (g (parN j))) : UpI n (swF g (parN j) j) (parN j) := by
 refine ⟨fun k k0 kn e => ?_, fun p0 k k0 kn e => ?_⟩
 ·by_cases e1 : k = j
  ·subst e1
   simp only [swF, if_pos trivial]
   rw [if_neg (by unfold parN; omega)]
   exact hl
  ·by_cases e2 : parN k = parN j
   ·simp only [swF, e2, if_pos trivial, if_neg e, if_neg e1]
    have := h.1 k k0 kn e1;rw [e2] at this
    exact Y1 hl this
   ·by_cases e3 : parN k = j
    ·simp only [swF, if_neg e, if_neg e1]
     rw [if_neg e2, if_pos e3]
     exact h.2 h0 k k0 kn e3
    ·simp only [swF, if_neg e, if_neg e1, if_neg e2, if_neg e3]
     exact h.1 k k0 kn e1
 ·have hp := h.1 (parN j) p0 (by unfold parN at *; omega) (by unfold parN at *; omega)
  have hz : swF g (parN j) j (parN (parN j)) = g (parN (parN j)) := by
   unfold swF
   rw [if_neg (by unfold parN at *; omega), if_neg (by unfold parN at *; omega)]
  rw [hz]
  by_cases e1 : k = j
  ·subst e1
   simp only [swF, if_pos trivial]
   rw [if_neg (by unfold parN; omega)]
   exact hp
  ·simp only [swF]
   rw [if_neg (by unfold parN at *; omega), if_neg e1]
   have := h.1 k k0 kn e1;rw [e] at this
   exact Y1 hp this
theorem DnI.done {n i : Nat} {g : Nat → Dr} (h : DnI n g i) (hd : ∀ k, 0 < k → k < n → parN k = i → leD (g i) (g k)) : YQ n g := fun k h0 hk => by
 by_cases e : parN k = i
 ·rw [e]
  exact hd k h0 hk e
 ·exact h.1 k h0 hk e
theorem DnI.start {n : Nat} {g g' : Nat → Dr} (h : YQ (n + 1) g) (hg : ∀ k, 0 < k → k < n → g' k = g k) : DnI n g' 0 :=
 ⟨fun k h0 hk e => by rw [hg k h0 hk, hg (parN k) (by omega) (by unfold parN; omega)]; exact h k h0 (by omega), fun h0 => by omega⟩
theorem DnI.step {n i j : Nat} {g : Nat → Dr} (h : DnI n g i) (h0 : 0 < j) (hj : j < n) (hp : parN j = i) (hl : leD (g j) (g i)) (hs : ∀ k, 0 < k → k < n → parN k = i → leD (g j) (g k)) : DnI n (swF g i j) j := by
 subst hp;refine ⟨fun k k0 kn e => ?_, fun _ k k0 kn e => ?_⟩
 ·by_cases e1 : k = j
  ·subst e1
   simp only [swF, if_pos trivial]
   rw [if_neg (by unfold parN; omega)]
   exact hl
  ·by_cases e2 : parN k = parN j
   ·simp only [swF, e2, if_pos trivial]
    rw [if_neg (by unfold parN at *; omega), if_neg e1]
    exact hs k k0 kn e2
   ·by_cases e4 : k = parN j
    ·subst e4
     simp only [swF, if_pos trivial]
     rw [if_neg e2, if_neg e]
     exact h.2 k0 j h0 hj rfl
    ·simp only [swF]
     rw [if_neg e2, if_neg e, if_neg e4, if_neg e1]
     exact h.1 k k0 kn e2
 ·have hz : swF g (parN j) j (parN j) = g j := by simp only [swF, if_pos trivial]
  rw [hz];have hk : swF g (parN j) j k = g k := by
   unfold swF
   rw [if_neg (by unfold parN at *; omega), if_neg (by unfold parN at *; omega)]
  rw [hk];have := h.1 k k0 kn (by unfold parN at *; omega)
  rw [e] at this
  exact this
section
variable {P : Program} {w : World}
theorem QKF {t e : TypeId} {size bytes base B m k ty : Nat} {A : Option Addr} (E : Elem P t e size bytes) {src : Value} {xs news : List Value} (hown : w.ownsRow base e size (.slice A k k) k xs) (hr : Rd w B size src m news) (h1 : ∀ u ∈ news, u.oneCell' = true) (hm : k + m ≤ 1048576) (hby : bytes ≤ 1048576) (hbase : base ≤ w.heap.size) :
  ∃ v' w', (Builtin.append_ #[t, t] ty #[.slice A k k, src]).run P w = .ok v' w' ∧ w'.ownsRow base e size v' (k + m) (xs ++ news) ∧ Below w.heap.size w w' ∧ (m = 0 ∨ v'.ownBlock = some w.heap.size) := by
 obtain ⟨v', w', h2, h3, h4, h5, h6⟩ := QBr (ty := ty) E hown hr h1 hm hby hbase;obtain ⟨i, z, hi, hz, hsize, hb, hzs⟩ := E.hi;have hrow := hown.2;obtain ⟨hl, X, c, rfl, hnc, hr⟩ := hr
 rcases Nat.eq_zero_or_pos m with hm0 | hm0
 ·subst hm0
  refine ⟨v', w', h2, h3, ?_, .inl rfl⟩;have hn : news = [] := List.eq_nil_of_length_eq_zero (by simpa using hl)
  subst hn
  rcases X with _ | ad
  ·have h7 := Y6 (P := P) w base t ty e i size E.ht hi _ k xs hown c
   rw [h2] at h7
   injection h7 with _ h7
   rw [h7]
   exact Below.refl _ _
  ·rcases hrow with ⟨h8, _⟩ | ⟨g, cap, cur, h8, _, hq, hc1, hc2, hc3, hc4⟩
   ·injection h8 with h8 _ _
    subst h8;refine ⟨h4.os, h4.tape, h4.output, h4.size, fun j hj => h4.block j hj (by simp [Value.ownBlock])⟩
   ·injection h8 with h8 _ h9
    subst h8;subst h9;have h7 := run_append_room (P := P) w t ty e i E.ht hi g k k cur hq ad 0 c [] (by simp) (by simp) (by simp) (by omega) (by rw [hsize]; simp [hc3])
    rw [h2] at h7
    injection h7 with _ h7
    have key : w'.heap[g]? = w.heap[g]? := by
     have h10 := QAk (ds := (List.take (k * i.size) cur.toList ++ [] ++ List.drop (k * i.size + ([] : List Value).length) cur.toList).toArray) hq;rw [← h7] at h10
     unfold Blk at h10
     rw [h10, hq]
     simp
    exact ⟨h4.os, h4.tape, h4.output, h4.size, fun j hj => by
     by_cases ej : j = g
     ·subst ej; exact key
     ·exact h4.block j hj (fun h => ej (by simpa [Value.ownBlock] using h))⟩
 ·obtain ⟨b, off, rfl, _, hc⟩ := hr hm0
  have hmul : m * i.bytes ≤ 1048576 * i.bytes := Nat.mul_le_mul_right _ (by omega)
  have hkm : (k + m) * i.bytes ≤ 1048576 * i.bytes := Nat.mul_le_mul_right _ (by omega)
  have hal : ∀ o, Below w.heap.size w (w.drew.alloc o) := fun o => ⟨rfl, rfl, rfl, by simp, fun j hj => by
   simp only [World.alloc, World.drew]
   rw [Array.getElem?_push_lt hj, Array.getElem?_eq_getElem hj]⟩
  rcases hrow with ⟨h8, _⟩ | ⟨g, cap, cur, h8, _, hq, hc1, hc2, hc3, hc4⟩
  ·injection h8 with h8 h9 _
   subst h8;subst h9;have h7 := run_append_nil (P := P) w t ty e i z E.ht hi hz ⟨b, off, none⟩ m c news (by rw [hsize]; exact hl) (fun j u hu => by rw [Addr.add_lit]; exact hc j u hu) hm0 (by omega) (by omega)
   rw [h2] at h7
   injection h7 with h8 h7
   refine ⟨v', w', h2, h3, by rw [h7]; exact hal _, .inr (by rw [h8]; rfl)⟩
  ·injection h8 with h8 _ h9
   subst h8;subst h9;have hfit := growslice_fits (need := k + m) (old := k) (bytes := i.bytes) (by omega) (by omega)
   have h7 := run_append_grow (P := P) w t ty e i z E.ht hi hz ⟨g, 0, none⟩ k k xs (by rw [hsize]; exact hown.1) (fun j u hu => by
    rw [Addr.add_lit];have hq' : Blk w g e cur := hq;rw [hq'.cell, Nat.zero_add];rw [← hc4] at hu;rw [List.getElem?_take] at hu
    split at hu
    ·simpa using hu
    ·cases hu) ⟨b, off, none⟩ m c news (by rw [hsize]; exact hl) (fun j u hu => by rw [Addr.add_lit]; exact hc j u hu) (by omega) (by omega) hfit
   rw [h2] at h7
   injection h7 with h8 h7
   refine ⟨v', w', h2, h3, by rw [h7]; exact hal _, .inr (by rw [h8]; rfl)⟩
end
/-- a built slice is a row of one's own without room -/
theorem QFU {w : World} {g T base k size : Nat} {l : List Value} (h : Blk w g T l.toArray) (hl : lenV l = k * size) (hk : k ≤ 1048576) (hb : base ≤ g) : w.ownsRow base T size (.slice (some ⟨g, 0, none⟩) k k) k l := by
 have hl' : l.length = k * size := by rw [← Yu]; exact hl
 exact ⟨hl', .inr ⟨g, k, l.toArray, rfl, hb, h, Nat.le_refl _, by simp only [maxLen]; omega, by simpa using hl', by rw [← hl']; simp⟩⟩
section
variable {P : Program} {n : Nat} {σ : Sg} {L : List Oper} {cls : List (List Nat)} {alc : List Nat} {val : Nat → Value} {a : Act} {w1 : World} {i : Nat} {Q : Exit → Act → World → Prop}
end
abbrev FR (ro : Option Nat) : Fence := { Fence.wide with round := ro }
theorem QBz (ro : Option Nat) (n : Nat) : (FR ro).depth.isSome = true → 1 ≤ n := fun h => by cases h
theorem QCc {ro : Option Nat} {n : Nat} {P : Program} {f : FuncId} {args : Array Value} {w : World} {R : Ending → World → Prop} (h : Calls P f args w R) : CallsIn (FR ro) n P f args w R :=
 (callsIn_wide (n := n)).2 h
theorem QEU {ro : Option Nat} {m n l : Nat} {P : Program} {f : FuncId} {tmps : Array Value} {assign body : Code} {w : World} {R : Ending → World → Prop} (h : RoundIn Fence.wide m P l f tmps assign body w R) : RoundIn (FR ro) n P l f tmps assign body w R :=
 ⟨h.1, fun c cs _ => h.2 c cs (room_wide _)⟩
/-- a frame with deferred calls ds -/
structure EnvG (n : Nat) (ds : List Deferred) (σ : Sg) (a : Act) : Prop where
 env : Env n σ ⟨a.tmps, []⟩
 ds : a.defers = ds
section
variable {n : Nat} {ds : List Deferred} {σ τ : Sg} {a : Act}
theorem Env.g (h : Env n σ a) : EnvG n [] σ a := ⟨⟨h.size, rfl, h.get⟩, h.defers⟩
theorem EnvG.e (h : EnvG n [] σ a) : Env n σ a := ⟨h.env.size, h.ds, h.env.get⟩
theorem QBL (a : Act) : (⟨a.tmps, []⟩ : Act).eval = a.eval := by
 funext x
 cases x <;> rfl
theorem EnvG.eval (h : EnvG n ds σ a) {x : Operand} {v : Value} (hx : evS σ x = some v) : a.eval x = v := by
 rw [← QBL]
 exact h.env.eval hx
theorem EnvG.put (h : EnvG n ds σ a) {d : Nat} (hd : Nat.blt d n = true) (v : Value) : EnvG n ds (ins σ d v) (a.put (some d) v) :=
 ⟨h.env.put hd v, h.ds⟩
theorem EnvG.sub (h : EnvG n ds σ a) (hs : Sub τ σ) : EnvG n ds τ a := ⟨h.env.sub hs, h.ds⟩
end
def ELI (ro : Option Nat) (k : Nat) (P : Program) (n : Nat) (ds : List Deferred) (L : List Oper) (Q : Exit → Act → World → Prop) (rest : List Oper) (σ : Sg) (w : World) : Prop := ∀ a, EnvG n ds σ a → wpListIn (FR ro) k P L.toArray Q rest a w
def ECI (ro : Option Nat) (k : Nat) (P : Program) (n : Nat) (ds : List Deferred) (c : Code) (Q : Exit → Act → World → Prop) (σ : Sg) (w : World) : Prop := ∀ a, EnvG n ds σ a → c.wpIn (FR ro) k P Q a w
def EXI (n : Nat) (ds : List Deferred) (Q : Exit → Act → World → Prop) (e : Exit) (σ : Sg) (w : World) : Prop := ∀ a, EnvG n ds σ a → Q e a w
section
variable {ro : Option Nat} {k : Nat} {P : Program} {n : Nat} {ds : List Deferred} {σ τ : Sg} {w : World} {Q : Exit → Act → World → Prop} {L : List Oper} {rest : List Oper}
theorem QBp {o : Oper} (h : ∀ c, o.op ≠ .defer c) (ρ : Operand → Value) : o.semAt (FR ro).round ρ = execOp ρ o := Oper.semAt_eq _ _ _ h
/-- an operation that yields a value is no defer -/
theorem QCu {o : Oper} {ρ : Operand → Value} {w' : World} {r : Next} (hr : (execOp ρ o).run P w = .ok r w') (hn : ∀ d, r ≠ .defer d) : ∀ c, o.op ≠ .defer c := fun c h => by
 unfold execOp at hr
 simp only [h, Sem.run_bind] at hr
 cases he : (resolve ρ c o.type).run P w with
 | ok d w2 =>
  rw [he] at hr
  simp only [Result.andThen_ok, Sem.run_pure] at hr
  injection hr with h1 _
  exact hn d h1.symm
 | halt x w2 => rw [he] at hr; cases hr
theorem QCe {o : Oper} {a : Act} (hg : Region.wanted o (yielded L.toArray a.tmps) = true) {v : Value} {w' : World} (hr : (execOp a.eval o).run P w = .ok (.value v) w') (hk : wpListIn (FR ro) k P L.toArray Q rest (a.put o.dst v) w') : wpListIn (FR ro) k P L.toArray Q (o :: rest) a w := by
 unfold wpListIn
 rw [if_pos hg];refine ⟨fun _ _ => trivial, ?_⟩
 rw [QBp (QCu hr (fun d h => by cases h)), hr]
 exact hk
theorem QHh {o : Oper} {a : Act} (hg : Region.wanted o (yielded L.toArray a.tmps) = true) {w' : World} (hr : (execOp a.eval o).run P w = .ok .skip w') (hk : wpListIn (FR ro) k P L.toArray Q rest (a.put o.dst undef) w') : wpListIn (FR ro) k P L.toArray Q (o :: rest) a w := by
 unfold wpListIn
 rw [if_pos hg];refine ⟨fun _ _ => trivial, ?_⟩
 rw [QBp (QCu hr (fun d h => by cases h)), hr]
 exact hk
theorem QDS {a : Act} (ha : EnvG n ds σ a) {j : Nat} {t : Tmp} {v : Value} (hj : ZV L j = some t) (ht : σ t = some v) : yielded L.toArray a.tmps j = match v with | .bool b => some b | _ => none :=
 QAJ ha.env hj ht
theorem ELI.nil (h : EXI n ds Q .normal σ w) : ELI ro k P n ds L Q [] σ w := fun a ha => wpListIn_nil (h a ha)
theorem ELI.val {d ty : Nat} {op : Op} {pos : String} {af : Array Edge} {v : Value} (h : ZJ P n σ w ⟨some d, op, ty, pos, af, none⟩ v) (hd : Nat.blt d n = true) (next : ELI ro k P n ds L Q rest (ins σ d v) w) : ELI ro k P n ds L Q (⟨some d, op, ty, pos, af, none⟩ :: rest) σ w :=
 fun a ha => QCe (ZX rfl _) (by rw [← QBL]; exact h _ ha.env) (next _ (ha.put hd v))
theorem ELI.valg {d ty j t : Nat} {b : Bool} {op : Op} {pos : String} {af : Array Edge} {v : Value} (hj : ZV L j = some t) (ht : σ t = some (.bool b)) (h : ZJ P n σ w ⟨some d, op, ty, pos, af, some (j, b)⟩ v) (hd : Nat.blt d n = true) (next : ELI ro k P n ds L Q rest (ins σ d v) w) : ELI ro k P n ds L Q (⟨some d, op, ty, pos, af, some (j, b)⟩ :: rest) σ w :=
 fun a ha => QCe (by simp [Region.wanted, QDS ha hj ht]) (by rw [← QBL]; exact h _ ha.env) (next _ (ha.put hd v))
theorem ELI.turn {d ty : Nat} {op : Op} {pos : String} {af : Array Edge} (v : Value) (w' : World) (h : ∀ a, Env n σ a → (execOp a.eval ⟨some d, op, ty, pos, af, none⟩).run P w = .ok (.value v) w') (hd : Nat.blt d n = true) (next : ELI ro k P n ds L Q rest (ins σ d v) w') : ELI ro k P n ds L Q (⟨some d, op, ty, pos, af, none⟩ :: rest) σ w :=
 fun a ha => QCe (ZX rfl _) (by rw [← QBL]; exact h _ ha.env) (next _ (ha.put hd v))
theorem ELI.call {d ty : Nat} {op : Op} {pos : String} {af : Array Edge} {f : FuncId} {args : Array Value} {R : Ending → World → Prop} (hr : ∀ a, Env n σ a → (execOp a.eval ⟨some d, op, ty, pos, af, none⟩).run P w = .ok (.enter f args) w) (hd : Nat.blt d n = true) (hc : Calls P f args w R)
  (next : ∀ e w', R e w' → ∃ v, e = .returned v ∧ ELI ro k P n ds L Q rest (ins σ d v) w') : ELI ro k P n ds L Q (⟨some d, op, ty, pos, af, none⟩ :: rest) σ w := fun a ha => by
 have hr' := hr _ ha.env;rw [QBL] at hr'
 unfold wpListIn
 rw [if_pos (ZX rfl _)];refine ⟨fun _ _ => trivial, ?_⟩
 rw [QBp (QCu hr' (fun d h => by cases h)), hr']
 refine ⟨QBz _ _, CallsIn.mono (QCc hc) fun e w' he => ?_⟩
 obtain ⟨v, rfl, hv⟩ := next e w' he
 exact hv _ (ha.put hd v)
/-- a call of yield: a round -/
theorem ELI.yield {d ty l : Nat} {x y : Operand} {at' : Array TypeId} {pos : String} {af : Array Edge} {v : Value} {R : Ending → World → Prop} {fn : FuncId} {tmps : Array Value} {assign body : Code} (hx : evS σ x = some (.func (.yield l) #[] #[])) (hy : evS σ y = some v) (hd : Nat.blt d n = true) (hi : (Instr.yield l #[v]).run P w = .ok (.round l fn tmps assign body) w) (hR : RoundIn Fence.wide 0 P l fn tmps assign body w R)
  (next : ∀ e w', R e w' → ∃ v, e = .returned v ∧ ELI ro k P n ds L Q rest (ins σ d v) w') : ELI ro k P n ds L Q (⟨some d, .call { callee := .value x, args := #[y], argTypes := at' }, ty, pos, af, none⟩ :: rest) σ w := fun a ha => by
 have hr' : (execOp a.eval ⟨some d, .call { callee := .value x, args := #[y], argTypes := at' }, ty, pos, af, none⟩).run P w = .ok (.round l fn tmps assign body) w := by
  simp only [execOp, resolve, List.map_toArray, List.map_cons, List.map_nil, ha.eval hx, ha.eval hy]
  simp [go_sem, Deferred.ofValue, hi]
 unfold wpListIn
 rw [if_pos (ZX rfl _)];refine ⟨fun _ _ => trivial, ?_⟩
 rw [QBp (QCu hr' (fun d h => by cases h)), hr']
 refine ⟨QBz _ _, RoundIn.mono (QEU hR) fun e w' he => ?_⟩
 obtain ⟨v, rfl, hv⟩ := next e w' he
 exact hv _ (ha.put hd v)
theorem ELI.newP {d ty : Nat} {op : Op} {pos : String} {af : Array Edge} {cs : Array Value} {T : TypeId} (h : ∀ a, Env n σ a → (execOp a.eval ⟨some d, op, ty, pos, af, none⟩).run P w = .ok (.value (.pointer (some ⟨w.heap.size, 0, none⟩))) (w.alloc (.cells cs T))) (hd : Nat.blt d n = true)
  (next : ∀ g w', Blk w' g T cs → Below w.heap.size w w' → w.heap.size ≤ g → w.heap.size < w'.heap.size → ELI ro k P n ds L Q rest (ins σ d (.pointer (some ⟨g, 0, none⟩))) w') : ELI ro k P n ds L Q (⟨some d, op, ty, pos, af, none⟩ :: rest) σ w :=
 ELI.turn _ _ h hd (next _ _ (Blk.new w T cs) ((Below.refl _ _).alloc (Nat.le_refl _) _) (Nat.le_refl _) (by simp))
theorem ELI.newS {d ty m c : Nat} {op : Op} {pos : String} {af : Array Edge} {cs : Array Value} {T : TypeId} (h : ∀ a, Env n σ a → (execOp a.eval ⟨some d, op, ty, pos, af, none⟩).run P w = .ok (.value (.slice (some ⟨w.heap.size, 0, none⟩) m c)) (w.alloc (.cells cs T))) (hd : Nat.blt d n = true)
  (next : ∀ g w', Blk w' g T cs → Below w.heap.size w w' → w.heap.size ≤ g → w.heap.size < w'.heap.size → ELI ro k P n ds L Q rest (ins σ d (.slice (some ⟨g, 0, none⟩) m c)) w') : ELI ro k P n ds L Q (⟨some d, op, ty, pos, af, none⟩ :: rest) σ w :=
 ELI.turn _ _ h hd (next _ _ (Blk.new w T cs) ((Below.refl _ _).alloc (Nat.le_refl _) _) (Nat.le_refl _) (by simp))
theorem ELI.store {ty t T g o z : Nat} {x y : Operand} {pos : String} {af : Array Edge} {l l' : List Value} {v : Value} (hx : evS σ x = some (.pointer (some ⟨g, o, none⟩))) (hy : evS σ y = some v) (hb : Blk w g T l.toArray) (hs : (P.info? t).map (·.size) = some z) (hv : v.cells.toList = l') (hk : lenV l' = z) (ho : Nat.ble (o + z) (lenV l) = true) (h1 : QBd l' = true)
  (next : ∀ w', Blk w' g T (spl l o l').toArray → w.grownBy w' (some g) → KeepsOthers w w' → ELI ro k P n ds L Q rest σ w') : ELI ro k P n ds L Q (⟨none, .store t x y, ty, pos, af, none⟩ :: rest) σ w := fun a ha => by
 have hr : (execOp a.eval ⟨none, .store t x y, ty, pos, af, none⟩).run P w = .ok .skip (w.setRow g (spl l o l').toArray) := by
  simp only [execOp, ha.eval hx, ha.eval hy, Sem.run_bind, QBq hs hb hv hk ho h1, Result.andThen_ok]
  rfl
 refine QHh (ZX rfl _) hr (next _ (QAk hb) (Y5 _ _ _) ⟨(Y5 w g _).size, fun j ob hj hc => ?_⟩ a ha)
 by_cases e : j = g
 ·subst e
  unfold Blk at hb
  rw [hb] at hj
  injection hj with hj
  subst hj
  cases hc
 ·exact ((Y5 w g (spl l o l').toArray).block j (Array.getElem?_eq_some_iff.1 hj).1 (fun h => e (Option.some.inj h))).trans hj
theorem QDg {A B : World} (h : Below A.heap.size A B) : KeepsOthers A B := ⟨h.size, fun k _ hk _ => (h.block k (Array.getElem?_eq_some_iff.1 hk).1).trans hk⟩
theorem QJa {w w' : World} {base e size n : Nat} {v : Value} {xs : List Value} (h : w.ownsRow base e size v n xs) (hg : w.grownBy w' v.ownBlock) : KeepsOthers w w' := ⟨hg.size, fun j o hj hc => by
 refine (hg.block j (Array.getElem?_eq_some_iff.1 hj).1 fun e1 => ?_).trans hj
 obtain ⟨_, ⟨rfl, _⟩ | ⟨g, cap, cur, rfl, _, hk, _⟩⟩ := h
 ·cases e1
 ·have e2 : j = g := by simpa [Value.ownBlock] using e1
  subst e2;rw [hk] at hj
  injection hj with hj
  subst hj
  cases hc⟩
theorem ELI.push {d ty t e size bytes base B m c : Nat} {s x : Operand} {pos : String} {af : Array Edge} (E : Elem P t e size bytes) {v src : Value} {xs news : List Value} (hs : evS σ s = some v) (hx : evS σ x = some src) (hown : w.ownsRow base e size v c xs) (hr : Rd w B size src m news) (h1 : ∀ u ∈ news, u.oneCell' = true) (hm : c + m ≤ 1048576) (hby : Nat.ble bytes 1048576 = true) (hbase : base ≤ w.heap.size) (hd : Nat.blt d n = true)
  (next : ∀ v' w', w'.ownsRow base e size v' (c + m) (xs ++ news) → w.grownBy w' v.ownBlock → Below base w w' → KeepsOthers w w' → ELI ro k P n ds L Q rest (ins σ d v') w') : ELI ro k P n ds L Q (⟨some d, .call { callee := .builtin .append, args := #[s, x], argTypes := #[t, t] }, ty, pos, af, none⟩ :: rest) σ w := fun a ha => by
 obtain ⟨v', w', h2, h3, h4, h5, h6⟩ := QBr (P := P) (ty := ty) E hown hr h1 hm (by simpa [Nat.ble_eq] using hby) hbase
 exact QCe (ZX rfl _) (Z6 rfl (ha.eval hs) (ha.eval hx) h2) (next v' w' h3 h4 h5 (QJa hown h4) _ (ha.put hd v'))
/-! ### Code -/
theorem ECI.sub {c : Code} (h : ECI ro k P n ds c Q τ w) (hs : Sub τ σ) : ECI ro k P n ds c Q σ w := fun a ha => h a (ha.sub hs)
theorem ECI.seq {x y : Code} (h : ECI ro k P n ds x (Exit.then (y.wpIn (FR ro) k P Q) Q) σ w) : ECI ro k P n ds (.seq x y) Q σ w := fun a ha => wpIn_seq (h a ha)
theorem ECI.region {id : Nat} {l : List Oper} (h : ELI ro k P n ds l Q l σ w) : ECI ro k P n ds (.region id l.toArray false) Q σ w := fun a ha => wpIn_region_lit (h a ha)
theorem ECI.block {id : Nat} {c : Code} (h : ECI ro k P n ds c (Exit.inBlock id Q) σ w) : ECI ro k P n ds (.block id c) Q σ w := fun a ha => wpIn_block (h a ha)
theorem ECI.skip (h : EXI n ds Q .normal σ w) : ECI ro k P n ds .skip Q σ w := fun a ha => wpIn_skip (h a ha)
theorem ECI.exit {id : Nat} (h : EXI n ds Q (.exit id) σ w) : ECI ro k P n ds (.exit id) Q σ w := fun a ha => wpIn_exit (h a ha)
theorem ECI.ret (h : EXI n ds Q .ret σ w) : ECI ro k P n ds .ret Q σ w := fun a ha => wpIn_ret (h a ha)
theorem ECI.yes {c : Operand} {x y : Code} (hc : evS σ c = some (.bool true)) (h : ECI ro k P n ds x Q σ w) : ECI ro k P n ds (.cond c x y) Q σ w := fun a ha => wpIn_cond_true (ha.eval hc) (h a ha)
theorem ECI.no {c : Operand} {x y : Code} (hc : evS σ c = some (.bool false)) (h : ECI ro k P n ds y Q σ w) : ECI ro k P n ds (.cond c x y) Q σ w := fun a ha => wpIn_cond_false (ha.eval hc) (h a ha)
/-- code of a function is code of a round of none -/
theorem EC.inn {c : Code} (h : ECI none k P n [] c Q σ w) : EC P n c Q σ w := fun a ha => wpIn_wide.1 (h a ha.g)
theorem ECI.out {c : Code} (h : EC P n c Q σ w) : ECI none k P n [] c Q σ w := fun a ha => wpIn_wide.2 (h a ha.e)
/-! ### Exits -/
theorem EXI.seq {y : Code} (h : ECI ro k P n ds y Q σ w) : EXI n ds (Exit.then (y.wpIn (FR ro) k P Q) Q) .normal σ w := h
theorem EXI.seq_exit {K : Act → World → Prop} {i : Nat} (h : EXI n ds Q (.exit i) σ w) : EXI n ds (Exit.then K Q) (.exit i) σ w := h
theorem EXI.seq_ret {K : Act → World → Prop} (h : EXI n ds Q .ret σ w) : EXI n ds (Exit.then K Q) .ret σ w := h
theorem EXI.blk {id : Nat} (h : EXI n ds Q .normal σ w) : EXI n ds (Exit.inBlock id Q) .normal σ w := h
theorem EXI.blk_ret {id : Nat} (h : EXI n ds Q .ret σ w) : EXI n ds (Exit.inBlock id Q) .ret σ w := h
theorem EXI.blk_here {id : Nat} (h : EXI n ds Q .normal σ w) : EXI n ds (Exit.inBlock id Q) (.exit id) σ w := fun a ha => by
 simp only [Exit.inBlock, if_true]
 exact h a ha
theorem EXI.blk_other {id i : Nat} (hi : Nat.beq i id = false) (h : EXI n ds Q (.exit i) σ w) : EXI n ds (Exit.inBlock id Q) (.exit i) σ w := fun a ha => by
 simp only [Exit.inBlock, if_neg (Nat.ne_of_beq_eq_false hi)]
 exact h a ha
end
/-! ### What a body leaves as it was -/
structure Kp (n0 : Nat) (S : List Nat) (W W' : World) : Prop where
 os : W'.os = W.os
 tape : W'.tape = W.tape
 output : W'.output = W.output
 size : W.heap.size ≤ W'.heap.size
 low : ∀ k, k < n0 → W'.heap[k]? = W.heap[k]?
 blk : ∀ g T cs, Blk W g T cs → memB S T = false → Blk W' g T cs
section
variable {n0 : Nat} {S : List Nat} {A B C : World}
theorem Kp.refl (n0 : Nat) (S : List Nat) (W : World) : Kp n0 S W W := ⟨rfl, rfl, rfl, Nat.le_refl _, fun _ _ => rfl, fun _ _ _ h _ => h⟩
theorem Kp.trans (h : Kp n0 S A B) (k : Kp n0 S B C) : Kp n0 S A C := ⟨k.os.trans h.os, k.tape.trans h.tape, k.output.trans h.output, Nat.le_trans h.size k.size, fun i hi => (k.low i hi).trans (h.low i hi), fun g T cs hg hT => k.blk g T cs (h.blk g T cs hg hT) hT⟩
theorem Kp.of_below (h : Below A.heap.size A B) (hn : n0 ≤ A.heap.size) : Kp n0 S A B := ⟨h.os, h.tape, h.output, h.size, fun k hk => h.block k (by omega), fun g T cs hg _ => hg.below h hg.lt⟩
theorem Kp.below (h : Kp n0 S A B) : Below n0 A B := ⟨h.os, h.tape, h.output, h.size, h.low⟩
theorem Kp.alloc (W : World) (hn : n0 ≤ W.heap.size) (o : Obj) : Kp n0 S W (W.alloc o) := Kp.of_below ((Below.refl _ _).alloc (Nat.le_refl _) _) hn
theorem Kp.putObj {W : World} {l : Nat} {o : Obj} (o' : Obj) (hl : n0 ≤ l) (ho : W.heap[l]? = some o) (hc : o.isCells = false) : Kp n0 S W (W.putObj l o') :=
 ⟨rfl, rfl, rfl, by simp, fun k hk => World.putObj_heap_other (by omega), fun g T cs hg _ => by
  unfold Blk at hg ⊢
  by_cases e : g = l
  ·subst e
   rw [ho] at hg
   injection hg with hg
   subst hg
   cases hc
  ·exact (World.putObj_heap_other e).trans hg⟩
/-- a store to a block of one of the kinds -/
theorem Kp.grown {w w' : World} {g T : Nat} {cs : Array Value} (hq : Blk w g T cs) (hT : memB S T = true) (hn : n0 ≤ g) (hg : w.grownBy w' (some g)) : Kp n0 S w w' :=
 ⟨hg.os, hg.tape, hg.output, hg.size, fun k hk => by
  by_cases e : k < w.heap.size
  ·exact hg.block k e (fun h => by injection h; omega)
  ·have := hq.lt; omega, fun k T' cs' hk hT' => by
  refine (hg.block k hk.lt fun h => ?_).trans hk
  injection h with h
  subst h
  unfold Blk at hk hq
  rw [hq] at hk
  injection hk with hk
  injection hk with _ h2
  subst h2;rw [hT] at hT'
  cases hT'⟩
theorem Kp.own {w w' : World} {base e size n : Nat} {v : Value} {xs : List Value} (h : w.ownsRow base e size v n xs) (hT : memB S e = true) (hn : n0 ≤ base) (hn2 : n0 ≤ w.heap.size) (hg : w.grownBy w' v.ownBlock) : Kp n0 S w w' := by
 obtain ⟨_, ⟨rfl, _⟩ | ⟨g, cap, cur, rfl, hb, hk, _⟩⟩ := h
 ·exact Kp.of_below ⟨hg.os, hg.tape, hg.output, hg.size, fun k hk => hg.block k hk (by simp [Value.ownBlock])⟩ hn2
 ·exact Kp.grown (cs := cur) hk hT (by omega) hg
theorem Kp.row {w w' : World} {base e size n : Nat} {v : Value} {xs : List Value} (h : Kp n0 S w w') (ho : w.ownsRow base e size v n xs) (hT : memB S e = false) : w'.ownsRow base e size v n xs := by
 obtain ⟨hl, h0 | ⟨g, cap, cur, hv, hb, hk, h1⟩⟩ := ho
 ·exact ⟨hl, .inl h0⟩
 ·exact ⟨hl, .inr ⟨g, cap, cur, hv, hb, h.blk g e cur hk hT, h1⟩⟩
end
/-! ### An iterator that hands lists of integers -/
abbrev It := List Int × Value
def QLR (P : Program) (l : Nat) (args : Array Value) (W : World) (R : Ending → World → Prop) : Prop :=
 ∃ fn tmps assign body, (Instr.yield l args).run P W = .ok (.round l fn tmps assign body) W ∧ RoundIn Fence.wide 0 P l fn tmps assign body W R
section
variable {P : Program} {n : Nat} {ds : List Deferred} {σ : Sg} {w : World} {Q : Exit → Act → World → Prop}
theorem QIy {d : Nat} {a : Act} {v : Value} (h : EnvG n ds σ a) (hd : Nat.blt d n = true) : EnvG n [] (ins σ d v) ⟨(#[d].zip #[v]).foldl (fun t (p, v) => t.setIfInBounds p v) a.tmps, []⟩ := by
 have h1 := (Env.put (a := ⟨a.tmps, []⟩) h.env hd v).g
 simpa [Act.put] using h1
/-! ### Leaving with marks -/
def Z8 (n0 : Nat) (ds : List Deferred) (W : World) : Prop := ∀ d ∈ ds, ∃ D, n0 ≤ D ∧ d = { target := .collected D, args := #[] } ∧ W.heap[D]? = some (.deferred (some []))
/-- what taking the marks does -/
structure Took (n0 : Nat) (w w' : World) : Prop where
 below : Below n0 w w'
 size : w'.heap.size = w.heap.size
 blk : ∀ g T cs, Blk w g T cs → Blk w' g T cs
theorem QC0 {fn : Func} {tmps : Array Value} {R : Ending → World → Prop} {n0 k : Nat} : ∀ (ds : List Deferred) (w : World), Z8 n0 ds w → ds.Nodup → (∀ w', Took n0 w w' → ∃ v, (results fn tmps).run P w' = .ok v w' ∧ R (.returned v) w') → LeavesInM Fence.wide k P fn tmps R ds .returning w
 | [], w, _, _, h => h w ⟨Below.refl _ _, rfl, fun _ _ _ h => h⟩
 | d :: ds, w, hm, hd, h => by
  obtain ⟨D, hD, rfl, hw⟩ := hm d (List.mem_cons_self ..);have ho : ∀ j, j ≠ D → (w.putObj D (.deferred none)).heap[j]? = w.heap[j]? := fun j hj => World.putObj_heap_other hj
  refine ⟨by simp, .inl ⟨D, _, rfl, run_takeDeferred hw, QC0 (n0 := n0) ds _ (fun d' hd' => ?_) (List.nodup_cons.1 hd).2 fun w' ht => h w' ?_⟩⟩
  ·obtain ⟨D', h1, rfl, h3⟩ := hm d' (List.mem_cons_of_mem _ hd')
   refine ⟨D', h1, rfl, (ho D' fun e => ?_).trans h3⟩
   subst e
   exact (List.nodup_cons.1 hd).1 hd'
  ·have hk : Kp n0 [] w (w.putObj D (.deferred none)) := Kp.putObj _ hD hw rfl
   exact ⟨hk.below.trans ht.below, ht.size.trans (by simp), fun g T cs hg => ht.blk g T cs (hk.blk g T cs hg rfl)⟩
theorem EC.marks {fn : Func} {f : FuncId} {c : Code} {args : List Value} {R : Ending → World → Prop} (n : Nat) (hf : P.funcs[f]? = some fn) (hb : fn.body = some c) (hn : fn.ntmps = n) (hl : Nat.ble args.length n = true) (h : ECI none 0 P n [] c (bodyPostM Fence.wide 0 P fn R) (QE5 args 0) w) : Calls P f args.toArray w R := by
 subst hn;refine (callsIn_wide (n := 0)).1 (callsIn_of_wp_marks hf hb trivial ?_);have := h _ (QHI (l := args) (by simpa [Nat.ble_eq] using hl)).g
 simp only [List.size_toArray] at this ⊢
 exact this
theorem EXI.done {fn : Func} {R : Ending → World → Prop} {n0 : Nat} {v : Value} (hm : Z8 n0 ds w) (hd : ds.Nodup) (hr : ∀ w', Took n0 w w' → ∀ a, Env n σ a → (results fn a.tmps).run P w' = .ok v w') (h : ∀ w', Took n0 w w' → R (.returned v) w') : EXI n ds (bodyPostM Fence.wide 0 P fn R) .ret σ w := fun a ha => by
 show LeavesInM Fence.wide 0 P fn a.tmps R a.defers .returning w
 rw [ha.ds]
 exact QC0 ds w hm hd fun w' ht => ⟨v, hr w' ht ⟨a.tmps, []⟩ ha.env, h w' ht⟩
end
/-! ### An append to a slice that is full, and only read -/
section
variable {P : Program} {w : World}
theorem QKE {t e : TypeId} {size bytes base B B' m k ty : Nat} {A : Option Addr} (E : Elem P t e size bytes) {src : Value} {xs news : List Value} (hold : Rd w B' size (.slice A k k) k xs) (hr : Rd w B size src m news) (hm0 : 0 < m) (hm : k + m ≤ 1048576) (hby : bytes ≤ 1048576) (hbase : base ≤ w.heap.size) :
  ∃ v' w', (Builtin.append_ #[t, t] ty #[.slice A k k, src]).run P w = .ok v' w' ∧ w'.ownsRow base e size v' (k + m) (xs ++ news) ∧ Below w.heap.size w w' ∧ v'.ownBlock = some w.heap.size := by
 obtain ⟨i, z, hi, hz, hsize, hb, hzs⟩ := E.hi;subst hsize;obtain ⟨hl, X, c, rfl, hnc, hr⟩ := hr;obtain ⟨b, off, rfl, _, hc⟩ := hr hm0;obtain ⟨hlo, A', c', h8, _, hrd⟩ := hold
 injection h8 with h8 _ _
 subst h8;have hkm : (k + m) * i.bytes ≤ 1048576 * i.bytes := Nat.mul_le_mul_right _ (by omega)
 have hmm : m * i.bytes ≤ 1048576 * i.bytes := Nat.mul_le_mul_right _ (by omega)
 have hlen : (xs ++ news).length = (k + m) * i.size := by rw [List.length_append, hlo, hl, Nat.add_mul]
 have hal : ∀ o, Below w.heap.size w (w.drew.alloc o) := fun o => ⟨rfl, rfl, rfl, by simp, fun j hj => by
  simp only [World.alloc, World.drew]
  rw [Array.getElem?_push_lt hj, Array.getElem?_eq_getElem hj]⟩
 have grown : ∀ old : Nat, (w.drew.alloc (.cells (xs.toArray ++ news.toArray ++ Builtin.zeroCells z.cells (grownCap w (k + m) old e - (k + m))) e)).ownsRow base e i.size (.slice (some ⟨w.heap.size, 0, none⟩) (k + m) (grownCap w (k + m) old e)) (k + m) (xs ++ news) := fun old => by
  have hge := grownCap_ge w (k + m) old e;have hcm : grownCap w (k + m) old e ≤ maxLen := grownCap_le_maxLen w (k + m) old e (by simp only [maxLen]; omega)
  refine ⟨hlen, .inr ⟨w.heap.size, _, _, rfl, hbase, heap_alloc_new w.drew _, hge, hcm, ?_, ?_⟩⟩
  ·simp only [Array.size_append, List.size_toArray, size_zeroCells, hzs, hlo, hl, ← Nat.add_mul]
   congr 1
   omega
  ·simp only [Array.toList_append, List.append_assoc]
   rw [← List.append_assoc, ← hlen]
   exact List.take_left
 rcases A with _ | ad
 ·have hk0 : k = 0 := by
   rcases Nat.eq_zero_or_pos k with h | h
   ·exact h
   ·obtain ⟨_, _, h9, _⟩ := hrd h; cases h9
  subst hk0;have hx : xs = [] := List.eq_nil_of_length_eq_zero (by simpa using hlo)
  subst hx;have h7 := run_append_nil (P := P) w t ty e i z E.ht hi hz ⟨b, off, none⟩ m c news hl (fun j u hu => by rw [Addr.add_lit]; exact hc j u hu) hm0 (by omega) (by omega)
  have hg := grown 0
  simp only [Nat.zero_add, List.nil_append, Array.empty_append] at hg ⊢
  exact ⟨_, _, h7, hg, hal _, rfl⟩
 ·have holds : ∀ j u, xs[j]? = some u → w.cell? (ad.add j) = some u := fun j u hu => by
   rcases Nat.eq_zero_or_pos k with h | h
   ·subst h
    have hx : xs = [] := List.eq_nil_of_length_eq_zero (by simpa using hlo)
    subst hx
    simp at hu
   ·obtain ⟨b', off', h9, _, h10⟩ := hrd h
    injection h9 with h9
    subst h9;rw [Addr.add_lit]
    exact h10 j u hu
  have h7 := run_append_grow (P := P) w t ty e i z E.ht hi hz ad k k xs hlo holds ⟨b, off, none⟩ m c news hl (fun j u hu => by rw [Addr.add_lit]; exact hc j u hu) (by omega) (by omega) (growslice_fits (by omega) (by omega))
  exact ⟨_, _, h7, grown k, hal _, rfl⟩
end
theorem QIX {w : World} {B size n c : Nat} {A : Option Addr} {xs : List Value} (h : Rd w B size (.slice A n c) n xs) : Rd w B size (.slice A n n) n xs := by
 obtain ⟨hl, A', c', h8, _, hrd⟩ := h
 injection h8 with h8 _ _
 subst h8
 exact ⟨hl, A, n, rfl, Nat.le_refl _, hrd⟩
section
variable {P : Program} {n : Nat} {σ : Sg} {L : List Oper} {cls : List (List Nat)} {alc : List Nat} {val : Nat → Value} {a : Act} {w1 : World} {i : Nat} {Q : Exit → Act → World → Prop}
theorem QIr {Φ : Nat → (Nat → Value) → World → Prop} {d ty t e size bytes base B B' mm k : Nat} {s x : Operand} {pos : String} {af : Array Edge} {A : Option Addr} (E : Elem P t e size bytes) {src : Value} {xs news : List Value} (ha : Env n σ a) (ho : nthO L i = some ⟨some d, .call { callee := .builtin .append, args := #[s, x], argTypes := #[t, t] }, ty, pos, af, none⟩) (hs : evS σ s = some (.slice A k k)) (hx : evS σ x = some src)
  (hold : Rd w1 B' size (.slice A k k) k xs) (hr : Rd w1 B size src mm news) (hm0 : 0 < mm) (hm : k + mm ≤ 1048576) (hby : Nat.ble bytes 1048576 = true) (hbase : base ≤ w1.heap.size) (halc : memB alc i = false)
  (hΦ : ∀ v' w', w'.ownsRow base e size v' (k + mm) (xs ++ news) → v'.ownBlock = some w1.heap.size → Φ i (res (upd val i v') i (clsAt cls i)) w') : wpOp P L.toArray Q i (HK L cls alc Φ i val a w1) a w1 := by
 obtain ⟨v', w', h2, h3, h4, h5⟩ := QKE (P := P) (ty := ty) (base := base) E hold hr hm0 hm (by simpa [Nat.ble_eq] using hby) hbase
 exact QH2 ho rfl (Z6 rfl (ha.eval hs) (ha.eval hx) h2) h4 (hΦ v' w' h3 h5) fun h => by rw [ZA.2 h] at halc; cases halc
end
/-- a run that ends as code does -/
theorem EXI.of {n : Nat} {Q : Exit → Act → World → Prop} {e : Exit} {σ : Sg} {w : World} (h : EX n Q e σ w) : EXI n [] Q e σ w := fun a ha => h a ha.e
theorem YU {k e size n : Nat} {xs : List Value} {base : Nat} {f : Option Addr → Nat → Value} {N : Nat} : Mono fun r w => ∃ A c, r k = f A c ∧ w.ownsRow base e size (.slice A N c) n xs := fun _ _ _ hb ⟨A, c, h1, h2⟩ => ⟨A, c, h1, ZE h2 hb (Nat.le_refl _)⟩
theorem QG3 {k e size n : Nat} {xs : List Value} {base : Nat} {f : Option Addr → Nat → Value} {N : Nat} : QDr fun _ r w => ∃ A c, r k = f A c ∧ w.ownsRow base e size (.slice A N c) n xs := fun _ _ _ _ hb ⟨A, c, h1, h2⟩ => ⟨A, c, h1, ZE h2 hb (Nat.le_refl _)⟩
section
variable {P : Program} {n : Nat} {σ : Sg} {w : World} {dst : Option Tmp} {ty t t' : TypeId} {pos : String} {af : Array Edge} {g : Option (Nat × Bool)} {x y : Operand}
end
section
variable {ro : Option Nat} {k : Nat} {P : Program} {n : Nat} {ds : List Deferred} {σ τ : Sg} {w : World} {Q : Exit → Act → World → Prop} {L : List Oper} {rest : List Oper}
theorem ECI.loopD {c : Code} {ι : Type} (dl : List Nat) (vs : ι → List (Nat × Value)) (D : ι → List Deferred) (I : ι → World → Prop) (μ : ι → Nat) (i0 : ι) (h0 : I i0 w) (hs : QCd σ (vs i0)) (hd : ds = D i0)
  (round : ∀ i w, I i w → ECI ro k P n (D i) c (Exit.then (fun a' w' => ∃ i', EnvG n (D i') (insL (del σ dl) (vs i')) a' ∧ I i' w' ∧ μ i' < μ i) Q) (insL (del σ dl) (vs i)) w) : ECI ro k P n ds (.loop c) Q σ w := by
 intro a ha;subst hd;refine wpIn_loop_ghost (fun m a w => ∃ i, EnvG n (D i) (insL (del σ dl) (vs i)) a ∧ I i w ∧ μ i = m) (μ i0) ⟨i0, ha.sub (QBH ((Sub.refl σ).del dl) hs), h0, rfl⟩ fun m a w hI => ?_
 obtain ⟨i, h1, h2, rfl⟩ := hI;refine wpIn_mono (round i w h2 a h1) fun e a' w' hq => ?_
 cases e with
 | normal =>
  obtain ⟨i', h4, h5, h6⟩ := hq
  exact ⟨μ i', h6, i', h4, h5, rfl⟩
 | _ => exact hq
theorem EXI.roundD {ι : Type} {σ0 : Sg} {dl : List Nat} {vs : ι → List (Nat × Value)} {D : ι → List Deferred} {I : ι → World → Prop} {μ : ι → Nat} {i : ι} (i' : ι) (hv : QCd σ (vs i')) (hs : Sub (del σ0 dl) σ) (hd : ds = D i') (hI : I i' w) (hm : μ i' < μ i) : EXI n ds (Exit.then (fun a' w' => ∃ i', EnvG n (D i') (insL (del σ0 dl) (vs i')) a' ∧ I i' w' ∧ μ i' < μ i) Q) .normal σ w :=
 fun _ ha => ⟨i', by subst hd; exact ha.sub (QBH hs hv), hI, hm⟩
end
/-! ### Appends and copies of any length that fits an address space -/
section
variable {P : Program} {w : World}
variable {n : Nat} {σ : Sg} {L : List Oper} {Q : Exit → Act → World → Prop} {rest : List Oper}
end
end Go.Proofs.Ytlbfnimilcnihaa
