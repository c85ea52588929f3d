/- River: what flows from land, by the program. -/
import Derived.Test.YtfgfenmaommclaaV6
import Derived.Test.YtfgfenmaommclaaPush2
import Derived.Test.YtfgfenmaommclaaV4
namespace Go.Proofs.Ytfgfenmaommclaa
open Go.RowKit

def skyC (h : Sky) : List Value := [.int .i64 h.rain.lo, .int .i64 h.rain.hi, .int .i64 h.heat.lo, .int .i64 h.heat.hi]
def skysC (l : List Sky) : List Value := l.flatMap skyC
theorem skyC_len (b : Sky) : (skyC b).length = 4 := rfl
theorem skysC_len (l : List Sky) : (skysC l).length = l.length * 4 := flat_len skyC_len l
theorem skysC_one (l : List Sky) : ∀ u ∈ skysC l, u.oneCell' = true := flat_one (by intro x u hu; simp [skyC] at hu; rcases hu with rfl | rfl | rfl | rfl <;> rfl) l
structure SkyAt (w : World) (b o : Nat) (h : Sky) : Prop where
  c0 : w.cell? ⟨b, o, none⟩ = some (.int .i64 h.rain.lo)
  c1 : w.cell? ⟨b, o + 1, none⟩ = some (.int .i64 h.rain.hi)
  c2 : w.cell? ⟨b, o + 2, none⟩ = some (.int .i64 h.heat.lo)
  c3 : w.cell? ⟨b, o + 3, none⟩ = some (.int .i64 h.heat.hi)
theorem skys_cells (l : List Sky) (k : Nat) (hk : k < l.length) (w : World) (B : Nat) (A : Option Addr) (n c : Nat) (hr : Rd w B 4 (.slice A n c) n (skysC l)) :
    ∃ b off, A = some ⟨b, off, none⟩ ∧ b < B ∧ SkyAt w b (off + k * 4) (l.getD k sky0) := by
  have hl : n * 4 = l.length * 4 := by rw [← hr.len, skysC_len]
  obtain ⟨b, off, rfl, hb, hc⟩ := hr.at_ (by omega)
  have e : l.getD k sky0 = l[k] := by simp [hk]
  rw [e]
  have g := fun j hj => flat_get skyC_len l k hk j hj
  exact ⟨b, off, rfl, hb, hc (k * 4) _ (g 0 (by omega)), hc (k * 4 + 1) _ (g 1 (by omega)), hc (k * 4 + 2) _ (g 2 (by omega)), hc (k * 4 + 3) _ (g 3 (by omega))⟩
def landV (c : Land) : Array Value := #[.int .i64 c.area, .int .i64 c.percent, .int .i64 c.melt, .int .i64 c.snow.lo, .int .i64 c.snow.hi]
theorem bds_info : (Try.prog.info? 25).map (fun i => (i.zero, i.size, i.bytes)) = some (some (.agg #[.int .i64 0, .int .i64 0]), 2, 16) := by kernel_rfl
theorem bds_elem : Elem Try.prog 101 25 2 16 := Elem.mk' Try.underlying101 bds_info rfl (by omega)
theorem landB_form (c : Land) : landOk c = (inB 0 10000 c.area && (inB 0 100 c.percent && (inB 0 100 c.melt && bdOk 0 1000000 c.snow))) := rfl
/-- what is left behind so many hours -/
def leftL (c : Land) (sky : List Sky) (k : Nat) : Int := leftOf c.melt c.snow.lo ((sky.take k).map fun h => h.heat.hi)
def leftH (c : Land) (sky : List Sky) (k : Nat) : Int := leftOf c.melt c.snow.hi ((sky.take k).map fun h => h.heat.lo)
theorem leftL_succ (c : Land) (sky : List Sky) {k : Nat} (hk : k < sky.length) : leftL c sky (k + 1) = max 0 (leftL c sky k - warmth c.melt (sky.getD k sky0).heat.hi) := by
  unfold leftL
  rw [List.take_succ_eq_append_getElem hk, List.map_append, List.map_singleton, left_snoc]
  simp [hk]
theorem leftH_succ (c : Land) (sky : List Sky) {k : Nat} (hk : k < sky.length) : leftH c sky (k + 1) = max 0 (leftH c sky k - warmth c.melt (sky.getD k sky0).heat.lo) := by
  unfold leftH
  rw [List.take_succ_eq_append_getElem hk, List.map_append, List.map_singleton, left_snoc]
  simp [hk]
structure LandOk (c : Land) : Prop where
  area : 0 ≤ c.area ∧ c.area ≤ 10000
  percent : 0 ≤ c.percent ∧ c.percent ≤ 100
  melt : 0 ≤ c.melt ∧ c.melt ≤ 100
  snow : 0 ≤ c.snow.lo ∧ c.snow.lo ≤ c.snow.hi ∧ c.snow.hi ≤ 1000000
theorem landOk_iff {c : Land} (h : landOk c = true) : LandOk c := by
  simp only [landOk, Bool.and_eq_true, inB_iff, bdOk_iff] at h
  exact ⟨h.1, h.2.1, h.2.2.1, h.2.2.2⟩
theorem left_bd {c : Land} (h : LandOk c) (sky : List Sky) (k : Nat) : (0 ≤ leftL c sky k ∧ leftL c sky k ≤ 1000000) ∧ 0 ≤ leftH c sky k ∧ leftH c sky k ≤ 1000000 := by
  have h1 := h.snow
  have a := left_nonneg (rate := c.melt) ((sky.take k).map fun h => h.heat.hi) c.snow.lo (by omega)
  have b := left_nonneg (rate := c.melt) ((sky.take k).map fun h => h.heat.lo) c.snow.hi (by omega)
  have d := left_le h.melt.1 ((sky.take k).map fun h => h.heat.hi) c.snow.lo (by omega)
  have e := left_le h.melt.1 ((sky.take k).map fun h => h.heat.lo) c.snow.hi (by omega)
  unfold leftL leftH
  omega
theorem parts_bd {c : Land} (h : LandOk c) : 0 ≤ c.area * c.percent ∧ c.area * c.percent ≤ 1000000 := by
  have a := Int.mul_nonneg h.area.1 h.percent.1
  have b := Int.mul_le_mul h.area.2 h.percent.2 h.percent.1 (by omega)
  omega
theorem mul_bd {a b m k : Int} (ha : 0 ≤ a ∧ a ≤ m) (hb : 0 ≤ b ∧ b ≤ k) (hm : 0 ≤ m := by omega) : 0 ≤ a * b ∧ a * b ≤ m * k := by
  exact ⟨Int.mul_nonneg ha.1 hb.1, Int.mul_le_mul ha.2 hb.2 hb.1 hm⟩
theorem flowAt_form (c : Land) (sky : List Sky) (i : Nat) : flowAt c sky i = ⟨floorD (((sky.getD i sky0).rain.lo + min (leftL c sky i) (warmth c.melt (sky.getD i sky0).heat.lo)) * (c.area * c.percent)) 10, ceilD (((sky.getD i sky0).rain.hi + min (leftH c sky i) (warmth c.melt (sky.getD i sky0).heat.hi)) * (c.area * c.percent)) 10⟩ := rfl
theorem below_one {W a : World} (h : Below W.drew.heap.size W.drew a) : Below W.heap.size W a := (Below.refl _ W).drew.trans h
theorem below_two {W a b : World} (h : Below W.drew.heap.size W.drew a) (k : Below a.heap.size a b) : Below W.heap.size W b := (below_one h).trans (k.mono h.size)
theorem keep_push {W a w6 : World} {o : Obj} {v u : Value} {b i : Nat} (hb : b < W.heap.size) (hc : W.cell? ⟨b, i, none⟩ = some u) (hB : Below W.heap.size W a) (hg : (a.alloc o).grownBy w6 v.ownBlock) (hne : v.ownBlock ≠ some b) : w6.cell? ⟨b, i, none⟩ = some u :=
  far_cell hg ((World.cell?_alloc_lt a o ⟨b, i, none⟩ (Nat.lt_of_lt_of_le hb hB.size)).trans (keepc hb hc hB)) hne
/-- what Runoff leaves -/
def RunPost (w : World) (c : Land) (sky : List Sky) (e : Ending) (w' : World) : Prop :=
  (∃ v, e = .returned (.tuple #[v, .int .i64 (catchErr c sky)]) ∧ (catchErr c sky ≠ 0 → v = .slice none 0 0) ∧ (catchErr c sky = 0 → w'.ownsRow w.heap.size 25 2 v sky.length (bdsC (flowsTo c sky sky.length)))) ∧ Below w.heap.size w w'
theorem RunPost.bad {w w' : World} {c : Land} {sky : List Sky} {y : Int} (h : catchErr c sky = y) (hy : y ≠ 0) (hb : Below w.heap.size w w') : RunPost w c sky (.returned (.tuple #[.slice none 0 0, .int .i64 y])) w' :=
  ⟨⟨_, by rw [h], fun _ => rfl, fun h0 => absurd (h.symm.trans h0) hy⟩, hb⟩

end Go.Proofs.Ytfgfenmaommclaa
