/- X30, ExX31, X31, WsVer, ExX32, ExX33, X33, X34, ExX35, X35, X32, ExX36: what WashFleetsProof needs of them (merged by trimpack.py). -/
import Derived.Test.YtdkedhcbdbpccaaFleetsT5
set_option linter.unusedVariables false
set_option linter.unusedSimpArgs false
namespace Go.Proofs.Ytdkedhcbdbpccaa
open Go Go.RowKit
/-- what the search does with the rest of the cargoes -/
def TrySpec (ru : Rules) (js rem : List Nat) : Prop := ∀ {ua up : List Value} {vl va vp vk : Value} {w : World} {B : Nat} (hr : RdRules w B vl va vp vk ru ua up) {vj : Value} (hv : Rd w B 1 vj js.length (ints (jsI js))) {gb : Nat} (hBg : B ≤ gb) (hBw : B ≤ w.heap.size) {us : List Tk} {vt : Value} (hT : OwnTs w ru.levels.length vt us) (hl3 : us.length ≤ 3) {m : Nat} (hok : ∀ x ∈ us, RtOk ru.levels.length m x.1) {p : Pl} (hpl : p.steps.length ≤ js.length) (hrem : rem = js.drop p.steps.length) (hm : m + 2 * (js.length - p.steps.length) ≤ 1000) (hp : PlOk p p.steps.length) {As : Option Addr} {cs : Nat} (hS : stsAt w p.steps As cs) {b : Option Pl × Nat} (hb : BestM w gb b),
 Calls Try.prog 59 #[rulesV vl va vp vk ru, vt, vj, .agg #[.bool false, .slice As p.steps.length cs, .int .i64 p.washes, .int .i64 p.cost, .int .i64 0], .pointer (some ⟨gb, 0, none⟩)] w fun e w' => e = .returned (.tuple #[]) ∧ w.grownBy w' (some gb) ∧ BestM w' gb (tryR (extY (yardR ru us.length)) rem (us.map (·.1), p) b)
theorem gw_refl (w : World) (g : Nat) : w.grownBy w (some g) := ⟨rfl, rfl, rfl, Nat.le_refl _, fun _ _ _ => rfl⟩
theorem slice_fr {g C : Nat} (h : C ≤ g) : ∀ b, (Value.slice (some ⟨g, 0, none⟩) 0 0).ownBlock = some b → C ≤ b := fun b hb => by
 have e : g = b := by simpa [Value.ownBlock] using hb
 omega
theorem fr_push {v v' : Value} {w : World} {C : Nat} (h : ∀ b, v.ownBlock = some b → C ≤ b) (hat : v'.ownBlock = v.ownBlock ∨ v'.ownBlock = some w.heap.size) (hC : C ≤ w.heap.size) : ∀ b, v'.ownBlock = some b → C ≤ b := fun b hb => by
 rcases hat with h1 | h1
 ·exact h b (h1 ▸ hb)
 ·rw [h1] at hb; injection hb with hb; omega
theorem ne_push {v' : Value} {w : World} {g g0 T : Nat} {cs : Array Value} (hn : g ≠ g0) (hq : Blk w g T cs) (hat : v'.ownBlock = (Value.slice (some ⟨g0, 0, none⟩) 0 0).ownBlock ∨ v'.ownBlock = some w.heap.size) : ∀ b, v'.ownBlock = some b → g ≠ b := fun b hb e => by
 subst e
 rcases hat with h1 | h1
 ·rw [hb] at h1; exact hn (by simpa [Value.ownBlock] using h1)
 ·rw [hb] at h1; injection h1 with h1; have := hq.lt; omega
theorem own_slice_v {w : World} {base e size m : Nat} {v : Value} {xs : List Value} (h : w.ownsRow base e size v m xs) (hm : 0 < m) : ∃ g c, v = .slice (some ⟨g, 0, none⟩) m c := by
 obtain ⟨A, c, rfl, _⟩ := (Rd.of_own h).shape;obtain ⟨g, rfl⟩ := own_slice h hm
 exact ⟨g, c, rfl⟩
theorem own_set {w : World} {n i : Nat} {v v2 : Value} {l : List Tk} {x : Tk} (h : OwnTs w n v2 l) (ho : w.ownsRow 0 62 2 v (l.set i x).length (rksC n (l.set i x))) (h1 : w.ownsRow 0 24 2 (.slice x.2.1.1 n x.2.1.2) n (bdsC x.1.res)) (h2 : w.ownsRow 0 3 1 (.slice x.2.2.1 n x.2.2.2) n (ints x.1.aft)) : OwnTs w n v (l.set i x) := by
 refine ⟨ho, fun y hy => ?_, fun y hy => ?_⟩
 ·rcases List.mem_or_eq_of_mem_set hy with hy | rfl
  ·exact h.res y hy
  ·exact h1
 ·rcases List.mem_or_eq_of_mem_set hy with hy | rfl
  ·exact h.aft y hy
  ·exact h2
theorem ok_set {n m i : Nat} {l : List Tk} {x : Tk} (h : ∀ x ∈ l, RtOk n m x.1) (hx : RtOk n m x.1) : ∀ y ∈ l.set i x, RtOk n m y.1 := fun y hy => by
 rcases List.mem_or_eq_of_mem_set hy with hy | rfl
 ·exact h y hy
 ·exact hx
theorem addS_len {p : Pl} {s : St} {n c : Int} : (addS p s n c).steps.length = p.steps.length + 1 := by unfold addS; rw [List.length_append]; rfl
set_option maxHeartbeats 8000000 in
theorem try_step {ru : Rules} (hro : RulesOk ru) {js : List Nat} (hjs : ∀ i, i < js.length → js.getD i 0 < ru.levels.length) (hj10 : js.length ≤ 10) {rem0 : List Nat} (IH0 : ∀ c rem, rem0 = c :: rem → TrySpec ru js rem) : TrySpec ru js rem0 := by
 intro ua up vl va vp vk w B hr vj hv gb hBg hBw us vt hT hl3 m hok p hpl hrem hm hp As cs hS b hb;subst hrem;have IH := IH0;clear IH0;obtain ⟨Al, cl, Aa, ca, Ap, cp, Ak, ck, rfl, rfl, rfl, rfl⟩ := hr.sh4;obtain ⟨Aj, cj, rfl, _⟩ := hv.shape;obtain ⟨At, ct, rfl, _⟩ := (Rd.of_own hT.own).shape;obtain ⟨A, c, qb, hbs⟩ := hb
 unfold bestC at qb
 have qb0 := qb;have hn8 := hro.n8;have hk4 := hro.k4;have hgw : w.grownBy w (some gb) := gw_refl w gb
 unfold rulesV
 refine EC.enter 156 Try.func59 rfl rfl rfl (EC.seq (EC.region (EL.newP (bx_28 rfl) rfl ?_)));intro g1 w1 q1 hb1 hg1 hl1;have n0_1 := qb.na hg1;have bw1 : w.heap.size ≤ g1 := Nat.le_trans hgw.size hg1;replace qb := qb.bl hb1;replace hgw := gw_below hgw hb1;clear hb1 hg1 hl1;refine EL.newP (bx_67 rfl) rfl ?_;intro g2 w2 q2 hb2 hg2 hl2;have n0_2 := qb.na hg2;have n1_2 := q1.na hg2;have bw2 : w.heap.size ≤ g2 := Nat.le_trans hgw.size hg2;replace qb := qb.bl hb2;replace q1 := q1.bl hb2;replace hgw := gw_below hgw hb2;clear hb2 hg2 hl2;refine EL.nil (EX.seq (EC.seq ?_));refine EC.cutD [18, 19, 20, 21, 22, 23, 24, 25, 26, 27, 28, 29, 30, 31, 32, 33, 34, 35, 36, 37, 38, 39, 40, 41, 42, 43, 44, 45, 46, 47, 48] (fun x : Bool => [(48, .bool x)]) (fun x W => x = worse b.1 p ∧ Blk W gb 67 #[.bool b.1.isSome, .slice A (bp b).steps.length c, .int .i64 (bp b).washes, .int .i64 (bp b).cost, .int .i64 (b.2 : Nat)] ∧ Blk W g1 28 #[.slice Al ru.levels.length cl, .int .i64 ru.fade.lo, .int .i64 ru.fade.hi, .slice Aa ru.allow.length ca, .slice Ap ru.apart.length cp, .slice Ak ru.kinds.length ck] ∧ Blk W g2 67 #[.bool false, .slice As p.steps.length cs, .int .i64 p.washes, .int .i64 p.cost, .int .i64 0] ∧ w.grownBy W (some gb)) ?_ ?_
 ·
  obtain ⟨bo, hbo⟩ : ∃ z, z = b.1 := ⟨_, rfl⟩
  cases bo
  ·
   have hsm : b.1.isSome = false := by rw [← hbo]; rfl
   have qx := qb;rw [hsm] at qx;refine EC.regionQ (by kernel_rfl) (by kernel_rfl) ?_
   refine EQ.mv rfl rfl ?_;refine EQ.val (fun _ hw => (x_nilCheck rfl)) rfl ?_
   refine EQ.val (fun _ hw => (fa_67_0 rfl)) rfl ?_
   refine EQ.val (fun _ hw => (ld_4 rfl (below_load hw (qx.at (j := 0) rfl)))) rfl ?_
   refine EQ.mv rfl rfl (EQ.skip rfl rfl rfl rfl (EQ.skip rfl rfl rfl rfl (EQ.skip rfl rfl rfl rfl (EQ.skip rfl rfl rfl rfl (EQ.skip rfl rfl rfl rfl (EQ.skip rfl rfl rfl rfl (EQ.skip rfl rfl rfl rfl (EQ.skip rfl rfl rfl rfl (EQ.skip rfl rfl rfl rfl ?_)))))))));refine EQ.skip rfl rfl rfl rfl (EQ.skip rfl rfl rfl rfl (EQ.skip rfl rfl rfl rfl (EQ.skip rfl rfl rfl rfl (EQ.skip rfl rfl rfl rfl (EQ.skip rfl rfl rfl rfl (EQ.skip rfl rfl rfl rfl (EQ.skip rfl rfl rfl rfl (EQ.skip rfl rfl rfl rfl (EQ.skip rfl rfl rfl rfl ?_)))))))));refine EQ.skip rfl rfl rfl rfl (EQ.skip rfl rfl rfl rfl (EQ.skip rfl rfl rfl rfl (EQ.skip rfl rfl rfl rfl (EQ.skip rfl rfl rfl rfl (EQ.skip rfl rfl rfl rfl ?_)))));refine EQ.val (fun _ hw => (x_pick_f rfl rfl)) rfl ?_
   refine EQ.fin (fun w3 hw_ => ?_)
   replace qx := qx.bl hw_;replace q1 := q1.bl hw_;replace q2 := q2.bl hw_;replace hgw := gw_below hgw hw_;replace qb := qb.bl hw_;clear hw_
   exact EX.cutE false ⟨rfl, trivial⟩ (by repeat first | with_reducible exact (Sub.refl _).del _ | refine sp_ rfl ?_ | exact (Sub.refl _).del _ | refine sd_ rfl ?_ | refine sn_ ?_) ⟨by rw [← hbo]; rfl, qb, q1, q2, hgw⟩
  ·
   rename_i q
   have hsm : b.1.isSome = true := by rw [← hbo]; rfl
   have hbp : bp b = q := by unfold bp; rw [← hbo]; rfl
   have qx := qb;rw [hsm, hbp] at qx
   by_cases h1 : q.washes < p.washes
   ·
    refine EC.regionQ (by kernel_rfl) (by kernel_rfl) ?_
    refine EQ.mv rfl rfl ?_;refine EQ.val (fun _ hw => (x_nilCheck rfl)) rfl ?_
    refine EQ.val (fun _ hw => (fa_67_0 rfl)) rfl ?_
    refine EQ.val (fun _ hw => (ld_4 rfl (below_load hw (qx.at (j := 0) rfl)))) rfl ?_
    refine EQ.mv rfl rfl ?_;refine EQ.valg rfl rfl (fun _ hw => (fa_67_2 rfl)) rfl ?_
    refine EQ.valg rfl rfl (fun _ hw => (ld_3 rfl (below_load hw (q2.at (j := 2) rfl)))) rfl ?_
    refine EQ.mg rfl rfl rfl rfl ?_;refine EQ.valg rfl rfl (fun _ hw => (x_nilCheck rfl)) rfl ?_
    refine EQ.valg rfl rfl (fun _ hw => (fa_67_2 rfl)) rfl ?_
    refine EQ.valg rfl rfl (fun _ hw => (ld_3 rfl (below_load hw (qx.at (j := 2) rfl)))) rfl ?_
    refine EQ.valg rfl rfl (fun _ hw => (x_gtr (r := true) rfl rfl (decide_eq_true (by omega)))) rfl ?_
    refine EQ.mg rfl rfl rfl rfl (EQ.skip rfl rfl rfl rfl (EQ.skip rfl rfl rfl rfl (EQ.skip rfl rfl rfl rfl (EQ.skip rfl rfl rfl rfl (EQ.skip rfl rfl rfl rfl (EQ.skip rfl rfl rfl rfl (EQ.skip rfl rfl rfl rfl (EQ.skip rfl rfl rfl rfl (EQ.skip rfl rfl rfl rfl ?_)))))))));refine EQ.skip rfl rfl rfl rfl (EQ.skip rfl rfl rfl rfl (EQ.skip rfl rfl rfl rfl (EQ.skip rfl rfl rfl rfl (EQ.skip rfl rfl rfl rfl (EQ.skip rfl rfl rfl rfl (EQ.skip rfl rfl rfl rfl ?_))))));refine EQ.valg rfl rfl (fun _ hw => (x_pick_t rfl rfl)) rfl ?_
    refine EQ.val (fun _ hw => (x_pick_t rfl rfl)) rfl ?_
    refine EQ.fin (fun w4 hw_ => ?_)
    replace qx := qx.bl hw_;replace q1 := q1.bl hw_;replace q2 := q2.bl hw_;replace hgw := gw_below hgw hw_;replace qb := qb.bl hw_;clear hw_
    exact EX.cutE true ⟨rfl, trivial⟩ (by repeat first | with_reducible exact (Sub.refl _).del _ | refine sp_ rfl ?_ | exact (Sub.refl _).del _ | refine sd_ rfl ?_ | refine sn_ ?_) ⟨by rw [← hbo]; unfold worse; simp; omega, qb, q1, q2, hgw⟩
   ·
    by_cases h2 : p.washes = q.washes
    ·
     by_cases h3 : q.cost ≤ p.cost
     ·
      refine EC.regionQ (by kernel_rfl) (by kernel_rfl) ?_
      refine EQ.mv rfl rfl ?_;refine EQ.val (fun _ hw => (x_nilCheck rfl)) rfl ?_
      refine EQ.val (fun _ hw => (fa_67_0 rfl)) rfl ?_
      refine EQ.val (fun _ hw => (ld_4 rfl (below_load hw (qx.at (j := 0) rfl)))) rfl ?_
      refine EQ.mv rfl rfl ?_;refine EQ.valg rfl rfl (fun _ hw => (fa_67_2 rfl)) rfl ?_
      refine EQ.valg rfl rfl (fun _ hw => (ld_3 rfl (below_load hw (q2.at (j := 2) rfl)))) rfl ?_
      refine EQ.mg rfl rfl rfl rfl ?_;refine EQ.valg rfl rfl (fun _ hw => (x_nilCheck rfl)) rfl ?_
      refine EQ.valg rfl rfl (fun _ hw => (fa_67_2 rfl)) rfl ?_
      refine EQ.valg rfl rfl (fun _ hw => (ld_3 rfl (below_load hw (qx.at (j := 2) rfl)))) rfl ?_
      refine EQ.valg rfl rfl (fun _ hw => (x_gtr (r := false) rfl rfl (decide_eq_false (by omega)))) rfl ?_
      refine EQ.mg rfl rfl rfl rfl ?_;refine EQ.valg rfl rfl (fun _ hw => (fa_67_2 rfl)) rfl ?_
      refine EQ.valg rfl rfl (fun _ hw => (ld_3 rfl (below_load hw (q2.at (j := 2) rfl)))) rfl ?_
      refine EQ.mg rfl rfl rfl rfl ?_;refine EQ.valg rfl rfl (fun _ hw => (x_nilCheck rfl)) rfl ?_
      refine EQ.valg rfl rfl (fun _ hw => (fa_67_2 rfl)) rfl ?_
      refine EQ.valg rfl rfl (fun _ hw => (ld_3 rfl (below_load hw (qx.at (j := 2) rfl)))) rfl ?_
      refine EQ.valg rfl rfl (fun _ hw => (x_eql (r := true) rfl rfl (decide_eq_true (by omega)))) rfl ?_
      refine EQ.mg rfl rfl rfl rfl ?_;refine EQ.valg rfl rfl (fun _ hw => (fa_67_3 rfl)) rfl ?_
      refine EQ.valg rfl rfl (fun _ hw => (ld_3 rfl (below_load hw (q2.at (j := 3) rfl)))) rfl ?_
      refine EQ.mg rfl rfl rfl rfl ?_;refine EQ.valg rfl rfl (fun _ hw => (x_nilCheck rfl)) rfl ?_
      refine EQ.valg rfl rfl (fun _ hw => (fa_67_3 rfl)) rfl ?_
      refine EQ.valg rfl rfl (fun _ hw => (ld_3 rfl (below_load hw (qx.at (j := 3) rfl)))) rfl ?_
      refine EQ.valg rfl rfl (fun _ hw => (x_geq (r := true) rfl rfl (decide_eq_true (by omega)))) rfl ?_
      refine EQ.valg rfl rfl (fun _ hw => (x_pick_t rfl rfl)) rfl ?_
      refine EQ.valg rfl rfl (fun _ hw => (x_pick_f rfl rfl)) rfl ?_
      refine EQ.val (fun _ hw => (x_pick_t rfl rfl)) rfl ?_
      refine EQ.fin (fun w5 hw_ => ?_)
      replace qx := qx.bl hw_;replace q1 := q1.bl hw_;replace q2 := q2.bl hw_;replace hgw := gw_below hgw hw_;replace qb := qb.bl hw_;clear hw_
      exact EX.cutE true ⟨rfl, trivial⟩ (by repeat first | with_reducible exact (Sub.refl _).del _ | refine sp_ rfl ?_ | exact (Sub.refl _).del _ | refine sd_ rfl ?_ | refine sn_ ?_) ⟨by rw [← hbo]; unfold worse; simp; omega, qb, q1, q2, hgw⟩
     ·
      refine EC.regionQ (by kernel_rfl) (by kernel_rfl) ?_
      refine EQ.mv rfl rfl ?_;refine EQ.val (fun _ hw => (x_nilCheck rfl)) rfl ?_
      refine EQ.val (fun _ hw => (fa_67_0 rfl)) rfl ?_
      refine EQ.val (fun _ hw => (ld_4 rfl (below_load hw (qx.at (j := 0) rfl)))) rfl ?_
      refine EQ.mv rfl rfl ?_;refine EQ.valg rfl rfl (fun _ hw => (fa_67_2 rfl)) rfl ?_
      refine EQ.valg rfl rfl (fun _ hw => (ld_3 rfl (below_load hw (q2.at (j := 2) rfl)))) rfl ?_
      refine EQ.mg rfl rfl rfl rfl ?_;refine EQ.valg rfl rfl (fun _ hw => (x_nilCheck rfl)) rfl ?_
      refine EQ.valg rfl rfl (fun _ hw => (fa_67_2 rfl)) rfl ?_
      refine EQ.valg rfl rfl (fun _ hw => (ld_3 rfl (below_load hw (qx.at (j := 2) rfl)))) rfl ?_
      refine EQ.valg rfl rfl (fun _ hw => (x_gtr (r := false) rfl rfl (decide_eq_false (by omega)))) rfl ?_
      refine EQ.mg rfl rfl rfl rfl ?_;refine EQ.valg rfl rfl (fun _ hw => (fa_67_2 rfl)) rfl ?_
      refine EQ.valg rfl rfl (fun _ hw => (ld_3 rfl (below_load hw (q2.at (j := 2) rfl)))) rfl ?_
      refine EQ.mg rfl rfl rfl rfl ?_;refine EQ.valg rfl rfl (fun _ hw => (x_nilCheck rfl)) rfl ?_
      refine EQ.valg rfl rfl (fun _ hw => (fa_67_2 rfl)) rfl ?_
      refine EQ.valg rfl rfl (fun _ hw => (ld_3 rfl (below_load hw (qx.at (j := 2) rfl)))) rfl ?_
      refine EQ.valg rfl rfl (fun _ hw => (x_eql (r := true) rfl rfl (decide_eq_true (by omega)))) rfl ?_
      refine EQ.mg rfl rfl rfl rfl ?_;refine EQ.valg rfl rfl (fun _ hw => (fa_67_3 rfl)) rfl ?_
      refine EQ.valg rfl rfl (fun _ hw => (ld_3 rfl (below_load hw (q2.at (j := 3) rfl)))) rfl ?_
      refine EQ.mg rfl rfl rfl rfl ?_;refine EQ.valg rfl rfl (fun _ hw => (x_nilCheck rfl)) rfl ?_
      refine EQ.valg rfl rfl (fun _ hw => (fa_67_3 rfl)) rfl ?_
      refine EQ.valg rfl rfl (fun _ hw => (ld_3 rfl (below_load hw (qx.at (j := 3) rfl)))) rfl ?_
      refine EQ.valg rfl rfl (fun _ hw => (x_geq (r := false) rfl rfl (decide_eq_false (by omega)))) rfl ?_
      refine EQ.valg rfl rfl (fun _ hw => (x_pick_t rfl rfl)) rfl ?_
      refine EQ.valg rfl rfl (fun _ hw => (x_pick_f rfl rfl)) rfl ?_
      refine EQ.val (fun _ hw => (x_pick_t rfl rfl)) rfl ?_
      refine EQ.fin (fun w6 hw_ => ?_)
      replace qx := qx.bl hw_;replace q1 := q1.bl hw_;replace q2 := q2.bl hw_;replace hgw := gw_below hgw hw_;replace qb := qb.bl hw_;clear hw_
      exact EX.cutE false ⟨rfl, trivial⟩ (by repeat first | with_reducible exact (Sub.refl _).del _ | refine sp_ rfl ?_ | exact (Sub.refl _).del _ | refine sd_ rfl ?_ | refine sn_ ?_) ⟨by rw [← hbo]; unfold worse; simp; omega, qb, q1, q2, hgw⟩
    ·
     refine EC.regionQ (by kernel_rfl) (by kernel_rfl) ?_
     refine EQ.mv rfl rfl ?_;refine EQ.val (fun _ hw => (x_nilCheck rfl)) rfl ?_
     refine EQ.val (fun _ hw => (fa_67_0 rfl)) rfl ?_
     refine EQ.val (fun _ hw => (ld_4 rfl (below_load hw (qx.at (j := 0) rfl)))) rfl ?_
     refine EQ.mv rfl rfl ?_;refine EQ.valg rfl rfl (fun _ hw => (fa_67_2 rfl)) rfl ?_
     refine EQ.valg rfl rfl (fun _ hw => (ld_3 rfl (below_load hw (q2.at (j := 2) rfl)))) rfl ?_
     refine EQ.mg rfl rfl rfl rfl ?_;refine EQ.valg rfl rfl (fun _ hw => (x_nilCheck rfl)) rfl ?_
     refine EQ.valg rfl rfl (fun _ hw => (fa_67_2 rfl)) rfl ?_
     refine EQ.valg rfl rfl (fun _ hw => (ld_3 rfl (below_load hw (qx.at (j := 2) rfl)))) rfl ?_
     refine EQ.valg rfl rfl (fun _ hw => (x_gtr (r := false) rfl rfl (decide_eq_false (by omega)))) rfl ?_
     refine EQ.mg rfl rfl rfl rfl ?_;refine EQ.valg rfl rfl (fun _ hw => (fa_67_2 rfl)) rfl ?_
     refine EQ.valg rfl rfl (fun _ hw => (ld_3 rfl (below_load hw (q2.at (j := 2) rfl)))) rfl ?_
     refine EQ.mg rfl rfl rfl rfl ?_;refine EQ.valg rfl rfl (fun _ hw => (x_nilCheck rfl)) rfl ?_
     refine EQ.valg rfl rfl (fun _ hw => (fa_67_2 rfl)) rfl ?_
     refine EQ.valg rfl rfl (fun _ hw => (ld_3 rfl (below_load hw (qx.at (j := 2) rfl)))) rfl ?_
     refine EQ.valg rfl rfl (fun _ hw => (x_eql (r := false) rfl rfl (decide_eq_false (by omega)))) rfl ?_
     refine EQ.mg rfl rfl rfl rfl (EQ.skip rfl rfl rfl rfl (EQ.skip rfl rfl rfl rfl (EQ.skip rfl rfl rfl rfl (EQ.skip rfl rfl rfl rfl (EQ.skip rfl rfl rfl rfl (EQ.skip rfl rfl rfl rfl (EQ.skip rfl rfl rfl rfl ?_)))))));refine EQ.valg rfl rfl (fun _ hw => (x_pick_f rfl rfl)) rfl ?_
     refine EQ.valg rfl rfl (fun _ hw => (x_pick_f rfl rfl)) rfl ?_
     refine EQ.val (fun _ hw => (x_pick_t rfl rfl)) rfl ?_
     refine EQ.fin (fun w7 hw_ => ?_)
     replace qx := qx.bl hw_;replace q1 := q1.bl hw_;replace q2 := q2.bl hw_;replace hgw := gw_below hgw hw_;replace qb := qb.bl hw_;clear hw_
     exact EX.cutE false ⟨rfl, trivial⟩ (by repeat first | with_reducible exact (Sub.refl _).del _ | refine sp_ rfl ?_ | exact (Sub.refl _).del _ | refine sd_ rfl ?_ | refine sn_ ?_) ⟨by rw [← hbo]; unfold worse; simp; omega, qb, q1, q2, hgw⟩
 ·
  clear qb q1 q2 hgw
  rintro x W1 ⟨hx, qb, q1, q2, hgw⟩
  cases x
  ·
   have hwo : ¬worse b.1 p = true := by rw [← hx]; decide
   refine EC.no rfl (EC.skip (EX.seq (EC.seq (EC.region (EL.val (fa_67_1 rfl) rfl (EL.val (ld_65 rfl (q2.at (j := 1) rfl)) rfl (EL.val (ln_65 rfl) rfl (EL.as rfl rfl (EL.nil ?_)))))))));refine EX.seq (EC.seq (EC.region (EL.mv rfl rfl (EL.mv rfl rfl (EL.val (x_nilCheck rfl) rfl (EL.val (fa_67_4 rfl) rfl (EL.val (ld_3 rfl (qb.at (j := 4) rfl)) rfl (EL.mv rfl rfl ?_))))))));refine EL.val (mm_max rfl rfl (show max ((b.2 : Nat) : Int) ((p.steps.length : Nat) : Int) = ((max b.2 p.steps.length : Nat) : Int) by omega)) rfl ?_
   refine EL.val (x_nilCheck rfl) rfl (EL.val (fa_67_4 rfl) rfl (EL.store rfl rfl qb sz_3 rfl rfl rfl rfl ?_));intro w8 hq8 hg8;replace q1 := q1.gr hg8 n0_1.symm;replace q2 := q2.gr hg8 n0_2.symm;replace hgw := grown_two hgw hg8;replace qb := hq8;clear hg8 hq8;refine EL.nil (EX.seq (EC.seq (EC.seq (EC.region (EL.mv rfl rfl (EL.mv rfl rfl (EL.val (ln_22 rfl) rfl ?_)))))))
   by_cases hend : p.steps.length = js.length
   ·
    refine EL.val (x_eql (r := true) rfl rfl (decide_eq_true (by omega))) rfl ?_
    refine EL.nil (EX.seq (EC.yes rfl (EC.seq (EC.region (EL.mv rfl rfl (EL.val (fa_67_1 rfl) rfl (EL.val (ld_65 rfl (q2.at (j := 1) rfl)) rfl (EL.val (fa_67_2 rfl) rfl (EL.val (ld_3 rfl (q2.at (j := 2) rfl)) rfl ?_)))))))));refine EL.val (fa_67_3 rfl) rfl (EL.val (ld_3 rfl (q2.at (j := 3) rfl)) rfl (EL.mv rfl rfl (EL.val (bd_67_0_1_2_3_4 rfl rfl rfl rfl rfl) rfl (EL.val (x_nilCheck rfl) rfl (EL.store rfl rfl qb sz_67 rfl rfl rfl rfl ?_)))));intro w9 hq9 hg9;replace q1 := q1.gr hg9 n0_1.symm;replace q2 := q2.gr hg9 n0_2.symm;replace hgw := grown_two hgw hg9;replace qb := hq9;clear hg9 hq9;refine EL.nil (EX.seq (EC.ret (EX.seq_ret ?_)));have hrn : js.drop p.steps.length = [] := by rw [hend, List.drop_length]
    exact EX.done (v := .tuple #[]) (res0 rfl) ⟨rfl, hgw, by rw [hrn, try_end hwo]; exact ⟨As, cs, qb, own_type hS qb0 rfl hgw⟩⟩
   ·
    have hlt : p.steps.length < js.length := by omega
    have hcg := hjs p.steps.length hlt;obtain ⟨cg, ecg⟩ : ∃ z, z = js.getD p.steps.length 0 := ⟨_, rfl⟩;rw [← ecg] at hcg;have hrm : js.drop p.steps.length = cg :: js.drop (p.steps.length + 1) := by rw [ecg, getD_in hlt]; exact List.drop_eq_getElem_cons hlt
    obtain ⟨rem, erm⟩ : ∃ z, z = js.drop (p.steps.length + 1) := ⟨_, rfl⟩;rw [← erm] at hrm;have IHr : TrySpec ru js rem := @IH cg rem hrm;obtain ⟨a1, ea1⟩ : ∃ z : Option Pl × Nat, z = (b.1, max b.2 p.steps.length) := ⟨_, rfl⟩;refine EL.val (x_eql (r := false) rfl rfl (decide_eq_false (by omega))) rfl ?_
    refine EL.nil (EX.seq (EC.no rfl (EC.skip (EX.seq (EC.seq (EC.region (EL.as rfl rfl (EL.nil (EX.seq ?_)))))))));refine EC.block ?_;have hbm : BestM w8 gb (accR ru (us.map (·.1)) cg rem p a1 0 0) := ⟨A, c, by rw [acc_zero, ea1]; exact qb, by rw [acc_zero, ea1]; exact own_type hbs qb0 rfl hgw⟩
    refine EC.loopD [11, 12, 13, 14, 15, 16, 17, 75, 76, 77, 78, 79, 80, 81, 82, 83, 84, 85, 86, 87, 88, 89, 90, 91, 92, 93, 94, 95, 96, 97, 98, 99, 100, 101, 102, 103, 104, 105, 106, 107, 108, 109, 110, 111, 112, 113, 114, 115, 116, 117, 118, 119, 120, 121, 122, 123, 124, 125, 126, 127, 128, 129, 130, 131, 132, 133, 134, 135, 136, 137, 138, 139, 140, 141, 142, 143, 144, 145, 146, 147, 148, 149, 150, 151, 152, 153, 154, 155] (fun x : Nat => [(11, .int .i64 (x : Nat))]) (fun x W => x ≤ us.length ∧ BestM W gb (accR ru (us.map (·.1)) cg rem p a1 x 0) ∧ Blk W g1 28 #[.slice Al ru.levels.length cl, .int .i64 ru.fade.lo, .int .i64 ru.fade.hi, .slice Aa ru.allow.length ca, .slice Ap ru.apart.length cp, .slice Ak ru.kinds.length ck] ∧ Blk W g2 67 #[.bool false, .slice As p.steps.length cs, .int .i64 p.washes, .int .i64 p.cost, .int .i64 0] ∧ w.grownBy W (some gb)) (fun x => us.length - x) 0 ⟨Nat.zero_le _, hbm, q1, q2, hgw⟩ ⟨rfl, trivial⟩ ?_
    clear hbm qb q1 q2 hgw
    rintro i wx ⟨hi, hbm, q1, q2, hgw⟩
    by_cases hlti : i < us.length
    ·
     refine EC.seq (EC.seq (EC.region (EL.mv rfl rfl (EL.mv rfl rfl (EL.val (ln_64 rfl) rfl ?_)))));refine EL.val (x_lss rfl rfl (decide_eq_true (show (((i : Nat) : Int) < ((us.length : Nat) : Int)) by omega))) rfl ?_
     refine EL.nil (EX.seq (EC.yes rfl (EC.skip (EX.seq (EC.seq (EC.block (EC.seq (EC.region (EL.as rfl rfl ?_)))))))));refine EL.nil (EX.seq (EC.block ?_));refine EC.loopD [12, 13, 14, 15, 16, 17, 81, 82, 83, 84, 85, 86, 87, 88, 89, 90, 91, 92, 93, 94, 95, 96, 97, 98, 99, 100, 101, 102, 103, 104, 105, 106, 107, 108, 109, 110, 111, 112, 113, 114, 115, 116, 117, 118, 119, 120, 121, 122, 123, 124, 125, 126, 127, 128, 129, 130, 131, 132, 133, 134, 135, 136, 137, 138, 139, 140, 141, 142, 143, 144, 145, 146, 147, 148, 149, 150, 151, 152, 153, 154, 155] (fun x : Nat => [(12, .int .i64 (((x : Nat) : Int) - 1))]) (fun x W => x ≤ (ru.kinds.length + 1) ∧ BestM W gb (accR ru (us.map (·.1)) cg rem p a1 i x) ∧ Blk W g1 28 #[.slice Al ru.levels.length cl, .int .i64 ru.fade.lo, .int .i64 ru.fade.hi, .slice Aa ru.allow.length ca, .slice Ap ru.apart.length cp, .slice Ak ru.kinds.length ck] ∧ Blk W g2 67 #[.bool false, .slice As p.steps.length cs, .int .i64 p.washes, .int .i64 p.cost, .int .i64 0] ∧ w.grownBy W (some gb)) (fun x => (ru.kinds.length + 1) - x) 0 ⟨Nat.zero_le _, hbm, q1, q2, hgw⟩ ⟨rfl, trivial⟩ ?_
     clear hbm q1 q2 hgw
     rintro kk wk ⟨hk, hbm, q1, q2, hgw⟩
     by_cases hltk : kk < (ru.kinds.length + 1)
     ·
      obtain ⟨k, ek⟩ : ∃ z : Int, z = ((kk : Nat) : Int) - 1 := ⟨_, rfl⟩;rw [← ek];have hkin : k ∈ kindsL ru.kinds.length := by rw [ek]; exact kk_in hltk
      obtain ⟨A, c, qb, hbs⟩ := hbm;obtain ⟨av, eav⟩ : ∃ z, z = (accR ru (us.map (·.1)) cg rem p a1 i kk) := ⟨_, rfl⟩;rw [← eav] at qb hbs
      unfold bestC at qb
      have hgB := gw_B hgw hBg hBw;have hrk := hr.below hgB;have hvk := hv.below hgB;have hBk := Nat.le_trans hBw hgw.size;have hTk := hT.type qb0 rfl rfl rfl hgw;have hSk : stsAt wk p.steps As cs := own_type hS qb0 rfl hgw;have qbk := qb;have hgx : wk.grownBy wk (some gb) := gw_refl wk gb;obtain ⟨bt, ot, eT, _, d0, d1⟩ := rks_cells us i hlti wk wk.heap.size _ _ _ (Rd.of_own hTk.own);obtain ⟨⟨u, ⟨U1, x1⟩, U2, x2⟩, etk⟩ : ∃ z, z = us.getD i tk00 := ⟨_, rfl⟩;have hu1 := hTk.getR hlti;have hu2 := hTk.getA hlti;rw [← etk] at d0 d1 hu1 hu2
      dsimp only at d0 d1 hu1 hu2
      have hui : us.getD i tk00 ∈ us := by rw [getD_in hlti]; exact List.getElem_mem _
      have hur := hok _ hui;rw [← etk] at hur
      dsimp only at hur
      have eui : (us.map (·.1)).getD i rt0 = u := by rw [map_getD (d := tk00) hlti, ← etk]
      obtain ⟨bb, hbb⟩ : ∃ bb, decide (k ≥ 0) = bb := ⟨_, rfl⟩;refine EC.seq (EC.seq (EC.region (EL.mv rfl rfl (EL.val (fa_28_4 rfl) rfl (EL.val (ld_26 rfl (q1.at (j := 5) rfl)) rfl (EL.val (ln_26 rfl) rfl ?_))))));refine EL.val (x_lss (r := true) rfl rfl (decide_eq_true (by omega))) rfl ?_
      refine EL.nil (EX.seq (EC.yes rfl (EC.skip (EX.seq (EC.seq (EC.block (EC.seq ?_)))))));have hsz := hgx.size;have lt_1 := q1.lt;have lt_2 := q2.lt;have lt_0 := qb.lt;refine EC.regionS [[], [], [], [1, 2], [1, 2, 3], [], [], [0, 5, 6], [0, 1, 2, 3, 4, 5, 6, 7]] 8 [5, 6] [7] (fun _ w_ => Below wk.heap.size wk w_) (phiS (fun i_ r => match i_ with | 0 => r 0 = .agg #[.bool false, .slice As p.steps.length cs, .int .i64 p.washes, .int .i64 p.cost, .int .i64 0] | 1 => r 1 = .slice At us.length ct | 2 => r 2 = .int .i64 (i : Nat) | 3 => r 3 = .pointer (some ⟨bt, ot + i * 2, none⟩) | 4 => r 4 = .agg #[.slice U1 ru.levels.length x1, .slice U2 ru.levels.length x2] | _ => True) [(5, fun fl r w_ => ∃ g_, r 5 = .pointer (some ⟨g_, 0, none⟩) ∧ wk.heap.size ≤ g_ ∧ (fl 7 = false → Blk w_ g_ 67 #[.bool false, .slice none 0 0, .int .i64 0, .int .i64 0, .int .i64 0])), (6, fun _ r w_ => ∃ g_, r 6 = .pointer (some ⟨g_, 0, none⟩) ∧ wk.heap.size ≤ g_ ∧ Blk w_ g_ 62 #[.slice none 0 0, .slice none 0 0]), (7, fun _ r w_ => ∃ g_, r 5 = .pointer (some ⟨g_, 0, none⟩) ∧ Blk w_ g_ 67 #[.bool false, .slice As p.steps.length cs, .int .i64 p.washes, .int .i64 p.cost, .int .i64 0])]) (by kernel_rfl) rfl rfl (by intro i hi; simp at hi; first | (subst hi; exact ⟨by simp, by omega⟩) | (rcases hi with rfl | rfl | rfl <;> exact ⟨by simp, by omega⟩) | (rcases hi with rfl | rfl <;> exact ⟨by simp, by omega⟩)) (base_below wk) (phiS_cons monoS_alloc (phiS_cons monoS_alloc0 (phiS_cons monoS_store (phiS_nil)))) (fun i_ hi_ hs_ => ?_) (fun i_ hi_ => ?_) ?_
      ·match i_, hi_ with
       | 0, _ =>
        intro val fl w1 a hb ha hd hfl;have ha := ha.s0 (d := 8) rfl
        exact ss_val ha rfl rfl (ld_67 rfl ((q2.below hb q2.lt).at (j := 0) rfl) ((q2.below hb q2.lt).at (j := 1) rfl) ((q2.below hb q2.lt).at (j := 2) rfl) ((q2.below hb q2.lt).at (j := 3) rfl) ((q2.below hb q2.lt).at (j := 4) rfl)) rfl rfl
       | 1, _ =>
        intro val fl w1 a hb ha hd hfl;have ha := ha.s0 (d := 1) rfl
        exact ss_val ha rfl rfl (x_move rfl) rfl rfl
       | 2, _ =>
        intro val fl w1 a hb ha hd hfl;have ha := ha.s0 (d := 11) rfl
        exact ss_val ha rfl rfl (x_move rfl) rfl rfl
       | 3, _ =>
        intro val fl w1 a hb ha hd hfl;have e1 : val 1 = _ := hd 1 (memB_mem.1 rfl);have e2 : val 2 = _ := hd 2 (memB_mem.1 rfl);have ha := ha.s2 (d := 90) (e := 89) rfl e2 rfl e1
        exact ss_val ha rfl rfl (ix_64 (by show some (Value.slice At _ _) = _; rw [eT]) rfl hlti) rfl rfl
       | 4, _ =>
        intro val fl w1 a hb ha hd hfl;have e3 : val 3 = _ := hd 3 (memB_mem.1 rfl);have ha := ha.s1 (d := 91) rfl e3
        exact ss_val ha rfl rfl (ld_62 rfl (below_load hb d0) (below_load hb d1)) rfl rfl
       | 5, _ =>
        intro val fl w1 a hb ha hd hfl;have ha := ha.sub (Sub.nil _)
        exact ss_newP ha rfl rfl al_67 (fun g w' hq _ hge => ⟨g, rfl, Nat.le_trans hb.size hge, fun _ => hq⟩)
       | 6, _ =>
        intro val fl w1 a hb ha hd hfl;have ha := ha.sub (Sub.nil _)
        exact ss_newP ha rfl rfl al_62 (fun g w' hq _ hge => ⟨g, rfl, Nat.le_trans hb.size hge, hq⟩)
       | 7, _ =>
        exact absurd (by simp) hs_
       | k + 8, h => exact absurd h (by omega)
      ·simp only [List.mem_singleton] at hi_; subst hi_
       intro val fl w1 a hb hfi ha hd hfl;obtain ⟨g5_, e5, hg5_, q5_⟩ := hd 5 (memB_mem.1 rfl);change val 5 = _ at e5;have e0 : val 0 = _ := hd 0 (memB_mem.1 rfl);have ha := ha.s2 (d := 88) (e := 13) rfl e0 rfl e5;refine ts_store ha rfl rfl rfl (q5_ hfi) sz_67 rfl rfl rfl rfl ?_;intro w' hq hgr;refine ⟨undef, rfl, hgr.size, below_store hb hgr hg5_, ⟨g5_, e5, hq⟩, fun j _ hj hn hA => ?_⟩
       exact phiS_cons_st (C := fun j => j ≠ 7 ∧ 7 ∉ clsAt [[], [], [], [1, 2], [1, 2, 3], [], [], [0, 5, 6], [0, 1, 2, 3, 4, 5, 6, 7]] j ∧ ∀ p ∈ [5, 6], (p = j ∨ p ∈ clsAt [[], [], [], [1, 2], [1, 2, 3], [], [], [0, 5, 6], [0, 1, 2, 3, 4, 5, 6, 7]] j) → ∀ q ∈ [5, 6], (q = 7 ∨ q ∈ clsAt [[], [], [], [1, 2], [1, 2, 3], [], [], [0, 5, 6], [0, 1, 2, 3, 4, 5, 6, 7]] 7) → p ≠ q → val p ≠ val q) (fun _ ⟨g, h1, h2, _⟩ => ⟨g, h1, h2, fun h => by rw [fset_eq] at h; cases h⟩) (phiS_cons_st (C := fun j => j ≠ 7 ∧ 7 ∉ clsAt [[], [], [], [1, 2], [1, 2, 3], [], [], [0, 5, 6], [0, 1, 2, 3, 4, 5, 6, 7]] j ∧ ∀ p ∈ [5, 6], (p = j ∨ p ∈ clsAt [[], [], [], [1, 2], [1, 2, 3], [], [], [0, 5, 6], [0, 1, 2, 3, 4, 5, 6, 7]] j) → ∀ q ∈ [5, 6], (q = 7 ∨ q ∈ clsAt [[], [], [], [1, 2], [1, 2, 3], [], [], [0, 5, 6], [0, 1, 2, 3, 4, 5, 6, 7]] 7) → p ≠ q → val p ≠ val q) (fun hc ⟨g, h1, h2, h3⟩ => ⟨g, h1, h2, h3.grown hgr (fun h => hc.2.2 6 (by simp) (.inl rfl) 5 (by simp) (.inr (memB_mem.1 rfl)) (by simp) (by have h1' : val 6 = _ := h1; rw [h1', e5]; injection h with h; rw [h]))⟩) (phiS_cons_st (C := fun j => j ≠ 7 ∧ 7 ∉ clsAt [[], [], [], [1, 2], [1, 2, 3], [], [], [0, 5, 6], [0, 1, 2, 3, 4, 5, 6, 7]] j ∧ ∀ p ∈ [5, 6], (p = j ∨ p ∈ clsAt [[], [], [], [1, 2], [1, 2, 3], [], [], [0, 5, 6], [0, 1, 2, 3, 4, 5, 6, 7]] j) → ∀ q ∈ [5, 6], (q = 7 ∨ q ∈ clsAt [[], [], [], [1, 2], [1, 2, 3], [], [], [0, 5, 6], [0, 1, 2, 3, 4, 5, 6, 7]] 7) → p ≠ q → val p ≠ val q) (fun hc => absurd rfl hc.1) (fun _ _ h => h))) j ⟨hj, hn, hA⟩
      ·intro val fl wR12 hfl hb halc hd
       have e0 : val 0 = _ := hd 0 (by omega)
       have e1 : val 1 = _ := hd 1 (by omega)
       have e2 : val 2 = _ := hd 2 (by omega)
       have e3 : val 3 = _ := hd 3 (by omega)
       have e4 : val 4 = _ := hd 4 (by omega)
       obtain ⟨ga5_12, e5, qa5_12⟩ := hd 7 (by omega)
       change val 5 = _ at e5;obtain ⟨ga6_12, e6, _, qa6_12⟩ := hd 6 (by omega)
       change val 6 = _ at e6;refine EL.ends (cs := [_, _, _, _, _, _, _, val 7]) ⟨e0, e1, e2, e3, e4, e5, e6, rfl, trivial⟩ rfl ?_;replace q1 := q1.bl hb;replace q2 := q2.bl hb;replace qb := qb.bl hb;replace hgx := gw_below hgx hb;replace hu1 := own_below hu1 hb (Nat.le_refl _);replace hu2 := own_below hu2 hb (Nat.le_refl _);have bge10 := alc_ge halc (i := 5) rfl rfl e5;have n1_10 : g1 ≠ ga5_12 := Nat.ne_of_lt (Nat.lt_of_lt_of_le lt_1 bge10);have n2_10 : g2 ≠ ga5_12 := Nat.ne_of_lt (Nat.lt_of_lt_of_le lt_2 bge10);have n0_10 : gb ≠ ga5_12 := Nat.ne_of_lt (Nat.lt_of_lt_of_le lt_0 bge10);have bge11 := alc_ge halc (i := 6) rfl rfl e6;have n1_11 : g1 ≠ ga6_12 := Nat.ne_of_lt (Nat.lt_of_lt_of_le lt_1 bge11);have n2_11 : g2 ≠ ga6_12 := Nat.ne_of_lt (Nat.lt_of_lt_of_le lt_2 bge11);have n0_11 : gb ≠ ga6_12 := Nat.ne_of_lt (Nat.lt_of_lt_of_le lt_0 bge11);have n10_11 : ga5_12 ≠ ga6_12 := alc_ne halc (i := 5) (j := 6) rfl rfl rfl rfl rfl e5 e6;have bx10 := Nat.le_trans hsz bge10;have bx11 := Nat.le_trans hsz bge11;refine EL.store rfl rfl qa6_12 sz_62 rfl rfl rfl rfl ?_;intro w12 hq12 hg12;replace q1 := q1.gr hg12 n1_11;replace q2 := q2.gr hg12 n2_11;replace qb := qb.gr hg12 n0_11;replace qa5_12 := qa5_12.gr hg12 n10_11;replace hgx := gw_store hgx hg12 bx11;replace hu1 := own_type hu1 qa6_12 rfl hg12;replace hu2 := own_type hu2 qa6_12 rfl hg12;replace qa6_12 := hq12;clear hg12 hq12;refine EL.nil (EX.seq ?_);refine EC.cutD [93, 94, 95, 96, 97, 98, 99, 100, 101, 102, 103, 104, 105, 106, 107, 108, 109, 110, 111, 112, 113] (fun x : Option Addr × Nat × Option Addr × Nat => []) (fun x W => Blk W ga5_12 67 #[.bool false, .slice As p.steps.length cs, .int .i64 (p.washes + numK k), .int .i64 (p.cost + kcost ru k), .int .i64 0] ∧ Blk W ga6_12 62 #[.slice x.1 ru.levels.length x.2.1, .slice x.2.2.1 ru.levels.length x.2.2.2] ∧ W.ownsRow 0 24 2 (.slice x.1 ru.levels.length x.2.1) ru.levels.length (bdsC (wayR ru u k).res) ∧ W.ownsRow 0 3 1 (.slice x.2.2.1 ru.levels.length x.2.2.2) ru.levels.length (ints (wayR ru u k).aft) ∧ Blk W gb 67 #[.bool av.1.isSome, .slice A (bp av).steps.length c, .int .i64 (bp av).washes, .int .i64 (bp av).cost, .int .i64 (av.2 : Nat)] ∧ Blk W g1 28 #[.slice Al ru.levels.length cl, .int .i64 ru.fade.lo, .int .i64 ru.fade.hi, .slice Aa ru.allow.length ca, .slice Ap ru.apart.length cp, .slice Ak ru.kinds.length ck] ∧ Blk W g2 67 #[.bool false, .slice As p.steps.length cs, .int .i64 p.washes, .int .i64 p.cost, .int .i64 0] ∧ wk.grownBy W (some gb)) ?_ ?_
       ·
        cases bb
        ·
         have hkn : k < 0 := by have := of_decide_eq_false hbb; omega
         have hnk : numK k = 0 := if_pos hkn;have hck : kcost ru k = 0 := if_pos hkn;have hwk : wayR ru u k = u := if_pos hkn;refine EC.seq (EC.region (EL.mv rfl rfl (EL.val (x_geq rfl rfl hbb) rfl (EL.nil (EX.seq (EC.no rfl (EC.skip ?_)))))))
         exact EX.cutE (U1, x1, U2, x2) trivial (by repeat first | with_reducible exact (Sub.refl _).del _ | refine sp_ rfl ?_ | exact (Sub.refl _).del _ | refine sd_ rfl ?_ | refine sn_ ?_) ⟨by rw [hnk, hck, Int.add_zero, Int.add_zero]; exact qa5_12, qa6_12, by rw [hwk]; exact hu1, by rw [hwk]; exact hu2, qb, q1, q2, hgx⟩
        ·
         have hkn : ¬k < 0 := by have := of_decide_eq_true hbb; omega
         have hnk : numK k = 1 := if_neg hkn;have hck : kcost ru k = (ru.kinds.getD k.toNat kd0).cost := if_neg hkn;have hwk : wayR ru u k = stepR ru u ⟨2, k⟩ := if_neg hkn;obtain ⟨j, hj, ekj⟩ : ∃ j : Nat, j < ru.kinds.length ∧ k = ((j : Nat) : Int) := by rcases kinds_in hkin with h | h; omega; exact h
         have hkd := kd_bd hro k.toNat;obtain ⟨hp1, hp2, hp3, hp4, hp5⟩ := hp;refine EC.seq (EC.region (EL.mv rfl rfl (EL.val (x_geq rfl rfl hbb) rfl (EL.nil (EX.seq (EC.yes rfl (EC.seq (EC.region (EL.val (ld_28 rfl (q1.at (j := 0) rfl) (q1.at (j := 1) rfl) (q1.at (j := 2) rfl) (q1.at (j := 3) rfl) (q1.at (j := 4) rfl) (q1.at (j := 5) rfl)) rfl ?_)))))))));refine EL.val (ld_62 rfl (qa6_12.at (j := 0) rfl) (qa6_12.at (j := 1) rfl)) rfl (EL.mv rfl rfl (EL.val (bd_50_0_1 rfl rfl) rfl ?_));refine EL.call (cA3 cF58 rfl rfl rfl) rfl (Step_any (x := ⟨2, k⟩) (hrk.below (gw_B hgx hBg hBk)) (Nat.le_trans hBk hgx.size) hro hur (by omega) (Rd.of_own hu1) (Rd.of_own hu2) (Nat.le_refl _) (by rw [ekj]; exact ev_wash hj)) ?_
         rintro e w13 ⟨⟨B1, f1, B2, f2, rfl, p1, p2⟩, hc13⟩
         refine ⟨_, rfl, ?_⟩;replace p1 := own_less p1 (Nat.zero_le _);replace p2 := own_less p2 (Nat.zero_le _);replace q1 := q1.bl hc13;replace q2 := q2.bl hc13;replace qb := qb.bl hc13;replace qa5_12 := qa5_12.bl hc13;replace qa6_12 := qa6_12.bl hc13;replace hgx := gw_below hgx hc13;replace hu1 := own_below hu1 hc13 (Nat.le_refl _);replace hu2 := own_below hu2 hc13 (Nat.le_refl _);clear hc13 hu1 hu2;refine EL.store rfl rfl qa6_12 sz_62 rfl rfl rfl rfl ?_;intro w14 hq14 hg14;replace q1 := q1.gr hg14 n1_11;replace q2 := q2.gr hg14 n2_11;replace qb := qb.gr hg14 n0_11;replace qa5_12 := qa5_12.gr hg14 n10_11;replace hgx := gw_store hgx hg14 bx11;replace p1 := own_type p1 qa6_12 rfl hg14;replace p2 := own_type p2 qa6_12 rfl hg14;replace qa6_12 := hq14;clear hg14 hq14;refine EL.nil (EX.seq ?_);have hrz := hrk.below (gw_B hgx hBg hBk);obtain ⟨bk, ok, eAk, hbk, hkc⟩ := kds_cells ru.kinds j hj w14 B _ _ _ hrz.kinds;have hszk := Nat.le_trans hBk hgx.size;have hnk1 : bk < w14.heap.size := Nat.lt_of_lt_of_le hbk hszk;have hnk2 : some bk ≠ some ga5_12 := fun e => by injection e with e; have := bx10; omega
         have hkj : k.toNat = j := by rw [ekj]; exact Int.toNat_natCast j
         rw [hkj] at hkd hck;have qz_ := qa5_12;have lt_1 := q1.lt;have lt_2 := q2.lt;have lt_0 := qb.lt;have lt_10 := qa5_12.lt;have lt_11 := qa6_12.lt;refine EC.regionS [[], [0], [0, 1], [], [3], [], [5], [], [5, 6, 7], [5, 6, 7, 8], [5, 6, 7, 8, 9], [3, 4, 5, 6, 7, 8, 9, 10], [0, 1, 2, 3, 4], [0, 1, 2, 3, 4, 12], [0, 1, 2, 3, 4, 5, 6, 7, 8, 9, 10, 11, 12, 13], [0, 1, 2, 3, 4, 5, 6, 7, 8, 9, 10, 11, 12, 13, 14]] 14 [] [13] (fun fl w_ => w14.grownBy w_ (some ga5_12) ∧ (fl 13 = false → Blk w_ ga5_12 67 _)) (phiS (fun i_ r => match i_ with | 0 => r 0 = .pointer (some ⟨ga5_12, 2, none⟩) | 1 => r 1 = .int .i64 p.washes | 2 => r 2 = .int .i64 (p.washes + 1) | 3 => r 3 = .pointer (some ⟨ga5_12, 3, none⟩) | 4 => r 4 = .int .i64 p.cost | 5 => r 5 = .pointer (some ⟨g1, 5, none⟩) | 6 => r 6 = .slice Ak ru.kinds.length ck | 7 => r 7 = .int .i64 k | 8 => r 8 = .pointer (some ⟨bk, ok + j * 5, none⟩) | 9 => r 9 = .pointer (some ⟨bk, ok + j * 5 + 4, none⟩) | 10 => r 10 = .int .i64 (ru.kinds.getD j kd0).cost | 11 => r 11 = .int .i64 (p.cost + (ru.kinds.getD j kd0).cost) | 12 => r 12 = .pointer (some ⟨ga5_12, 2, none⟩) | _ => True) [(13, fun _ r w_ => Blk w_ ga5_12 67 #[.bool false, .slice As p.steps.length cs, .int .i64 (p.washes + 1), .int .i64 p.cost, .int .i64 0])]) (by kernel_rfl) rfl rfl (by intro i hi; simp at hi; first | (subst hi; exact ⟨by simp, by omega⟩) | (rcases hi with rfl | rfl | rfl <;> exact ⟨by simp, by omega⟩) | (rcases hi with rfl | rfl <;> exact ⟨by simp, by omega⟩)) (base_own qa5_12) (phiS_cons monoS_own (phiS_nil)) (fun i_ hi_ hs_ => ?_) (fun i_ hi_ => ?_) ?_
         ·match i_, hi_ with
          | 0, _ =>
           intro val fl w1 a hb ha hd hfl;obtain ⟨hb, hg0⟩ := hb;have ha := ha.s0 (d := 13) rfl
           exact ss_val ha rfl rfl (fa_67_2 rfl) rfl rfl
          | 1, _ =>
           intro val fl w1 a hb ha hd hfl;obtain ⟨hb, hg0⟩ := hb;have e0 : val 0 = _ := hd 0 (memB_mem.1 rfl);have ha := ha.s1 (d := 100) rfl e0
           exact ss_val ha rfl rfl (ld_3 rfl ((hg0 (hfl 13 (by simp) (memB_mem.1 rfl))).at (j := 2) rfl)) rfl rfl
          | 2, _ =>
           intro val fl w1 a hb ha hd hfl;obtain ⟨hb, hg0⟩ := hb;have e1 : val 1 = _ := hd 1 (memB_mem.1 rfl);have ha := ha.s1 (d := 101) rfl e1
           exact ss_val ha rfl rfl (x_add rfl rfl (by first | assumption | exact IntWalk.i64_in _ ⟨by omega, by omega⟩)) rfl rfl
          | 3, _ =>
           intro val fl w1 a hb ha hd hfl;obtain ⟨hb, hg0⟩ := hb;have ha := ha.s0 (d := 13) rfl
           exact ss_val ha rfl rfl (fa_67_3 rfl) rfl rfl
          | 4, _ =>
           intro val fl w1 a hb ha hd hfl;obtain ⟨hb, hg0⟩ := hb;have e3 : val 3 = _ := hd 3 (memB_mem.1 rfl);have ha := ha.s1 (d := 103) rfl e3
           exact ss_val ha rfl rfl (ld_3 rfl ((hg0 (hfl 13 (by simp) (memB_mem.1 rfl))).at (j := 3) rfl)) rfl rfl
          | 5, _ =>
           intro val fl w1 a hb ha hd hfl;obtain ⟨hb, hg0⟩ := hb;have ha := ha.s0 (d := 5) rfl
           exact ss_val ha rfl rfl (fa_28_4 rfl) rfl rfl
          | 6, _ =>
           intro val fl w1 a hb ha hd hfl;obtain ⟨hb, hg0⟩ := hb;have e5 : val 5 = _ := hd 5 (memB_mem.1 rfl);have ha := ha.s1 (d := 105) rfl e5
           exact ss_val ha rfl rfl (ld_26 rfl ((q1.grown hb (fun h => n1_10 (Option.some.inj h))).at (j := 5) rfl)) rfl rfl
          | 7, _ =>
           intro val fl w1 a hb ha hd hfl;obtain ⟨hb, hg0⟩ := hb;have ha := ha.s0 (d := 12) rfl
           exact ss_val ha rfl rfl (x_move rfl) rfl rfl
          | 8, _ =>
           intro val fl w1 a hb ha hd hfl;obtain ⟨hb, hg0⟩ := hb;have e6 : val 6 = _ := hd 6 (memB_mem.1 rfl);have e7 : val 7 = _ := hd 7 (memB_mem.1 rfl);have ha := ha.s2 (d := 107) (e := 106) rfl e7 rfl e6
           exact ss_val ha rfl rfl (ix_26 (by show some (Value.slice Ak _ _) = _; rw [eAk]) (by show some (Value.int .i64 k) = _; rw [ekj]) hj) rfl rfl
          | 9, _ =>
           intro val fl w1 a hb ha hd hfl;obtain ⟨hb, hg0⟩ := hb;have e8 : val 8 = _ := hd 8 (memB_mem.1 rfl);have ha := ha.s1 (d := 108) rfl e8
           exact ss_val ha rfl rfl (fa_52_3 rfl) rfl rfl
          | 10, _ =>
           intro val fl w1 a hb ha hd hfl;obtain ⟨hb, hg0⟩ := hb;have e9 : val 9 = _ := hd 9 (memB_mem.1 rfl);have ha := ha.s1 (d := 109) rfl e9
           exact ss_val ha rfl rfl (ld_3 rfl ((hb.cell_far ⟨bk, ok + j * 5 + 4, none⟩ hnk1 hnk2).trans hkc.c4)) rfl rfl
          | 11, _ =>
           intro val fl w1 a hb ha hd hfl;obtain ⟨hb, hg0⟩ := hb;have e4 : val 4 = _ := hd 4 (memB_mem.1 rfl);have e10 : val 10 = _ := hd 10 (memB_mem.1 rfl);have ha := ha.s2 (d := 110) (e := 104) rfl e10 rfl e4
           exact ss_val ha rfl rfl (x_add rfl rfl (by first | assumption | exact IntWalk.i64_in _ ⟨by omega, by omega⟩)) rfl rfl
          | 12, _ =>
           intro val fl w1 a hb ha hd hfl;obtain ⟨hb, hg0⟩ := hb;have ha := ha.s0 (d := 13) rfl
           exact ss_val ha rfl rfl (fa_67_2 rfl) rfl rfl
          | 13, _ =>
           exact absurd (by simp) hs_
          | k + 14, h => exact absurd h (by omega)
         ·simp only [List.mem_singleton] at hi_; subst hi_
          intro val fl w1 a hb hfi ha hd hfl;obtain ⟨hb, hg0⟩ := hb;have e12 : val 12 = _ := hd 12 (memB_mem.1 rfl);have e2 : val 2 = _ := hd 2 (memB_mem.1 rfl);have ha := ha.s2 (d := 102) (e := 112) rfl e2 rfl e12;refine ts_store ha rfl rfl rfl (hg0 hfi) sz_3 rfl rfl rfl rfl ?_;intro w' hq hgr;refine ⟨undef, rfl, hgr.size, ⟨grown_two hb hgr, fun h => by rw [fset_eq] at h; cases h⟩, hq, fun j _ hj hn hA => ?_⟩
          exact phiS_cons_st (C := fun j => j ≠ 13 ∧ 13 ∉ clsAt [[], [0], [0, 1], [], [3], [], [5], [], [5, 6, 7], [5, 6, 7, 8], [5, 6, 7, 8, 9], [3, 4, 5, 6, 7, 8, 9, 10], [0, 1, 2, 3, 4], [0, 1, 2, 3, 4, 12], [0, 1, 2, 3, 4, 5, 6, 7, 8, 9, 10, 11, 12, 13], [0, 1, 2, 3, 4, 5, 6, 7, 8, 9, 10, 11, 12, 13, 14]] j ∧ ∀ p ∈ [], (p = j ∨ p ∈ clsAt [[], [0], [0, 1], [], [3], [], [5], [], [5, 6, 7], [5, 6, 7, 8], [5, 6, 7, 8, 9], [3, 4, 5, 6, 7, 8, 9, 10], [0, 1, 2, 3, 4], [0, 1, 2, 3, 4, 12], [0, 1, 2, 3, 4, 5, 6, 7, 8, 9, 10, 11, 12, 13], [0, 1, 2, 3, 4, 5, 6, 7, 8, 9, 10, 11, 12, 13, 14]] j) → ∀ q ∈ [], (q = 13 ∨ q ∈ clsAt [[], [0], [0, 1], [], [3], [], [5], [], [5, 6, 7], [5, 6, 7, 8], [5, 6, 7, 8, 9], [3, 4, 5, 6, 7, 8, 9, 10], [0, 1, 2, 3, 4], [0, 1, 2, 3, 4, 12], [0, 1, 2, 3, 4, 5, 6, 7, 8, 9, 10, 11, 12, 13], [0, 1, 2, 3, 4, 5, 6, 7, 8, 9, 10, 11, 12, 13, 14]] 13) → p ≠ q → val p ≠ val q) (fun hc => absurd rfl hc.1) (fun _ _ h => h) j ⟨hj, hn, hA⟩
         ·intro val fl wR15 hfl hb halc hd
          obtain ⟨hb, _⟩ := hb;have e0 : val 0 = _ := hd 0 (by omega)
          have e1 : val 1 = _ := hd 1 (by omega)
          have e2 : val 2 = _ := hd 2 (by omega)
          have e3 : val 3 = _ := hd 3 (by omega)
          have e4 : val 4 = _ := hd 4 (by omega)
          have e5 : val 5 = _ := hd 5 (by omega)
          have e6 : val 6 = _ := hd 6 (by omega)
          have e7 : val 7 = _ := hd 7 (by omega)
          have e8 : val 8 = _ := hd 8 (by omega)
          have e9 : val 9 = _ := hd 9 (by omega)
          have e10 : val 10 = _ := hd 10 (by omega)
          have e11 : val 11 = _ := hd 11 (by omega)
          have e12 : val 12 = _ := hd 12 (by omega)
          refine EL.ends (cs := [_, _, _, _, _, _, _, _, _, _, _, _, _, val 13]) ⟨e0, e1, e2, e3, e4, e5, e6, e7, e8, e9, e10, e11, e12, rfl, trivial⟩ rfl ?_;replace q1 := q1.gr hb n1_10;replace q2 := q2.gr hb n2_10;replace qb := qb.gr hb n0_10;have qa5_12 : Blk wR15 ga5_12 67 #[.bool false, .slice As p.steps.length cs, .int .i64 (p.washes + 1), .int .i64 p.cost, .int .i64 0] := hd 13 (by omega)
          replace qa6_12 := qa6_12.gr hb n10_11.symm;replace hgx := gw_store hgx hb bx10;replace p1 := own_type p1 qz_ rfl hb;replace p2 := own_type p2 qz_ rfl hb;refine EL.val (fa_67_3 rfl) rfl (EL.store rfl rfl qa5_12 sz_3 rfl rfl rfl rfl ?_);intro w15 hq15 hg15;replace q1 := q1.gr hg15 n1_10;replace q2 := q2.gr hg15 n2_10;replace qb := qb.gr hg15 n0_10;replace qa6_12 := qa6_12.gr hg15 n10_11.symm;replace hgx := gw_store hgx hg15 bx10;replace p1 := own_type p1 qa5_12 rfl hg15;replace p2 := own_type p2 qa5_12 rfl hg15;replace qa5_12 := hq15;clear hg15 hq15;refine EL.nil ?_
          exact EX.cutE (B1, f1, B2, f2) trivial (by repeat first | with_reducible exact (Sub.refl _).del _ | refine sp_ rfl ?_ | exact (Sub.refl _).del _ | refine sd_ rfl ?_ | refine sn_ ?_) ⟨by rw [hnk, hck]; exact qa5_12, qa6_12, by rw [hwk]; exact p1, by rw [hwk]; exact p2, qb, q1, q2, hgx⟩
       ·
        clear qb q1 q2 qa5_12 qa6_12 hu1 hu2 hgx
        rintro ⟨V1, f1, V2, f2⟩ W2 ⟨qa5_12, qa6_12, hu1, hu2, qb, q1, q2, hgx⟩
        dsimp only at qa6_12 hu1 hu2
        refine EC.seq (EC.seq ?_);have hrz := hrk.below (gw_B hgx hBg hBk);have hBz := Nat.le_trans hBk hgx.size;obtain ⟨bj, oj, ej, _, hjc⟩ := ints_cells (jsI js) p.steps.length (by rw [jsI_len]; exact hlt) W2 B _ _ _ (hvk.below (gw_B hgx hBg hBk))
        rw [jsI_at hlt, ← ecg] at hjc;have hway := way_rt hro hur hkin;have lt_1 := q1.lt;have lt_2 := q2.lt;have lt_0 := qb.lt;have lt_10 := qa5_12.lt;have lt_11 := qa6_12.lt;refine EC.regionP [[], [], [], [], [2, 3], [2, 3, 4], [0, 1, 2, 3, 4, 5], [0, 1, 2, 3, 4, 5, 6], [0, 1, 2, 3, 4, 5, 6, 7], [0, 1, 2, 3, 4, 5, 6, 7], [0, 1, 2, 3, 4, 5, 6, 7, 8], [0, 1, 2, 3, 4, 5, 6, 7, 8, 9, 10]] 11 [] (phi (fun i_ r => match i_ with | 0 => r 0 = .agg #[.slice Al ru.levels.length cl, .int .i64 ru.fade.lo, .int .i64 ru.fade.hi, .slice Aa ru.allow.length ca, .slice Ap ru.apart.length cp, .slice Ak ru.kinds.length ck] | 1 => r 1 = .agg #[.slice V1 ru.levels.length f1, .slice V2 ru.levels.length f2] | 2 => r 2 = .slice Aj js.length cj | 3 => r 3 = .int .i64 (p.steps.length : Nat) | 4 => r 4 = .pointer (some ⟨bj, oj + p.steps.length, none⟩) | 5 => r 5 = .int .i64 (cg : Nat) | 6 => r 6 = .tuple #[.bool (mayR ru (wayR ru u k) cg ru.levels.length).1, .bool (mayR ru (wayR ru u k) cg ru.levels.length).2] | 7 => r 7 = .tuple #[.bool (mayR ru (wayR ru u k) cg ru.levels.length).1, .bool (mayR ru (wayR ru u k) cg ru.levels.length).2] | 8 => r 8 = .bool (mayR ru (wayR ru u k) cg ru.levels.length).1 | 9 => r 9 = .bool (mayR ru (wayR ru u k) cg ru.levels.length).2 | 10 => r 10 = .bool (mayR ru (wayR ru u k) cg ru.levels.length).1 | _ => True) []) (by kernel_rfl) rfl rfl (phi_nil) (fun i_ hi_ => ?_) ?_
        ·match i_, hi_ with
         | 0, _ =>
          intro val w1 a hb ha hd;have ha := ha.s0 (d := 5) rfl
          exact hs_val ha rfl rfl (ld_28 rfl ((q1.below hb q1.lt).at (j := 0) rfl) ((q1.below hb q1.lt).at (j := 1) rfl) ((q1.below hb q1.lt).at (j := 2) rfl) ((q1.below hb q1.lt).at (j := 3) rfl) ((q1.below hb q1.lt).at (j := 4) rfl) ((q1.below hb q1.lt).at (j := 5) rfl)) rfl rfl
         | 1, _ =>
          intro val w1 a hb ha hd;have ha := ha.s0 (d := 14) rfl
          exact hs_val ha rfl rfl (ld_62 rfl ((qa6_12.below hb qa6_12.lt).at (j := 0) rfl) ((qa6_12.below hb qa6_12.lt).at (j := 1) rfl)) rfl rfl
         | 2, _ =>
          intro val w1 a hb ha hd;have ha := ha.s0 (d := 2) rfl
          exact hs_val ha rfl rfl (x_move rfl) rfl rfl
         | 3, _ =>
          intro val w1 a hb ha hd;have ha := ha.s0 (d := 10) rfl
          exact hs_val ha rfl rfl (x_move rfl) rfl rfl
         | 4, _ =>
          intro val w1 a hb ha hd;have e2 : val 2 = _ := hd 2 (memB_mem.1 rfl);have e3 : val 3 = _ := hd 3 (memB_mem.1 rfl);have ha := ha.s2 (d := 118) (e := 117) rfl e3 rfl e2
          exact hs_val ha rfl rfl (ix_22 (by show some (Value.slice Aj _ _) = _; rw [ej]) rfl hlt) rfl rfl
         | 5, _ =>
          intro val w1 a hb ha hd;have e4 : val 4 = _ := hd 4 (memB_mem.1 rfl);have ha := ha.s1 (d := 119) rfl e4
          exact hs_val ha rfl rfl (ld_3 rfl (below_load hb hjc)) rfl rfl
         | 6, _ =>
          intro val w1 a hb ha hd;have e0 : val 0 = _ := hd 0 (memB_mem.1 rfl);have e1 : val 1 = _ := hd 1 (memB_mem.1 rfl);have e5 : val 5 = _ := hd 5 (memB_mem.1 rfl);have ha := ha.sub (Sub.ins (d := 120) (Sub.ins (d := 116) (Sub.ins (d := 115) (Sub.nil _) (dep_get rfl e0)) (dep_get rfl e1)) (dep_get rfl e5));refine hs_call ha rfl rfl (cA3 cF36 rfl rfl rfl) (rMay_any (hrz.below (hb.mono hBz)) (Nat.le_trans hBz hb.size) hro hway (Rd.of_own (own_below hu1 hb (Nat.le_refl _))) (Rd.of_own (own_below hu2 hb (Nat.le_refl _))) (Nat.le_refl _) hcg) rfl ?_
          rintro e w' ⟨rfl, hb'⟩
          exact ⟨_, rfl, hb', rfl⟩
         | 7, _ =>
          intro val w1 a hb ha hd;have e6 : val 6 = _ := hd 6 (memB_mem.1 rfl);have ha := ha.s1 (d := 121) rfl e6
          exact hs_val ha rfl rfl (x_move rfl) rfl rfl
         | 8, _ =>
          intro val w1 a hb ha hd;have e7 : val 7 = _ := hd 7 (memB_mem.1 rfl);have ha := ha.s1 (d := 114) rfl e7
          exact hs_val ha rfl rfl (x_extract rfl rfl) rfl rfl
         | 9, _ =>
          intro val w1 a hb ha hd;have e7 : val 7 = _ := hd 7 (memB_mem.1 rfl);have ha := ha.s1 (d := 114) rfl e7
          exact hs_val ha rfl rfl (x_extract rfl rfl) rfl rfl
         | 10, _ =>
          intro val w1 a hb ha hd;have e8 : val 8 = _ := hd 8 (memB_mem.1 rfl);have ha := ha.s1 (d := 122) rfl e8
          exact hs_val ha rfl rfl (x_assign rfl) rfl rfl
         | k + 11, h => exact absurd h (by omega)
        ·intro val wR16 hb halc hd
         have e0 : val 0 = _ := hd 0 (by omega)
         have e1 : val 1 = _ := hd 1 (by omega)
         have e2 : val 2 = _ := hd 2 (by omega)
         have e3 : val 3 = _ := hd 3 (by omega)
         have e4 : val 4 = _ := hd 4 (by omega)
         have e5 : val 5 = _ := hd 5 (by omega)
         have e6 : val 6 = _ := hd 6 (by omega)
         have e7 : val 7 = _ := hd 7 (by omega)
         have e8 : val 8 = _ := hd 8 (by omega)
         have e9 : val 9 = _ := hd 9 (by omega)
         have e10 : val 10 = _ := hd 10 (by omega)
         refine EL.ends (cs := [_, _, _, _, _, _, _, _, _, _, _]) ⟨e0, e1, e2, e3, e4, e5, e6, e7, e8, e9, e10, trivial⟩ rfl ?_;replace q1 := q1.bl hb;replace q2 := q2.bl hb;replace qb := qb.bl hb;replace qa5_12 := qa5_12.bl hb;replace qa6_12 := qa6_12.bl hb;replace hgx := gw_below hgx hb;replace hu1 := own_below hu1 hb (Nat.le_refl _);replace hu2 := own_below hu2 hb (Nat.le_refl _);clear hb;refine EL.as rfl rfl (EL.nil (EX.seq (EC.seq (EC.region (EL.mv rfl rfl (EL.val (x_not rfl) rfl (EL.nil (EX.seq ?_))))))))
         cases hmay : (mayR ru (wayR ru u k) cg ru.levels.length).1
         ·
          refine EC.yes rfl (EC.exit (EX.seq_exit (EX.blk_here (EX.seq (EC.region (EL.mv rfl rfl ?_))))));refine EL.val (x_add rfl rfl (c := k + 1) (IntWalk.i64_in _ ⟨by omega, by omega⟩)) rfl ?_
          refine EL.as rfl rfl (EL.nil ?_);refine EX.roundD (kk + 1) ⟨agree_i (by omega) rfl, trivial⟩ (by repeat first | with_reducible exact .refl _ | refine sp_ rfl ?_ | exact .refl _ | refine sd_ rfl ?_ | refine sn_ ?_) ⟨hltk, by rw [acc_no hltk ek (by unfold goR; rw [eui, if_neg (by rw [hmay]; decide)]), ← eav]; exact ⟨A, c, qb, own_type hbs qbk rfl hgx⟩, q1, q2, grown_two hgw hgx⟩ (by omega)
         ·
          refine EC.no rfl (EC.skip (EX.seq (EC.seq (EC.region (EL.newS (bs_65_0) rfl ?_)))));intro g16 w16 q16 hb16 hg16 hl16;have n1_16 := q1.na hg16;have n2_16 := q2.na hg16;have n0_16 := qb.na hg16;have n10_16 := qa5_12.na hg16;have n11_16 := qa6_12.na hg16;have bx16 : wk.heap.size ≤ g16 := Nat.le_trans hgx.size hg16;replace q1 := q1.bl hb16;replace q2 := q2.bl hb16;replace qb := qb.bl hb16;replace qa5_12 := qa5_12.bl hb16;replace qa6_12 := qa6_12.bl hb16;replace hgx := gw_below hgx hb16;replace hu1 := own_below hu1 hb16 (Nat.le_refl _);replace hu2 := own_below hu2 hb16 (Nat.le_refl _);clear hb16 hg16 hl16;have hst := own_empty (base := 0) 2 q16 (Nat.zero_le _);have hstf : ∀ b_, (Value.slice (some ⟨g16, 0, none⟩) 0 0).ownBlock = some b_ → wk.heap.size ≤ b_ := slice_fr bx16;refine EL.val (fa_67_1 rfl) rfl (EL.val (ld_65 rfl (q2.at (j := 1) rfl)) rfl ?_);have hgz := hgx.size;refine EL.push st_elem rfl rfl hst (Rd.of_own (own_type hSk qbk rfl hgx)) (stsC_one _) (by omega) rfl (Nat.zero_le _) rfl ?_
          intro v17 w17 hst2 hgr _ hat;replace q1 := blk_grown q1 hst rfl hgr;replace q2 := blk_grown q2 hst rfl hgr;replace qb := blk_grown qb hst rfl hgr;replace qa5_12 := blk_grown qa5_12 hst rfl hgr;replace qa6_12 := blk_grown qa6_12 hst rfl hgr;replace hgx := gw_row hgx hgr hstf;replace hu1 := own_grown hu1 hst rfl hgr;replace hu2 := own_grown hu2 hst rfl hgr;have hstg := fr_push hstf hat hgz;clear hstf hst hgr hat;have hstf := hstg;clear hstg;have hst := hst2;clear hst2;rw [Nat.zero_add, List.nil_append] at hst;obtain ⟨Ast, cst, rfl, _⟩ := (Rd.of_own hst).shape;refine EL.mv rfl rfl (EL.mv rfl rfl (EL.val (bd_70_0_1 rfl rfl) rfl (EL.newS (bs_65_1 rfl) rfl ?_)));intro g18 w18 q18 hb18 hg18 hl18;have n1_18 := q1.na hg18;have n2_18 := q2.na hg18;have n0_18 := qb.na hg18;have n10_18 := qa5_12.na hg18;have n11_18 := qa6_12.na hg18;have bx18 : wk.heap.size ≤ g18 := Nat.le_trans hgx.size hg18;replace q1 := q1.bl hb18;replace q2 := q2.bl hb18;replace qb := qb.bl hb18;replace qa5_12 := qa5_12.bl hb18;replace qa6_12 := qa6_12.bl hb18;replace hgx := gw_below hgx hb18;replace hu1 := own_below hu1 hb18 (Nat.le_refl _);replace hu2 := own_below hu2 hb18 (Nat.le_refl _);replace hst := own_below hst hb18 (Nat.le_refl _);clear hb18 hg18 hl18;have hgz := hgx.size;refine EL.push st_elem rfl rfl hst (rd_one (l := [.int .i64 (i : Nat), .int .i64 k]) q18 rfl) (by intro u hu; simp only [List.mem_cons, List.not_mem_nil, or_false] at hu; rcases hu with rfl | rfl <;> rfl) (by omega) rfl (Nat.zero_le _) rfl ?_
          intro v19 w19 hst2 hgr _ hat;replace q1 := blk_grown q1 hst rfl hgr;replace q2 := blk_grown q2 hst rfl hgr;replace qb := blk_grown qb hst rfl hgr;replace qa5_12 := blk_grown qa5_12 hst rfl hgr;replace qa6_12 := blk_grown qa6_12 hst rfl hgr;replace hgx := gw_row hgx hgr hstf;replace hu1 := own_grown hu1 hst rfl hgr;replace hu2 := own_grown hu2 hst rfl hgr;have hstg := fr_push hstf hat hgz;clear hstf hst hgr hat;have hstf := hstg;clear hstg;have hst := hst2;clear hst2;obtain ⟨Ast2, cst2, rfl, _⟩ := (Rd.of_own hst).shape;refine EL.val (fa_67_1 rfl) rfl (EL.store rfl rfl qa5_12 sz_65 rfl rfl rfl rfl ?_);intro w20 hq20 hg20;replace q1 := q1.gr hg20 n1_10;replace q2 := q2.gr hg20 n2_10;replace qb := qb.gr hg20 n0_10;replace qa6_12 := qa6_12.gr hg20 n10_11.symm;replace hgx := gw_store hgx hg20 bx10;replace hu1 := own_type hu1 qa5_12 rfl hg20;replace hu2 := own_type hu2 qa5_12 rfl hg20;replace hst := own_type hst qa5_12 rfl hg20;replace qa5_12 := hq20;clear hg20 hq20;refine EL.nil (EX.seq (EC.seq (EC.region (EL.newS (bs_64_0) rfl ?_))));intro g21 w21 q21 hb21 hg21 hl21;have n1_21 := q1.na hg21;have n2_21 := q2.na hg21;have n0_21 := qb.na hg21;have n10_21 := qa5_12.na hg21;have n11_21 := qa6_12.na hg21;have bx21 : wk.heap.size ≤ g21 := Nat.le_trans hgx.size hg21;replace q1 := q1.bl hb21;replace q2 := q2.bl hb21;replace qb := qb.bl hb21;replace qa5_12 := qa5_12.bl hb21;replace qa6_12 := qa6_12.bl hb21;replace hgx := gw_below hgx hb21;replace hu1 := own_below hu1 hb21 (Nat.le_refl _);replace hu2 := own_below hu2 hb21 (Nat.le_refl _);replace hst := own_below hst hb21 (Nat.le_refl _);clear hb21 hg21 hl21;have hmo := own_empty (base := 0) 2 q21 (Nat.zero_le _);have hmof : ∀ b_, (Value.slice (some ⟨g21, 0, none⟩) 0 0).ownBlock = some b_ → wk.heap.size ≤ b_ := slice_fr bx21;refine EL.mv rfl rfl ?_;have hgz := hgx.size;refine EL.push rk_elem rfl rfl hmo (Rd.of_own (hTk.type qbk rfl rfl rfl hgx).own) (rksC_one _) (by omega) rfl (Nat.zero_le _) rfl ?_
          intro v22 w22 hmo2 hgr _ hat;have hmnf := ne_push n11_21 qa6_12 hat;replace q1 := q1.gr hgr n1_21;replace q2 := q2.gr hgr n2_21;replace qb := qb.gr hgr n0_21;replace qa5_12 := qa5_12.gr hgr n10_21;replace qa6_12 := qa6_12.gr hgr n11_21;replace hgx := gw_row hgx hgr hmof;replace hu1 := own_grown hu1 hmo rfl hgr;replace hu2 := own_grown hu2 hmo rfl hgr;replace hst := own_grown hst hmo rfl hgr;have hmog := fr_push hmof hat hgz;clear hmof hmo hgr hat;have hmof := hmog;clear hmog;have hmo := hmo2;clear hmo2;rw [Nat.zero_add, List.nil_append] at hmo;obtain ⟨gm, cm, rfl⟩ := own_slice_v hmo (by omega)
          have hmne := hmnf gm rfl;refine EL.as rfl rfl (EL.nil (EX.seq (EC.seq ?_)));have hmn : ga6_12 ≠ gm := hmne;have hrz := hrk.below (gw_B hgx hBg hBk);have hBz := Nat.le_trans hBk hgx.size;obtain ⟨bj, oj, ej, _, hjc⟩ := ints_cells (jsI js) p.steps.length (by rw [jsI_len]; exact hlt) w22 B _ _ _ (hvk.below (gw_B hgx hBg hBk))
          rw [jsI_at hlt, ← ecg] at hjc;have lt_1 := q1.lt;have lt_2 := q2.lt;have lt_0 := qb.lt;have lt_10 := qa5_12.lt;have lt_11 := qa6_12.lt;refine EC.regionP [[], [], [], [], [], [], [4, 5], [4, 5, 6], [4, 5, 6, 7], [2, 3, 4, 5, 6, 7, 8], [0, 1, 2, 3, 4, 5, 6, 7, 8, 9], [0, 1, 2, 3, 4, 5, 6, 7, 8, 9, 10]] 10 [] (phi (fun i_ r => match i_ with | 0 => r 0 = .slice (some ⟨gm, 0, none⟩) us.length cm | 1 => r 1 = .int .i64 (i : Nat) | 2 => r 2 = .agg #[.slice Al ru.levels.length cl, .int .i64 ru.fade.lo, .int .i64 ru.fade.hi, .slice Aa ru.allow.length ca, .slice Ap ru.apart.length cp, .slice Ak ru.kinds.length ck] | 3 => r 3 = .agg #[.slice V1 ru.levels.length f1, .slice V2 ru.levels.length f2] | 4 => r 4 = .slice Aj js.length cj | 5 => r 5 = .int .i64 (p.steps.length : Nat) | 6 => r 6 = .pointer (some ⟨bj, oj + p.steps.length, none⟩) | 7 => r 7 = .int .i64 (cg : Nat) | 8 => r 8 = .agg #[.int .i64 1, .int .i64 (cg : Nat)] | _ => True) [(9, fun r w_ => ∃ A1 c1 A2 c2, r 9 = .agg #[.slice A1 ru.levels.length c1, .slice A2 ru.levels.length c2] ∧ w_.ownsRow 0 24 2 (.slice A1 ru.levels.length c1) ru.levels.length (bdsC (loadR ru (wayR ru u k) cg).res) ∧ w_.ownsRow 0 3 1 (.slice A2 ru.levels.length c2) ru.levels.length (ints (loadR ru (wayR ru u k) cg).aft))]) (by kernel_rfl) rfl rfl (phi_cons mono_rt (phi_nil)) (fun i_ hi_ => ?_) ?_
          ·match i_, hi_ with
           | 0, _ =>
            intro val w1 a hb ha hd;have ha := ha.s0 (d := 17) rfl
            exact hs_val ha rfl rfl (x_move rfl) rfl rfl
           | 1, _ =>
            intro val w1 a hb ha hd;have ha := ha.s0 (d := 11) rfl
            exact hs_val ha rfl rfl (x_move rfl) rfl rfl
           | 2, _ =>
            intro val w1 a hb ha hd;have ha := ha.s0 (d := 5) rfl
            exact hs_val ha rfl rfl (ld_28 rfl ((q1.below hb q1.lt).at (j := 0) rfl) ((q1.below hb q1.lt).at (j := 1) rfl) ((q1.below hb q1.lt).at (j := 2) rfl) ((q1.below hb q1.lt).at (j := 3) rfl) ((q1.below hb q1.lt).at (j := 4) rfl) ((q1.below hb q1.lt).at (j := 5) rfl)) rfl rfl
           | 3, _ =>
            intro val w1 a hb ha hd;have ha := ha.s0 (d := 14) rfl
            exact hs_val ha rfl rfl (ld_62 rfl ((qa6_12.below hb qa6_12.lt).at (j := 0) rfl) ((qa6_12.below hb qa6_12.lt).at (j := 1) rfl)) rfl rfl
           | 4, _ =>
            intro val w1 a hb ha hd;have ha := ha.s0 (d := 2) rfl
            exact hs_val ha rfl rfl (x_move rfl) rfl rfl
           | 5, _ =>
            intro val w1 a hb ha hd;have ha := ha.s0 (d := 10) rfl
            exact hs_val ha rfl rfl (x_move rfl) rfl rfl
           | 6, _ =>
            intro val w1 a hb ha hd;have e4 : val 4 = _ := hd 4 (memB_mem.1 rfl);have e5 : val 5 = _ := hd 5 (memB_mem.1 rfl);have ha := ha.s2 (d := 144) (e := 143) rfl e5 rfl e4
            exact hs_val ha rfl rfl (ix_22 (by show some (Value.slice Aj _ _) = _; rw [ej]) rfl hlt) rfl rfl
           | 7, _ =>
            intro val w1 a hb ha hd;have e6 : val 6 = _ := hd 6 (memB_mem.1 rfl);have ha := ha.s1 (d := 145) rfl e6
            exact hs_val ha rfl rfl (ld_3 rfl (below_load hb hjc)) rfl rfl
           | 8, _ =>
            intro val w1 a hb ha hd;have e7 : val 7 = _ := hd 7 (memB_mem.1 rfl);have ha := ha.s1 (d := 146) rfl e7
            exact hs_val ha rfl rfl (bd_50_0_1 rfl rfl) rfl rfl
           | 9, _ =>
            intro val w1 a hb ha hd;have e2 : val 2 = _ := hd 2 (memB_mem.1 rfl);have e3 : val 3 = _ := hd 3 (memB_mem.1 rfl);have e8 : val 8 = _ := hd 8 (memB_mem.1 rfl);have ha := ha.sub (Sub.ins (d := 147) (Sub.ins (d := 142) (Sub.ins (d := 141) (Sub.nil _) (dep_get rfl e2)) (dep_get rfl e3)) (dep_get rfl e8));refine hs_call ha rfl rfl (cA3 cF58 rfl rfl rfl) (Step_any (x := ⟨1, ((cg : Nat) : Int)⟩) (hrz.below (hb.mono hBz)) (Nat.le_trans hBz hb.size) hro hway (by omega) (Rd.of_own (own_below hu1 hb (Nat.le_refl _))) (Rd.of_own (own_below hu2 hb (Nat.le_refl _))) (Nat.le_refl _) (ev_load hcg)) rfl ?_
            rintro e w' ⟨⟨B1, d1, B2, d2, rfl, p1, p2⟩, hb'⟩
            exact ⟨_, rfl, hb', ⟨B1, d1, B2, d2, rfl, own_less p1 (Nat.zero_le _), own_less p2 (Nat.zero_le _)⟩⟩
           | k + 10, h => exact absurd h (by omega)
          ·intro val wR20 hb halc hd
           have e0 : val 0 = _ := hd 0 (by omega)
           have e1 : val 1 = _ := hd 1 (by omega)
           have e2 : val 2 = _ := hd 2 (by omega)
           have e3 : val 3 = _ := hd 3 (by omega)
           have e4 : val 4 = _ := hd 4 (by omega)
           have e5 : val 5 = _ := hd 5 (by omega)
           have e6 : val 6 = _ := hd 6 (by omega)
           have e7 : val 7 = _ := hd 7 (by omega)
           have e8 : val 8 = _ := hd 8 (by omega)
           obtain ⟨X1, y1, X2, y2, e9, ho1, ho2⟩ := hd 9 (by omega)
           refine EL.ends (cs := [_, _, _, _, _, _, _, _, _, _]) ⟨e0, e1, e2, e3, e4, e5, e6, e7, e8, e9, trivial⟩ rfl ?_;replace q1 := q1.bl hb;replace q2 := q2.bl hb;replace qb := qb.bl hb;replace qa5_12 := qa5_12.bl hb;replace qa6_12 := qa6_12.bl hb;replace hgx := gw_below hgx hb;replace hu1 := own_below hu1 hb (Nat.le_refl _);replace hu2 := own_below hu2 hb (Nat.le_refl _);replace hst := own_below hst hb (Nat.le_refl _);replace hmo := own_below hmo hb (Nat.le_refl _);clear hb;refine EL.val (ix_64 rfl rfl hlti) rfl ?_;refine EL.storeRow (l' := rkC ru.levels.length ((loadR ru (wayR ru u k) cg), (X1, y1), (X2, y2))) rfl rfl hmo sz_62 rfl rfl (by rw [rksC_len, Nat.zero_add]; omega) rfl ?_
           intro w23 hmo2 hgr;rw [Nat.zero_add, rks_set hlti] at hmo2;replace q1 := q1.grown hgr (fun h => row_ne2 hmo q1 rfl (Option.some.inj h))
           replace q2 := q2.grown hgr (fun h => row_ne2 hmo q2 rfl (Option.some.inj h))
           replace qb := qb.grown hgr (fun h => row_ne2 hmo qb rfl (Option.some.inj h))
           replace qa5_12 := qa5_12.grown hgr (fun h => row_ne2 hmo qa5_12 rfl (Option.some.inj h))
           replace qa6_12 := qa6_12.gr hgr hmn;replace hgx := gw_row hgx hgr (fun b_ e_ => hmof b_ e_)
           replace hst := own_grown hst hmo rfl hgr;replace ho1 := own_grown ho1 hmo rfl hgr;replace ho2 := own_grown ho2 hmo rfl hgr;clear hmo hgr;have hmo := hmo2;clear hmo2 hu1 hu2;refine EL.nil (EX.seq (EC.region (EL.val (ld_28 rfl (q1.at (j := 0) rfl) (q1.at (j := 1) rfl) (q1.at (j := 2) rfl) (q1.at (j := 3) rfl) (q1.at (j := 4) rfl) (q1.at (j := 5) rfl)) rfl (EL.mv rfl rfl (EL.mv rfl rfl (EL.val (ld_67 rfl (qa5_12.at (j := 0) rfl) (qa5_12.at (j := 1) rfl) (qa5_12.at (j := 2) rfl) (qa5_12.at (j := 3) rfl) (qa5_12.at (j := 4) rfl)) rfl (EL.mv rfl rfl ?_)))))));have hTn : OwnTs w23 ru.levels.length (.slice (some ⟨gm, 0, none⟩) us.length cm) (us.set i ((loadR ru (wayR ru u k) cg), (X1, y1), (X2, y2))) := own_set (hTk.type qbk rfl rfl rfl hgx) (by rw [List.length_set]; exact hmo) ho1 ho2
           have hSn : stsAt w23 (addS p ⟨i, k⟩ (numK k) (kcost ru k)).steps Ast2 cst2 := by unfold stsAt addS; dsimp only; rw [List.length_append, stsC_app]; exact hst
           have hbn : BestM w23 gb av := ⟨A, c, qb, own_type hbs qbk rfl hgx⟩;have hca := IHr (hrk.below (gw_B hgx hBg hBk)) (hvk.below (gw_B hgx hBg hBk)) hBg (Nat.le_trans hBk hgx.size) hTn (by rw [List.length_set]; exact hl3) (m := m + 2) (ok_set (fun x hx => (hok x hx).more (by omega)) (load_rt hro hway hcg)) (p := addS p ⟨i, k⟩ (numK k) (kcost ru k)) (by rw [addS_len]; omega) (by rw [addS_len, erm]) (by rw [addS_len]; omega) (by rw [addS_len]; exact addS_ok hro hp i k) hSn hbn
           rw [List.length_set, addS_len] at hca;refine EL.call (cA5 cF59 rfl rfl rfl rfl rfl) rfl hca ?_
           rintro e w24 ⟨rfl, hgr, hbm⟩
           refine ⟨_, rfl, ?_⟩;replace q1 := q1.gr hgr n0_1.symm;replace q2 := q2.gr hgr n0_2.symm;replace qa5_12 := qa5_12.gr hgr n0_10.symm;replace qa6_12 := qa6_12.gr hgr n0_11.symm;replace hgx := grown_two hgx hgr;clear qb hca;refine EL.nil (EX.blk (EX.seq (EC.region (EL.mv rfl rfl ?_))));refine EL.val (x_add rfl rfl (c := k + 1) (IntWalk.i64_in _ ⟨by omega, by omega⟩)) rfl ?_
           refine EL.as rfl rfl (EL.nil ?_);refine EX.roundD (kk + 1) ⟨agree_i (by omega) rfl, trivial⟩ (by repeat first | with_reducible exact .refl _ | refine sp_ rfl ?_ | exact .refl _ | refine sd_ rfl ?_ | refine sn_ ?_) ⟨hltk, by rw [acc_yes hltk ek (s := (us.map (·.1)).set i (loadR ru (wayR ru u k) cg)) (by unfold goR; rw [eui, if_pos hmay]), ← eav]; rw [List.map_set] at hbm; simpa [List.length_map] using hbm, q1, q2, grown_two hgw hgx⟩ (by omega)
     ·
      have hxk : kk = (ru.kinds.length + 1) := by omega
      have hbm2 : BestM wk gb (accR ru (us.map (·.1)) cg rem p a1 (i + 1) 0) := by rw [hxk] at hbm; rw [acc_next]; exact hbm
      clear hbm;have hbm := hbm2;clear hbm2;refine EC.seq (EC.seq (EC.region (EL.mv rfl rfl (EL.val (fa_28_4 rfl) rfl (EL.val (ld_26 rfl (q1.at (j := 5) rfl)) rfl (EL.val (ln_26 rfl) rfl ?_))))));refine EL.val (x_lss (r := false) rfl rfl (decide_eq_false (by omega))) rfl ?_
      refine EL.nil (EX.seq (EC.no rfl (EC.exit (EX.seq_exit (EX.seq_exit (EX.blk_here (EX.blk (EX.seq (EC.region ?_)))))))));refine EL.mv rfl rfl ?_;refine EL.val (x_add rfl rfl (c := ((i + 1 : Nat) : Int)) ((IntWalk.i64_in _ ⟨by first | omega | (simp only; omega), by first | omega | (simp only; omega)⟩).trans (by first | omega | (simp only; omega)))) rfl ?_
      refine EL.as rfl rfl (EL.nil ?_);refine EX.roundD (i + 1) ⟨rfl, trivial⟩ (by repeat first | with_reducible exact .refl _ | refine sp_ rfl ?_ | exact .refl _ | refine sd_ rfl ?_ | refine sn_ ?_) ⟨hlti, hbm, q1, q2, hgw⟩ (by omega)
    ·
     have hxe : i = us.length := by omega
     refine EC.seq (EC.seq (EC.region (EL.mv rfl rfl (EL.mv rfl rfl (EL.val (ln_64 rfl) rfl ?_)))));refine EL.val (x_lss rfl rfl (decide_eq_false (show ¬(((i : Nat) : Int) < ((us.length : Nat) : Int)) by omega))) rfl ?_
     refine EL.nil (EX.seq (EC.no rfl (EC.exit (EX.seq_exit (EX.seq_exit (EX.blk_here ?_))))));have hlm : us.length = (us.map (·.1)).length := by rw [List.length_map]
     rw [hxe, hlm, ea1, acc_end hwo] at hbm
     exact EX.done' (v := .tuple #[]) (res0 rfl) ⟨rfl, hgw, by rw [hrm, hlm]; exact hbm⟩
  ·
   have hwo : worse b.1 p = true := by rw [← hx]
   refine EC.yes rfl (EC.ret (EX.seq_ret ?_))
   exact EX.done (v := .tuple #[]) (res0 rfl) ⟨rfl, hgw, by rw [try_worse hwo]; exact ⟨A, c, qb, own_type hbs qb0 rfl hgw⟩⟩
section
variable {n : Nat} {σ : Sg} {w : World} {dst : Option Tmp} {ty : TypeId} {pos : String} {af : Array Edge} {g : Option (Nat × Bool)} {x y z : Operand} {at' : Array TypeId}
theorem bd_67_    : Gives Try.prog n σ w ⟨dst, .build 67 #[], ty, pos, af, g⟩ (.agg #[.bool false, .slice none 0 0, .int .i64 0, .int .i64 0, .int .i64 0]) := fun a _ => by
 simp only [execOp, List.map_toArray, List.map_nil]
 go_simp
theorem lv_67 {b o : Nat} {v0 v1 v2 v3 v4 : Value} (c0 : w.cell? ⟨b, o, none⟩ = some v0) (c1 : w.cell? ⟨b, o + 1, none⟩ = some v1) (c2 : w.cell? ⟨b, o + 2, none⟩ = some v2) (c3 : w.cell? ⟨b, o + 3, none⟩ = some v3) (c4 : w.cell? ⟨b, o + 4, none⟩ = some v4) : (loadVar 67 ⟨b, o, none⟩).run Try.prog w = .ok (.agg #[v0, v1, v2, v3, v4]) w := by
 simp [go_sem, loadVar, c0, c1, c2, c3, c4]
end
theorem try_any {ru : Rules} (hro : RulesOk ru) {js : List Nat} (hjs : ∀ i, i < js.length → js.getD i 0 < ru.levels.length) (hj10 : js.length ≤ 10) : ∀ rem, TrySpec ru js rem := fun rem => by
 induction rem with
 | nil => exact @try_step ru hro js hjs hj10 [] (fun c rem h => by cases h)
 | cons d rem ih => exact @try_step ru hro js hjs hj10 (d :: rem) (fun c rem' h => by injection h with h1 h2; subst h2; exact @ih)
set_option maxHeartbeats 1000000 in
theorem rFleet_any {ru : Rules} {ua up : List Value} {vl va vp vk : Value} {w : World} {B : Nat} (hr : RdRules w B vl va vp vk ru ua up) (hB : B ≤ w.heap.size) (hro : RulesOk ru) {js : List Nat} (hjs : ∀ i, i < js.length → js.getD i 0 < ru.levels.length) (hj10 : js.length ≤ 10) {us : List Tk} {vt : Value} (hT : OwnTs w ru.levels.length vt us) (hl3 : us.length ≤ 3) {m : Nat} (hok : ∀ x ∈ us, RtOk ru.levels.length m x.1) (hm : m ≤ 900) {vj : Value} (hv : Rd w B 1 vj js.length (ints (jsI js))) :
  Calls Try.prog 28 #[rulesV vl va vp vk ru, vt, vj] w fun e w' => (∃ A c, e = .returned (.agg #[.bool (bestR ru js (us.map (·.1))).1.isSome, .slice A (bp (bestR ru js (us.map (·.1)))).steps.length c, .int .i64 (bp (bestR ru js (us.map (·.1)))).washes, .int .i64 (bp (bestR ru js (us.map (·.1)))).cost, .int .i64 ((bestR ru js (us.map (·.1))).2 : Nat)]) ∧ stsAt w' (bp (bestR ru js (us.map (·.1)))).steps A c) ∧ Below w.heap.size w w' := by
 obtain ⟨Al, cl, Aa, ca, Ap, cp, Ak, ck, rfl, rfl, rfl, rfl⟩ := hr.sh4;obtain ⟨Aj, cj, rfl, _⟩ := hv.shape;obtain ⟨At, ct, rfl, _⟩ := (Rd.of_own hT.own).shape;have hbw := Below.refl w.heap.size w
 unfold rulesV
 refine EC.enter 15 Try.func28 rfl rfl rfl (EC.seq (EC.region (EL.newP (bx_28 rfl) rfl ?_)));intro g1 w1 q1 hb1 hg1 hl1;have bhbw_1 := Nat.le_trans hbw.size hg1;replace hbw := bo_ hbw hb1;clear hb1 hg1 hl1;refine EL.newP al_67 rfl ?_;intro g2 w2 q2 hb2 hg2 hl2;have n1_2 := q1.na hg2;have bhbw_2 := Nat.le_trans hbw.size hg2;replace q1 := q1.bl hb2;replace hbw := bo_ hbw hb2;clear hb2 hg2 hl2;refine EL.nil (EX.seq (EC.seq (EC.region (EL.val (bd_67_) rfl (EL.newP al_67 rfl ?_)))));intro g3 w3 q3 hb3 hg3 hl3;have n1_3 := q1.na hg3;have n2_3 := q2.na hg3;have bhbw_3 := Nat.le_trans hbw.size hg3;replace q1 := q1.bl hb3;replace q2 := q2.bl hb3;replace hbw := bo_ hbw hb3;clear hb3 hg3 hl3;refine EL.store rfl rfl q3 sz_67 rfl rfl rfl rfl ?_;intro w4 hq4 hg4;replace q1 := q1.gr hg4 n1_3;replace q2 := q2.gr hg4 n2_3;replace hbw := below_store hbw hg4 bhbw_3;replace q3 := hq4;clear hg4 hq4;refine EL.nil (EX.seq (EC.seq (EC.region (EL.val (ld_28 rfl (q1.at (j := 0) rfl) (q1.at (j := 1) rfl) (q1.at (j := 2) rfl) (q1.at (j := 3) rfl) (q1.at (j := 4) rfl) (q1.at (j := 5) rfl)) rfl (EL.mv rfl rfl (EL.mv rfl rfl (EL.val (bd_67_) rfl ?_)))))));have hbn : BestM w4 g3 ((none, 0) : Option Pl × Nat) := ⟨none, 0, q3, World.ownsRow_nil _ _ _ _⟩;have hge : B ≤ g3 := Nat.le_trans hB bhbw_3;have hca := @try_any ru hro js hjs hj10 js _ _ _ _ _ _ _ _ (hr.below (hbw.mono hB)) _ (hv.below (hbw.mono hB)) g3 hge (Nat.le_trans hB hbw.size) us _ (hT.below hbw) hl3 m hok pl0 (Nat.zero_le _) rfl (show m + 2 * (js.length - 0) ≤ 1000 by omega) ⟨rfl, Int.le_refl _, Int.le_refl _, Int.le_refl _, Int.le_refl _⟩ none 0 (World.ownsRow_nil _ _ _ _) _ hbn
 rw [show tryR (extY (yardR ru us.length)) js ((us.map (·.1)), pl0) (none, 0) = (bestR ru js (us.map (·.1))) by unfold bestR; rw [List.length_map]] at hca
 obtain ⟨bv, ebv⟩ : ∃ z, z = (bestR ru js (us.map (·.1))) := ⟨_, rfl⟩;rw [← ebv] at hca;refine EL.call (cA5 cF59 rfl rfl rfl rfl rfl) rfl hca ?_
 rintro e w5 ⟨rfl, hgr, A, c, q3n, hst⟩
 refine ⟨_, rfl, ?_⟩
 unfold bestC at q3n
 replace q1 := q1.gr hgr n1_3;replace q2 := q2.gr hgr n2_3;replace hbw := below_store hbw hgr bhbw_3;clear q3 hgr hca hbn;have q3 := q3n;clear q3n;refine EL.nil (EX.seq (EC.seq (EC.region (EL.val (ld_67 rfl (q3.at (j := 0) rfl) (q3.at (j := 1) rfl) (q3.at (j := 2) rfl) (q3.at (j := 3) rfl) (q3.at (j := 4) rfl)) rfl (EL.store rfl rfl q2 sz_67 rfl rfl rfl rfl ?_)))));intro w6 hq6 hg6;replace q1 := q1.gr hg6 n1_2;replace q3 := q3.gr hg6 n2_3.symm;replace hst := own_type hst q2 rfl hg6;replace hbw := below_store hbw hg6 bhbw_2;replace q2 := hq6;clear hg6 hq6;refine EL.nil (EX.seq (EC.ret ?_))
 exact EX.done (resc1 rfl rfl (lv_67 (q2.at (j := 0) rfl) (q2.at (j := 1) rfl) (q2.at (j := 2) rfl) (q2.at (j := 3) rfl) (q2.at (j := 4) rfl))) ⟨⟨A, c, by rw [← ebv], by rw [← ebv]; exact hst⟩, hbw⟩
theorem many_any (tn : Int) {kn : Int} (hk0 : 0 ≤ kn) (hk : kn ≤ 1000) {jn : Nat} (hj : jn ≤ 1000000) (w : World) :
  Calls Try.prog 22 #[.int .i64 tn, .int .i64 kn, .int .i64 (jn : Nat)] w fun e w' => (∃ v, e = .returned (.int .i64 v)) ∧ Below w.heap.size w w' := by
 have hbw := Below.refl w.heap.size w;refine EC.enter 25 Try.func22 rfl rfl rfl (EC.seq (EC.region (EL.as rfl rfl (EL.nil (EX.seq (EC.seq (EC.region (EL.as rfl rfl (EL.nil ?_)))))))));refine EX.seq (EC.seq (EC.seq (EC.region (EL.as rfl rfl (EL.nil (EX.seq (EC.block ?_)))))));refine EC.loopD [7, 8, 9, 10, 11, 12, 13, 14, 15, 16, 17, 18, 19, 20, 21, 22, 23] (fun x : Nat × Int => [(8, .int .i64 (x.1 : Nat)), (7, .int .i64 x.2)]) (fun x W => x.1 ≤ jn ∧ Below w.heap.size w W) (fun x => jn - x.1) (0, 1) ⟨Nat.zero_le _, hbw⟩ ⟨rfl, rfl, trivial⟩ ?_
 clear hbw
 rintro ⟨i, nv⟩ wx ⟨hi, hbw⟩
 dsimp only at hi
 by_cases hlt : i < jn
 ·
  by_cases hle : nv ≤ 60000
  ·
   refine EC.seq (EC.seq (EC.region (EL.mv rfl rfl (EL.mv rfl rfl ?_))));refine EL.val (x_lss rfl rfl (decide_eq_true (show (((i : Nat) : Int) < ((jn : Nat) : Int)) by omega))) rfl ?_
   refine EL.mv rfl rfl (EL.mg rfl rfl rfl rfl (EL.valg rfl rfl (x_leq (r := true) rfl rfl (decide_eq_true hle)) rfl (EL.pt rfl rfl rfl (EL.nil (EX.seq (EC.yes rfl (EC.skip (EX.seq (EC.seq ?_)))))))));refine EC.block (EC.region (EL.mv rfl rfl (EL.mv rfl rfl (EL.val (x_mul rfl rfl (c := IntKind.i64.wrap (nv * tn)) rfl) rfl (EL.mv rfl rfl ?_)))));refine EL.val (x_add rfl rfl (c := kn + 1) (IntWalk.i64_in _ ⟨by omega, by omega⟩)) rfl ?_
   refine EL.val (x_mul rfl rfl (c := IntKind.i64.wrap (IntKind.i64.wrap (nv * tn) * (kn + 1))) rfl) rfl (EL.as rfl rfl (EL.nil (EX.blk (EX.seq (EC.region (EL.mv rfl rfl ?_))))));refine EL.val (x_add rfl rfl (c := ((i + 1 : Nat) : Int)) ((IntWalk.i64_in _ ⟨by first | omega | (simp only; omega), by first | omega | (simp only; omega)⟩).trans (by first | omega | (simp only; omega)))) rfl ?_
   refine EL.as rfl rfl (EL.nil ?_);refine EX.roundD (i + 1, _) ⟨rfl, rfl, trivial⟩ (by repeat first | with_reducible exact .refl _ | refine sp_ rfl ?_ | exact .refl _ | refine sd_ rfl ?_ | refine sn_ ?_) ⟨hlt, hbw⟩ (by simp only; omega)
  ·
   refine EC.seq (EC.seq (EC.region (EL.mv rfl rfl (EL.mv rfl rfl ?_))));refine EL.val (x_lss rfl rfl (decide_eq_true (show (((i : Nat) : Int) < ((jn : Nat) : Int)) by omega))) rfl ?_
   refine EL.mv rfl rfl (EL.mg rfl rfl rfl rfl (EL.valg rfl rfl (x_leq (r := false) rfl rfl (decide_eq_false hle)) rfl (EL.pt rfl rfl rfl (EL.nil (EX.seq (EC.no rfl (EC.exit (EX.seq_exit (EX.seq_exit ?_)))))))));refine EX.blk_here (EX.seq (EC.seq (EC.region (EL.mv rfl rfl (EL.as rfl rfl (EL.nil (EX.seq (EC.ret ?_))))))))
   exact EX.done (res1 rfl rfl) ⟨⟨_, rfl⟩, hbw⟩
 ·
  refine EC.seq (EC.seq (EC.region (EL.mv rfl rfl (EL.mv rfl rfl ?_))));refine EL.val (x_lss rfl rfl (decide_eq_false (show ¬(((i : Nat) : Int) < ((jn : Nat) : Int)) by omega))) rfl ?_
  refine EL.mv rfl rfl (EL.skip rfl rfl rfl rfl (EL.skip rfl rfl rfl rfl (EL.pf rfl rfl rfl (EL.nil (EX.seq (EC.no rfl (EC.exit (EX.seq_exit (EX.seq_exit ?_)))))))));refine EX.blk_here (EX.seq (EC.seq (EC.region (EL.mv rfl rfl (EL.as rfl rfl (EL.nil (EX.seq (EC.ret ?_))))))))
  exact EX.done (res1 rfl rfl) ⟨⟨_, rfl⟩, hbw⟩
structure Stp where
 tank : Int
 wash : Int
def stp0 : Stp := ⟨0, 0⟩
def stpC (x : Stp) : List Value := [.int .i64 x.tank, .int .i64 x.wash]
def stpsC (l : List Stp) : List Value := l.flatMap stpC
theorem stpC_len (x : Stp) : (stpC x).length = 2 := rfl
theorem stpsC_len (l : List Stp) : (stpsC l).length = l.length * 2 := flat_len stpC_len l
theorem stpsC_one (l : List Stp) : ∀ u ∈ stpsC l, u.oneCell' = true := flat_one (by intro x u hu; simp [stpC] at hu; rcases hu with rfl | rfl <;> rfl) l
theorem stps_cells (l : List Stp) (k : Nat) (hk : k < l.length) (w : World) (B : Nat) (A : Option Addr) (n c : Nat) (hr : Rd w B 2 (.slice A n c) n (stpsC l)) :
  ∃ b off, A = some ⟨b, off, none⟩ ∧ b < B ∧ w.cell? ⟨b, off + k * 2, none⟩ = some (.int .i64 (l.getD k stp0).tank) ∧ w.cell? ⟨b, off + k * 2 + 1, none⟩ = some (.int .i64 (l.getD k stp0).wash) := by
 have hl : n * 2 = l.length * 2 := by rw [← hr.len, stpsC_len]
 obtain ⟨b, off, rfl, hb, hc⟩ := hr.at_ (by omega)
 have e : l.getD k stp0 = l[k] := by simp [hk]
 rw [e];have g := fun j hj => flat_get stpC_len l k hk j hj
 exact ⟨b, off, rfl, hb, hc (k * 2) _ (g 0 (by omega)), hc (k * 2 + 1) _ (g 1 (by omega))⟩
/-- a step is valid -/
def stB (ru : Rules) (many : Nat) (x : Stp) : Bool := inB 0 ((many : Nat) - 1 : Int) x.tank && inB (-1) ((ru.kinds.length : Nat) - 1 : Int) x.wash
theorem stB_iff {ru : Rules} {many : Nat} {x : Stp} (h : stB ru many x = true) : ∃ n : Nat, x.tank = ((n : Nat) : Int) ∧ n < many ∧ x.wash ∈ kindsL ru.kinds.length := by
 unfold stB at h
 rw [Bool.and_eq_true, inB_iff, inB_iff] at h;refine ⟨x.tank.toNat, by omega, by omega, ?_⟩
 unfold kindsL
 by_cases hk : x.wash = -1
 ·rw [hk]; exact List.mem_cons_self ..
 ·exact List.mem_cons.2 (.inr (List.mem_map.2 ⟨x.wash.toNat, List.mem_range.2 (by omega), by omega⟩))
/-- steps are carried out: the first cargo that must not be carried, or -1; the cleanings and their cost -/
def verG {σ : Type} (go : Nat → σ → Nat → Int → Option σ) (cost : Int → Int) : List Nat → List Stp → Nat → σ → Int → Int → Int × Int × Int
 | c :: js, x :: xs, i, s, wa, co => match go c s x.tank.toNat x.wash with
  | none => (((i : Nat) : Int), 0, 0)
  | some s' => verG go cost js xs (i + 1) s' (wa + numK x.wash) (co + cost x.wash)
 | _, _, _, _, wa, co => (-1, wa, co)
section
variable {σ : Type} {go : Nat → σ → Nat → Int → Option σ} {cost : Int → Int} {js : List Nat} {xs : List Stp} {i : Nat} {s : σ} {wa co : Int}
theorem ver_end (h : js.length ≤ i) : verG go cost (js.drop i) (xs.drop i) i s wa co = (-1, wa, co) := by
 rw [List.drop_of_length_le h];rw [verG]
 simp
theorem ver_no (h1 : i < js.length) (h2 : i < xs.length) (hg : go (js.getD i 0) s (xs.getD i stp0).tank.toNat (xs.getD i stp0).wash = none) : verG go cost (js.drop i) (xs.drop i) i s wa co = (((i : Nat) : Int), 0, 0) := by
 rw [List.drop_eq_getElem_cons h1, List.drop_eq_getElem_cons h2, verG, ← getD_in (d := 0) h1, ← getD_in (d := stp0) h2, hg]
theorem ver_yes (h1 : i < js.length) (h2 : i < xs.length) {s' : σ} (hg : go (js.getD i 0) s (xs.getD i stp0).tank.toNat (xs.getD i stp0).wash = some s') : verG go cost (js.drop i) (xs.drop i) i s wa co = verG go cost (js.drop (i + 1)) (xs.drop (i + 1)) (i + 1) s' (wa + numK (xs.getD i stp0).wash) (co + cost (xs.getD i stp0).wash) := by
 rw [List.drop_eq_getElem_cons h1, List.drop_eq_getElem_cons h2, verG, ← getD_in (d := 0) h1, ← getD_in (d := stp0) h2, hg]
end
theorem simGo {ru : Rules} (hro : RulesOk ru) {many : Nat} {s : List (List Tr)} {us : List RT} (h : SimF ru many s us) {c i : Nat} {k : Int} (hc : c < ru.levels.length) (hi : i < many) (hk : k ∈ kindsL ru.kinds.length) :
  (goT ru c s i k = none ∧ goR ru c us i k = none) ∨ ∃ s' us', goT ru c s i k = some s' ∧ goR ru c us i k = some us' ∧ SimF ru many s' us' := by
 have hw := way_sim hro hk (h.at_ i hi);have hm := mayR_sim hro hw (c := c) ru.levels.length (Nat.le_refl _)
 unfold goT goR
 rw [hm]
 by_cases hmay : (mayT ru (wayT ru (s.getD i []) k) c ru.levels.length).1 = true
 ·rw [if_pos hmay, if_pos hmay]
  have hn3 := h.n3;have hnu := h.nu;refine .inr ⟨_, _, rfl, rfl, by rw [List.length_set]; exact hn3, by rw [List.length_set]; exact hnu, fun j hj => ?_⟩
  rw [getD_setR (by omega), getD_setR (by omega)]
  by_cases hij : i = j
  ·rw [if_pos hij, if_pos hij]; exact load_sim hro hc hw
  ·rw [if_neg hij, if_neg hij]; exact h.at_ j hj
 ·rw [if_neg hmay, if_neg hmay]
  exact .inl ⟨rfl, rfl⟩
theorem ver_sim {ru : Rules} (hro : RulesOk ru) {many : Nat} {cost : Int → Int} : ∀ (js : List Nat) (xs : List Stp), (∀ c ∈ js, c < ru.levels.length) → xs.all (stB ru many) = true → ∀ (i : Nat) (s : List (List Tr)) (us : List RT) (wa co : Int), SimF ru many s us →
  verG (goT ru) cost js xs i s wa co = verG (goR ru) cost js xs i us wa co
 | [], _, _, _, _, _, _, _, _, _ => by rw [verG, verG] <;> simp
 | c :: js, [], _, _, _, _, _, _, _, _ => by rw [verG, verG] <;> simp
 | c :: js, x :: xs, hjs, hxs, i, s, us, wa, co, h => by
  rw [List.all_cons, Bool.and_eq_true] at hxs;obtain ⟨n, e, hn, hk⟩ := stB_iff hxs.1;have e2 : x.tank.toNat = n := by omega
  rw [verG, verG, e2]
  rcases simGo hro h (hjs c (List.mem_cons_self ..)) hn hk with ⟨h1, h2⟩ | ⟨s', us', h1, h2, h3⟩
  ·rw [h1, h2]
  ·rw [h1, h2]
   exact ver_sim hro js xs (fun d hd => hjs d (List.mem_cons_of_mem _ hd)) hxs.2 _ _ _ _ _ h3
def verE (ru : Rules) (tanks : List (List Ev)) (jobs : List Int) (steps : List Stp) : Int :=
 if yardE ru tanks jobs ≠ 0 then yardE ru tanks jobs else if steps.length ≠ jobs.length then 4 else if steps.all (stB ru tanks.length) = true then 0 else 2
def verT (ru : Rules) (tanks : List (List Ev)) (jobs : List Int) (steps : List Stp) : Int × Int × Int :=
 if verE ru tanks jobs steps = 0 then verG (goT ru) (kcost ru) (jobs.map Int.toNat) steps 0 (fillF ru tanks tanks.length) 0 0 else (0, 0, 0)
theorem ver_t {ru : Rules} {tanks : List (List Ev)} {jobs : List Int} {steps : List Stp} {a b c e : Int} (he : verE ru tanks jobs steps = e) (ht : verT ru tanks jobs steps = (a, b, c)) : Ending.returned (.tuple #[.int .i64 a, .int .i64 b, .int .i64 c, .int .i64 e]) = .returned (.tuple #[.int .i64 (verT ru tanks jobs steps).1, .int .i64 (verT ru tanks jobs steps).2.1, .int .i64 (verT ru tanks jobs steps).2.2, .int .i64 (verE ru tanks jobs steps)]) := by rw [he, ht]
theorem set_self {α : Type} {l : List α} {i : Nat} {d : α} (h : i < l.length) : l.set i (l.getD i d) = l := by
 apply List.ext_getElem
 ·simp
 ·intro j h1 h2
  rw [List.getElem_set]
  split
  ·rename_i e; subst e; rw [getD_in h]
  ·rfl
theorem set_over {α : Type} {l : List α} {i : Nat} {x y : α} : (l.set i x).set i y = l.set i y := List.set_set ..
section
variable {n : Nat} {σ : Sg} {w : World} {dst : Option Tmp} {ty : TypeId} {pos : String} {af : Array Edge} {g : Option (Nat × Bool)} {x y z : Operand} {at' : Array TypeId}
theorem cF22 : cF 22 := fun _ _ => by simp [go_sem]
theorem cF26 : cF 26 := fun _ _ => by simp [go_sem]
theorem bs_64_1 {x0 : Operand} {v0_0 v0_1 : Value} (h0 : evS σ x0 = some (.agg #[v0_0, v0_1]))  (a : Act) (ha : Env n σ a) : (execOp a.eval ⟨dst, .buildSlice 64 1 #[(0, x0)], ty, pos, af, g⟩).run Try.prog w = .ok (.value (.slice (some ⟨w.heap.size, 0, none⟩) 1 1)) (w.alloc (.cells #[v0_0, v0_1] 62)) := by
 simp only [execOp, List.map_toArray, List.map_cons, List.map_nil, ha.eval h0]
 go_simp
theorem cF28 : cF 28 := fun _ _ => by simp [go_sem]
end
section
variable {n : Nat} {σ : Sg} {w : World} {dst : Option Tmp} {ty : TypeId} {pos : String} {af : Array Edge} {g : Option (Nat × Bool)} {x y z : Operand} {at' : Array TypeId}
theorem ld_96 {b o : Nat} {v0 : Value} (hx : evS σ x = some (.pointer (some ⟨b, o, none⟩))) (c0 : w.cell? ⟨b, o, none⟩ = some v0) : Gives Try.prog n σ w ⟨dst, .load 96 x, ty, pos, af, g⟩ (v0) := fun a ha => by
 simp only [execOp, ha.eval hx]
 simp [go_sem, c0]
theorem clv_71_0_1_2 {xf x0 : Operand} {v0 p0 p1 : Value} (hf : evS σ xf = some (.func (.func 71) #[] #[p0, p1])) (h0 : evS σ x0 = some v0) (a : Act) (ha : Env n σ a) : (execOp a.eval ⟨dst, .call { callee := .value xf, args := #[x0], argTypes := at' }, ty, pos, af, g⟩).run Try.prog w = .ok (.enter 71 #[v0, p0, p1]) w := by
 simp only [execOp, resolve, List.map_toArray, List.map_cons, List.map_nil, ha.eval hf, ha.eval h0]
 simp [go_sem, Deferred.ofValue]
theorem cF89 : cF 89 := fun _ _ => by simp [go_sem]
theorem bx_96 {v0 : Value} (hx : evS σ x = some (v0)) (h1 : v0.oneCell' = true) (a : Act) (ha : Env n σ a) : (execOp a.eval ⟨dst, .box 96 x, ty, pos, af, g⟩).run Try.prog w = .ok (.value (.pointer (some ⟨w.heap.size, 0, none⟩))) (w.alloc (.cells #[v0] 96)) := by
 simp only [execOp, ha.eval hx]
 cases v0 <;> first | (simp [Value.oneCell'] at h1; done) | simp [go_sem, Value.cells]
theorem mf_71_0_2 {x0 x1 : Operand} {v0 v1 : Value} (h0 : evS σ x0 = some v0) (h1 : evS σ x1 = some v1) : Gives Try.prog n σ w ⟨dst, .makeFunc (.func 71) #[] #[x0, x1], ty, pos, af, g⟩ (.func (.func 71) #[] #[v0, v1]) := fun a ha => by
 simp only [execOp, List.map_toArray, List.map_cons, List.map_nil, ha.eval h0, ha.eval h1]
 simp [go_sem]
theorem cF70 : cF 70 := fun _ _ => by simp [go_sem]
end
theorem step1 {ru : Rules} {many : Nat} (hmn : many ≤ 1000) (hk4 : ru.kinds.length ≤ 1000) (x : Stp) {w : World} {b1 b2 : Nat} {At : Option Addr} {ct : Nat} {vl va vp : Value} {Ak : Option Addr} {ck : Nat} (hq1 : Blk w b1 96 #[.slice At many ct]) (hq2 : Blk w b2 28 #[vl, .int .i64 ru.fade.lo, .int .i64 ru.fade.hi, va, vp, .slice Ak ru.kinds.length ck]) :
  Calls Try.prog 71 #[.agg #[.int .i64 x.tank, .int .i64 x.wash], .pointer (some ⟨b1, 0, none⟩), .pointer (some ⟨b2, 0, none⟩)] w fun e w' => e = .returned (.bool (!stB ru many x)) ∧ Below w.heap.size w w' := by
 have hbw := Below.refl w.heap.size w;refine EC.enter 24 Try.func71 rfl rfl rfl (EC.seq (EC.region (EL.newP (bx_70 rfl) rfl ?_)));intro g1 w1 q1 hb1 hg1 hl1;have bhbw_1 := Nat.le_trans hbw.size hg1;replace hbw := bo_ hbw hb1;clear hb1 hg1 hl1;refine EL.as rfl rfl (EL.nil (EX.seq (EC.seq (EC.region (EL.val (ld_96 rfl (below_load hbw (hq1.at (j := 0) rfl))) rfl (EL.val (ln_96 rfl) rfl ?_))))));refine EL.val (x_sub rfl rfl (c := ((many : Nat) : Int) - 1) (IntWalk.i64_in _ ⟨by omega, by omega⟩)) rfl ?_
 refine EL.val (fa_70_0 rfl) rfl (EL.val (ld_3 rfl (q1.at (j := 0) rfl)) rfl (EL.newS (bs_22_1 rfl) rfl ?_));intro g2 w2 q2 hb2 hg2 hl2;have n1_2 := q1.na hg2;have bhbw_2 := Nat.le_trans hbw.size hg2;replace q1 := q1.bl hb2;replace hbw := bo_ hbw hb2;clear hb2 hg2 hl2
 cases h1 : inB 0 ((many : Nat) - 1 : Int) x.tank
 ·
  refine EL.call (cA3 cF63 rfl rfl rfl) rfl (within_1 q2 h1) ?_
  rintro e w3 ⟨rfl, hc3⟩
  refine ⟨_, rfl, ?_⟩;replace q1 := q1.bl hc3;replace q2 := q2.bl hc3;replace hbw := bo_ hbw hc3;clear hc3;refine EL.val (x_not rfl) rfl (EL.mv rfl rfl (EL.skip rfl rfl rfl rfl (EL.skip rfl rfl rfl rfl (EL.skip rfl rfl rfl rfl (EL.skip rfl rfl rfl rfl (EL.skip rfl rfl rfl rfl (EL.skip rfl rfl rfl rfl (EL.skip rfl rfl rfl rfl (EL.skip rfl rfl rfl rfl ?_)))))))));refine EL.skip rfl rfl rfl rfl (EL.pt rfl rfl rfl (EL.as rfl rfl (EL.nil (EX.seq (EC.ret ?_)))))
  exact EX.done (res1 rfl rfl) ⟨by congr 2; simp [stB, *], hbw⟩
 ·
  refine EL.call (cA3 cF63 rfl rfl rfl) rfl (within_1 q2 h1) ?_
  rintro e w4 ⟨rfl, hc4⟩
  refine ⟨_, rfl, ?_⟩;replace q1 := q1.bl hc4;replace q2 := q2.bl hc4;replace hbw := bo_ hbw hc4;clear hc4;refine EL.val (x_not rfl) rfl (EL.mv rfl rfl (EL.valg rfl rfl (fa_28_4 rfl) rfl (EL.valg rfl rfl (ld_26 rfl (below_load hbw (hq2.at (j := 5) rfl))) rfl (EL.valg rfl rfl (ln_26 rfl) rfl ?_))));refine EL.valg rfl rfl (x_sub rfl rfl (c := ((ru.kinds.length : Nat) : Int) - 1) (IntWalk.i64_in _ ⟨by omega, by omega⟩)) rfl ?_
  refine EL.valg rfl rfl (fa_70_1 rfl) rfl (EL.valg rfl rfl (ld_3 rfl (q1.at (j := 1) rfl)) rfl (EL.newSg rfl rfl (bs_22_1 rfl) rfl ?_));intro g5 w5 q5 hb5 hg5 hl5;have n1_5 := q1.na hg5;have n2_5 := q2.na hg5;have bhbw_5 := Nat.le_trans hbw.size hg5;replace q1 := q1.bl hb5;replace q2 := q2.bl hb5;replace hbw := bo_ hbw hb5;clear hb5 hg5 hl5
  cases h2 : inB (-1) ((ru.kinds.length : Nat) - 1 : Int) x.wash
  ·
   refine EL.callg rfl rfl (cA3 cF63 rfl rfl rfl) rfl (within_1 q5 h2) ?_
   rintro e w6 ⟨rfl, hc6⟩
   refine ⟨_, rfl, ?_⟩;replace q1 := q1.bl hc6;replace q2 := q2.bl hc6;replace q5 := q5.bl hc6;replace hbw := bo_ hbw hc6;clear hc6;refine EL.valg rfl rfl (x_not rfl) rfl (EL.pf rfl rfl rfl (EL.as rfl rfl (EL.nil (EX.seq (EC.ret ?_)))))
   exact EX.done (res1 rfl rfl) ⟨by congr 2; simp [stB, *], hbw⟩
  ·
   refine EL.callg rfl rfl (cA3 cF63 rfl rfl rfl) rfl (within_1 q5 h2) ?_
   rintro e w7 ⟨rfl, hc7⟩
   refine ⟨_, rfl, ?_⟩;replace q1 := q1.bl hc7;replace q2 := q2.bl hc7;replace q5 := q5.bl hc7;replace hbw := bo_ hbw hc7;clear hc7;refine EL.valg rfl rfl (x_not rfl) rfl (EL.pf rfl rfl rfl (EL.as rfl rfl (EL.nil (EX.seq (EC.ret ?_)))))
   exact EX.done (res1 rfl rfl) ⟨by congr 2; simp [stB, *], hbw⟩
set_option maxRecDepth 100000 in
theorem index_stp (l : List Stp) (pred : Stp → Bool) (p0 p1 : Value) (v : Value) (w : World) (B : Nat) (hr : Rd w B 2 v l.length (stpsC l)) (hB : B ≤ w.heap.size) (hn : l.length ≤ 9223372036854775806) (hf : ∀ x ∈ l, ∀ W, Below w.heap.size w W → Calls Try.prog 71 #[.agg #[.int .i64 x.tank, .int .i64 x.wash], p0, p1] W fun e w' => e = .returned (.bool (pred x)) ∧ Below W.heap.size W w') :
  Calls Try.prog 89 #[v, .func (.func 71) #[] #[p0, p1]] w fun e w' => (∃ r : Int, e = .returned (.int .i64 r) ∧ decide (0 ≤ r) = l.any pred) ∧ Below w.heap.size w w' := by
 obtain ⟨A, c, rfl, _⟩ := hr.shape;have hbw := Below.refl w.heap.size w;refine EC.enter 19 Try.func89 rfl rfl rfl (EC.seq (EC.region (EL.as rfl rfl (EL.nil (EX.seq (EC.seq (EC.seq (EC.region (EL.mv rfl rfl ?_)))))))));refine EL.val (ln_65 rfl) rfl (EL.mv rfl rfl (EL.nil (EX.seq (EC.block ?_))));refine EC.loopD [4, 5, 8, 9, 10, 11, 12, 13, 14, 15, 16, 17, 18] (fun x : Nat => [(8, .int .i64 (x : Nat))]) (fun x W => x ≤ l.length ∧ (l.take x).any pred = false ∧ Below w.heap.size w W) (fun x => l.length - x) 0 ⟨Nat.zero_le _, rfl, hbw⟩ ⟨rfl, trivial⟩ ?_
 clear hbw
 rintro k wk ⟨hk, hno, hbw⟩
 by_cases hlt : k < l.length
 ·
  obtain ⟨b, o, rfl, _, c0, c1⟩ := stps_cells l k hlt w w.heap.size _ _ _ (hr.more hB);have hat := any_take (d := stp0) (p := pred) hlt;have hmem : l.getD k stp0 ∈ l := by rw [getD_in hlt]; exact List.getElem_mem hlt
  obtain ⟨x, ex⟩ : ∃ z, z = l.getD k stp0 := ⟨_, rfl⟩;rw [← ex] at hat hmem c0 c1;have hc := hf x hmem wk hbw;refine EC.seq (EC.region ?_);refine EL.val (x_lss rfl rfl (by first | assumption | exact decide_eq_true (by omega))) rfl ?_
  refine EL.nil (EX.seq (EC.seq (EC.yes rfl (EC.skip (EX.seq (EC.seq (EC.block (EC.seq (EC.region ?_)))))))));refine EL.mv rfl rfl (EL.as rfl rfl (EL.nil (EX.seq (EC.seq (EC.region (EL.mv rfl rfl (EL.mv rfl rfl (EL.mv rfl rfl (EL.val (ix_65 rfl rfl hlt) rfl ?_)))))))));refine EL.val (ld_70 rfl (below_load hbw c0) (below_load hbw c1)) rfl (EL.call (clv_71_0_1_2 rfl rfl) rfl hc ?_)
  rintro e w2 ⟨rfl, hc2⟩
  refine ⟨_, rfl, ?_⟩;replace hbw := bo_ hbw hc2;clear hc2;refine EL.nil (EX.seq ?_)
  cases hp : pred x
  ·
   refine EC.no rfl (EC.skip (EX.blk (EX.seq (EC.region ?_))));refine EL.val (x_add rfl rfl (by first | assumption | exact IntWalk.i64_in _ ⟨by omega, by omega⟩)) rfl ?_
   refine EL.mv rfl rfl (EL.nil ?_);refine EX.roundD (k + 1) ⟨rfl, trivial⟩ (by repeat first | with_reducible exact .refl _ | refine sp_ rfl ?_ | exact .refl _ | refine sd_ rfl ?_ | refine sn_ ?_) ⟨hlt, by rw [hat, hno, hp]; rfl, hbw⟩ (by omega)
  ·
   refine EC.yes rfl (EC.seq (EC.region (EL.mv rfl rfl (EL.as rfl rfl (EL.nil (EX.seq (EC.ret (EX.blk_ret (EX.seq_ret ?_)))))))));refine EX.seq_ret (EX.blk_ret (EX.seq_ret ?_))
   exact EX.done (res1 rfl rfl) ⟨⟨_, rfl, by rw [any_at hlt (ex ▸ hp)]; exact decide_eq_true (by omega)⟩, hbw⟩
 ·
  obtain rfl : k = l.length := by omega
  rw [List.take_length] at hno;refine EC.seq (EC.region ?_);refine EL.val (x_lss rfl rfl (by first | assumption | exact decide_eq_false (by omega))) rfl ?_
  refine EL.nil (EX.seq (EC.seq (EC.no rfl (EC.exit (EX.seq_exit (EX.seq_exit (EX.blk_here (EX.seq (EC.seq ?_)))))))));refine EC.region (EL.as rfl rfl (EL.nil (EX.seq (EC.ret ?_))))
  exact EX.done (res1 rfl rfl) ⟨⟨_, rfl, by rw [hno]; rfl⟩, hbw⟩
theorem contains_stp (l : List Stp) (pred : Stp → Bool) (p0 p1 : Value) (v : Value) (w : World) (B : Nat) (hr : Rd w B 2 v l.length (stpsC l)) (hB : B ≤ w.heap.size) (hn : l.length ≤ 9223372036854775806) (hf : ∀ x ∈ l, ∀ W, Below w.heap.size w W → Calls Try.prog 71 #[.agg #[.int .i64 x.tank, .int .i64 x.wash], p0, p1] W fun e w' => e = .returned (.bool (pred x)) ∧ Below W.heap.size W w') :
  Calls Try.prog 70 #[v, .func (.func 71) #[] #[p0, p1]] w fun e w' => e = .returned (.bool (l.any pred)) ∧ Below w.heap.size w w' := by
 have hbw := Below.refl w.heap.size w;refine EC.enter 9 Try.func70 rfl rfl rfl (EC.seq (EC.region (EL.as rfl rfl (EL.nil (EX.seq (EC.seq (EC.region (EL.mv rfl rfl (EL.mv rfl rfl ?_)))))))));refine EL.call (cA2 cF89 rfl rfl) rfl (index_stp l pred p0 p1 _ w B hr hB hn hf) ?_
 rintro e w2 ⟨⟨r, rfl, hres⟩, hc2⟩
 refine ⟨_, rfl, ?_⟩;replace hbw := bo_ hbw hc2;refine EL.val (x_geq rfl rfl hres) rfl (EL.as rfl rfl (EL.nil (EX.seq (EC.ret ?_))))
 exact EX.done (res1 rfl rfl) ⟨rfl, hbw⟩
theorem res4t {P : Program} {n : Nat} {σ : Sg} {w : World} {fn : Func} {t1 t2 t3 t4 : Tmp} {v1 v2 v3 v4 : Value} (h : fn.results = #[.tmp t1, .tmp t2, .tmp t3, .tmp t4]) (h1 : σ t1 = some v1) (h2 : σ t2 = some v2) (h3 : σ t3 = some v3) (h4 : σ t4 = some v4) (a : Act) (ha : Env n σ a) : (results fn a.tmps).run P w = .ok (.tuple #[v1, v2, v3, v4]) w := by
 have e1 : a.tmps.getD t1 undef = v1 := ha.eval (x := .tmp t1) h1;have e2 : a.tmps.getD t2 undef = v2 := ha.eval (x := .tmp t2) h2;have e3 : a.tmps.getD t3 undef = v3 := ha.eval (x := .tmp t3) h3;have e4 : a.tmps.getD t4 undef = v4 := ha.eval (x := .tmp t4) h4;rw [Array.getD_eq_getD_getElem?] at e1 e2 e3 e4
 simp [results, h, e1, e2, e3, e4]
theorem all_getD2 {ru : Rules} {many : Nat} {l : List Stp} {i : Nat} (h : l.all (stB ru many) = true) (hi : i < l.length) : stB ru many (l.getD i stp0) = true := by
 rw [getD_in hi]
 exact List.all_eq_true.1 h _ (List.getElem_mem hi)
theorem yard_okV {ru : Rules} {tanks : List (List Ev)} {jobs : List Int} (h : yardE ru tanks jobs = 0) : rulesB ru = true ∧ tanks.length ≤ 3 ∧ 0 < tanks.length ∧ jobsE ru jobs 6 = 0 := by
 unfold yardE at h
 split at h
 ·rename_i hr
  split at h
  ·omega
  ·split at h
   ·omega
   ·split at h
    ·exact ⟨hr, by omega, by omega, h⟩
    ·rename_i h1 h2 h3
     exact absurd h h3
 ·omega
set_option maxHeartbeats 4000000 in
theorem Verify_any {ru : Rules} {ua up : List Value} {vl va vp vk : Value} {w : World} {B : Nat} (hr : RdRules w B vl va vp vk ru ua up) (hB : B ≤ w.heap.size) (hs : Short ru) {tanks : List (List Ev)} {vt : Value} {ut : List Value} (ht : RdLL evC 2 w B vt tanks ut) (htn : ∀ i, i < tanks.length → (tanks.getD i []).length ≤ 1048576) (htl : tanks.length ≤ 9223372036854775807) {jobs : List Int} {vj : Value} (hv : Rd w B 1 vj jobs.length (ints jobs)) (hjn : jobs.length ≤ 9223372036854775807) {steps : List Stp} {vs : Value} (hst : Rd w B 2 vs steps.length (stpsC steps)) (hsn : steps.length ≤ 9223372036854775806) :
  Calls Try.prog 40 #[rulesV vl va vp vk ru, vt, vj, vs] w fun e w' => e = .returned (.tuple #[.int .i64 (verT ru tanks jobs steps).1, .int .i64 (verT ru tanks jobs steps).2.1, .int .i64 (verT ru tanks jobs steps).2.2, .int .i64 (verE ru tanks jobs steps)]) ∧ Below w.heap.size w w' := by
 obtain ⟨Al, cl, Aa, ca, Ap, cp, Ak, ck, rfl, rfl, rfl, rfl⟩ := hr.sh4;obtain ⟨At, ct, rfl, _⟩ := ht.rd.shape;obtain ⟨Aj, cj, rfl, _⟩ := hv.shape;obtain ⟨As, cs, rfl, _⟩ := hst.shape;have hbw := Below.refl w.heap.size w
 unfold rulesV
 refine EC.enter 103 Try.func40 rfl rfl rfl (EC.seq (EC.region (EL.newP (bx_28 rfl) rfl ?_)));intro g1 w1 q1 hb1 hg1 hl1;have bhbw_1 := Nat.le_trans hbw.size hg1;replace hbw := bo_ hbw hb1;clear hb1 hg1 hl1;refine EL.newP (bx_96 rfl rfl) rfl ?_;intro g2 w2 q2 hb2 hg2 hl2;have n1_2 := q1.na hg2;have bhbw_2 := Nat.le_trans hbw.size hg2;replace q1 := q1.bl hb2;replace hbw := bo_ hbw hb2;clear hb2 hg2 hl2;refine EL.as rfl rfl (EL.as rfl rfl (EL.as rfl rfl (EL.as rfl rfl (EL.nil (EX.seq (EC.seq (EC.region (EL.val (ld_28 rfl (q1.at (j := 0) rfl) (q1.at (j := 1) rfl) (q1.at (j := 2) rfl) (q1.at (j := 3) rfl) (q1.at (j := 4) rfl) (q1.at (j := 5) rfl)) rfl (EL.val (ld_96 rfl (q2.at (j := 0) rfl)) rfl ?_)))))))));refine EL.mv rfl rfl (EL.call (cA3 cF68 rfl rfl rfl) rfl (yard_any (hr.below (hbw.mono hB)) (Nat.le_trans hB hbw.size) hs ((ht.below (hbw.mono hB))) htn htl (hv.below (hbw.mono hB)) hjn) ?_)
 rintro e w3 ⟨⟨sf, rfl, hsf, hsy⟩, hc3⟩
 refine ⟨_, rfl, ?_⟩;replace q1 := q1.bl hc3;replace q2 := q2.bl hc3;replace hbw := bo_ hbw hc3;clear hc3
 unfold rulesV flV
 refine EL.mv rfl rfl (EL.xt rfl rfl rfl (EL.xt rfl rfl rfl (EL.xt rfl rfl rfl (EL.newP al_116 rfl ?_))));intro g4 w4 q4 hb4 hg4 hl4;have n1_4 := q1.na hg4;have n2_4 := q2.na hg4;have bhbw_4 := Nat.le_trans hbw.size hg4;replace q1 := q1.bl hb4;replace q2 := q2.bl hb4;replace hbw := bo_ hbw hb4;clear hb4 hg4 hl4;refine EL.newP al_fleet rfl ?_;intro g5 w5 q5 hb5 hg5 hl5;have n1_5 := q1.na hg5;have n2_5 := q2.na hg5;have n4_5 := q4.na hg5;have bhbw_5 := Nat.le_trans hbw.size hg5;replace q1 := q1.bl hb5;replace q2 := q2.bl hb5;replace q4 := q4.bl hb5;replace hbw := bo_ hbw hb5;clear hb5 hg5 hl5;refine EL.store rfl rfl q4 sz_116 rfl rfl rfl rfl ?_;intro w6 hq6 hg6;replace q1 := q1.gr hg6 n1_4;replace q2 := q2.gr hg6 n2_4;replace q5 := q5.gr hg6 n4_5.symm;replace hbw := below_store hbw hg6 bhbw_4;replace q4 := hq6;clear hg6 hq6;refine EL.store (l' := (flC sf)) rfl rfl q5 sz_150 rfl ((lenV_eq _).trans hsf.fl.len) (by rw [lenV_eq, Nat.ble_eq]; exact Nat.le_of_eq (fl0_len.symm)) (flC_one _) ?_
 intro w7 hq7 hg7;rw [spl_whole (hsf.fl.len.trans fl0_len.symm)] at hq7;replace q1 := q1.gr hg7 n1_5;replace q2 := q2.gr hg7 n2_5;replace q4 := q4.gr hg7 n4_5;replace hbw := below_store hbw hg7 bhbw_5;replace q5 := hq7;clear hg7 hq7;refine EL.as rfl rfl (EL.nil (EX.seq (EC.seq (EC.block (EC.seq (EC.region (EL.mv rfl rfl ?_)))))))
 by_cases hy : yardE ru tanks jobs = 0
 ·
  obtain ⟨hrb, ht3, ht0, hjz⟩ := yard_okV hy;have hro := rules_ok hrb;obtain ⟨hj1, hj2, hj3⟩ := jobs_ok hjz;have hsy := hsy hy;refine EL.val (x_neq (r := false) rfl rfl (decide_eq_false (fun h => h hy))) rfl ?_
  refine EL.as rfl rfl (EL.nil (EX.seq (EC.no rfl (EC.seq (EC.region (EL.mv rfl rfl (EL.val (ln_65 rfl) rfl (EL.mv rfl rfl (EL.val (ln_22 rfl) rfl ?_)))))))))
  by_cases hll : steps.length = jobs.length
  ·
   refine EL.val (x_neq (r := false) rfl rfl (decide_eq_false (by omega))) rfl ?_
   refine EL.as rfl rfl (EL.nil (EX.seq (EC.no rfl (EC.seq (EC.region (EL.mv rfl rfl (EL.val (mf_71_0_2 rfl rfl) rfl ?_)))))))
   cases hal : steps.all (stB ru tanks.length)
   ·
    have hca := contains_stp steps (fun x => !stB ru tanks.length x) _ _ _ w7 B (hst.below (hbw.mono hB)) (Nat.le_trans hB hbw.size) (by omega) (fun x hx W hb => step1 (by omega) (by have := hro.k4; omega) x (q2.below hb q2.lt) (q1.below hb q1.lt))
    rw [show (steps.any fun x => !stB ru tanks.length x) = true by rw [← all_nn, hal]; rfl] at hca
    refine EL.call (cA2 cF70 rfl rfl) rfl (hca) ?_
    rintro e w8 ⟨rfl, hc8⟩
    refine ⟨_, rfl, ?_⟩;replace q1 := q1.bl hc8;replace q2 := q2.bl hc8;replace q4 := q4.bl hc8;replace q5 := q5.bl hc8;replace hbw := bo_ hbw hc8;clear hc8;refine EL.as rfl rfl (EL.nil (EX.seq (EC.yes rfl (EC.seq (EC.region (EL.as rfl rfl (EL.as rfl rfl (EL.as rfl rfl (EL.as rfl rfl ?_)))))))));refine EL.nil (EX.seq (EC.ret (EX.blk_ret (EX.seq_ret ?_))));have hve : verE ru tanks jobs steps = 2 := by rw [verE, if_neg (fun h => h hy), if_neg (fun h => h hll), if_neg (by rw [hal]; decide)]
    have hvn : verE ru tanks jobs steps ≠ 0 := by rw [hve]; decide
    exact EX.done (res4t rfl rfl rfl rfl rfl) ⟨ver_t hve (by rw [verT, if_neg hvn]), hbw⟩
   ·
    have hca := contains_stp steps (fun x => !stB ru tanks.length x) _ _ _ w7 B (hst.below (hbw.mono hB)) (Nat.le_trans hB hbw.size) (by omega) (fun x hx W hb => step1 (by omega) (by have := hro.k4; omega) x (q2.below hb q2.lt) (q1.below hb q1.lt))
    rw [show (steps.any fun x => !stB ru tanks.length x) = false by rw [← all_nn, hal]; rfl] at hca
    refine EL.call (cA2 cF70 rfl rfl) rfl (hca) ?_
    rintro e w9 ⟨rfl, hc9⟩
    refine ⟨_, rfl, ?_⟩;replace q1 := q1.bl hc9;replace q2 := q2.bl hc9;replace q4 := q4.bl hc9;replace q5 := q5.bl hc9;replace hbw := bo_ hbw hc9;clear hc9;refine EL.as rfl rfl (EL.nil (EX.seq (EC.no rfl (EC.skip (EX.blk (EX.seq (EC.seq (EC.seq (EC.region ?_)))))))));refine EL.mv rfl rfl (EL.val (ln_65 rfl) rfl (EL.mv rfl rfl (EL.nil (EX.seq (EC.block ?_)))));obtain ⟨js, ejs⟩ : ∃ z, z = jobs.map Int.toNat := ⟨_, rfl⟩;rw [← ejs] at hj1 hj2 hj3;have hjl : js.length = jobs.length := by rw [ejs, List.length_map]
    obtain ⟨tot, etot⟩ : ∃ z, z = verG (goT ru) (kcost ru) js steps 0 sf 0 0 := ⟨_, rfl⟩;refine EC.loopD [8, 9, 10, 11, 14, 15, 16, 17, 18, 43, 44, 45, 46, 47, 48, 49, 50, 51, 52, 53, 54, 55, 56, 57, 58, 59, 60, 61, 62, 63, 64, 65, 66, 67, 68, 69, 70, 71, 72, 73, 74, 75, 76, 77, 78, 79, 80, 81, 82, 83, 84, 85, 86, 87, 88, 89, 90, 91, 92, 93, 94, 95, 96, 97, 98, 99, 100] (fun x : Nat × List (List Tr) × Int × Int => [(43, .int .i64 (x.1 : Nat)), (9, .int .i64 x.2.2.1), (10, .int .i64 x.2.2.2)]) (fun x W => x.1 ≤ js.length ∧ FlOk x.2.1 ∧ (0 ≤ x.2.2.1 ∧ x.2.2.1 ≤ x.1) ∧ (0 ≤ x.2.2.2 ∧ x.2.2.2 ≤ x.1 * 100000000) ∧ verG (goT ru) (kcost ru) (js.drop x.1) (steps.drop x.1) x.1 x.2.1 x.2.2.1 x.2.2.2 = tot ∧ Blk W g1 28 #[.slice Al ru.levels.length cl, .int .i64 ru.fade.lo, .int .i64 ru.fade.hi, .slice Aa ru.allow.length ca, .slice Ap ru.apart.length cp, .slice Ak ru.kinds.length ck] ∧ Blk W g4 116 #[.slice Al ru.levels.length cl, .int .i64 ru.fade.lo, .int .i64 ru.fade.hi, .slice Aa ru.allow.length ca, .slice Ap ru.apart.length cp, .slice Ak ru.kinds.length ck] ∧ Blk W g5 150 (flC x.2.1).toArray ∧ Below w.heap.size w W) (fun x => js.length - x.1) (0, sf, 0, 0) ⟨Nat.zero_le _, hsf, ⟨Int.le_refl _, Int.le_refl _⟩, (by simp only; omega), etot.symm, q1, q4, q5, hbw⟩ ⟨rfl, rfl, rfl, trivial⟩ ?_
    clear q1 q4 q5 hbw
    rintro ⟨i, sg, wa, co⟩ wx ⟨hi, hsg, hwa, hco, htot, q1, q4, q5, hbw⟩
    dsimp only at hi hsg hwa hco htot q5
    by_cases hlt : i < js.length
    ·
     have hls : i < steps.length := by omega
     obtain ⟨bs, os, es, _, c0, c1⟩ := stps_cells steps i hls wx B _ _ _ (hst.below (hbw.mono hB))
     cases es
     obtain ⟨x, ex⟩ : ∃ z, z = steps.getD i stp0 := ⟨_, rfl⟩;rw [← ex] at c0 c1;obtain ⟨n, en, hn, hkin⟩ := stB_iff (all_getD2 hal hls);rw [← ex] at en hkin;have hn3 : n < 3 := by omega
     obtain ⟨k, ek⟩ : ∃ z, z = x.wash := ⟨_, rfl⟩;rw [← ek] at c1 hkin;have htk := hsg.get hn3;have hcg := hj2 i hlt;have hnl : n < sg.length := by rw [hsg.fl.n3]; exact hn3
     obtain ⟨bb, hbb⟩ : ∃ bb, decide (k ≥ 0) = bb := ⟨_, rfl⟩;refine EC.seq (EC.region ?_);refine EL.val (x_lss rfl rfl (decide_eq_true (show (((i : Nat) : Int) < ((steps.length : Nat) : Int)) by omega))) rfl ?_
     refine EL.nil (EX.seq (EC.seq (EC.yes rfl (EC.skip (EX.seq (EC.seq (EC.block (EC.seq (EC.region ?_)))))))));refine EL.mv rfl rfl (EL.val (ix_65 rfl rfl hls) rfl (EL.val (ld_70 rfl c0 c1) rfl (EL.newP al_70 rfl ?_)));intro g10 w10 q10 hb10 hg10 hl10;have n1_10 := q1.na hg10;have n4_10 := q4.na hg10;have n5_10 := q5.na hg10;have bhbw_10 := Nat.le_trans hbw.size hg10;replace q1 := q1.bl hb10;replace q4 := q4.bl hb10;replace q5 := q5.bl hb10;replace hbw := bo_ hbw hb10;clear hb10 hg10 hl10;refine EL.as rfl rfl (EL.store rfl rfl q10 sz_70 rfl rfl rfl rfl ?_);intro w11 hq11 hg11;replace q1 := q1.gr hg11 n1_10;replace q4 := q4.gr hg11 n4_10;replace q5 := q5.gr hg11 n5_10;replace hbw := below_store hbw hg11 bhbw_10;replace q10 := hq11;clear hg11 hq11;refine EL.nil (EX.seq (EC.seq (EC.region (EL.val (fa_70_0 rfl) rfl (EL.val (ld_3 rfl (q10.at (j := 0) rfl)) rfl ?_)))));refine EL.val (ixa_150 rfl (by show some (Value.int .i64 x.tank) = _; rw [en]) hn3) rfl ?_
     refine EL.as rfl rfl (EL.nil (EX.seq ?_));refine EC.cutD [9, 10, 51, 52, 53, 54, 55, 56, 57, 58, 59, 60, 61, 62, 63, 64, 65, 66, 67, 68, 69, 70, 71, 72, 73] (fun _ : Unit => [(9, .int .i64 (wa + numK k)), (10, .int .i64 (co + kcost ru k))]) (fun _ W => Blk W g1 28 #[.slice Al ru.levels.length cl, .int .i64 ru.fade.lo, .int .i64 ru.fade.hi, .slice Aa ru.allow.length ca, .slice Ap ru.apart.length cp, .slice Ak ru.kinds.length ck] ∧ Blk W g4 116 #[.slice Al ru.levels.length cl, .int .i64 ru.fade.lo, .int .i64 ru.fade.hi, .slice Aa ru.allow.length ca, .slice Ap ru.apart.length cp, .slice Ak ru.kinds.length ck] ∧ Blk W g5 150 (flC (sg.set n (wayT ru (sg.getD n []) k))).toArray ∧ Below w.heap.size w W) ?_ ?_
     ·
      cases bb
      ·
       have hkn : k < 0 := by have := of_decide_eq_false hbb; omega
       have hwk : wayT ru (sg.getD n []) k = sg.getD n [] := if_pos hkn;have hnk : numK k = 0 := if_pos hkn;have hck : kcost ru k = 0 := if_pos hkn;refine EC.seq (EC.region (EL.val (fa_70_1 rfl) rfl (EL.val (ld_3 rfl (q10.at (j := 1) rfl)) rfl (EL.val (x_geq rfl rfl hbb) rfl (EL.nil (EX.seq (EC.no rfl (EC.skip ?_))))))))
       exact EX.cutE () ⟨agree_i (by rw [hnk, Int.add_zero]) rfl, agree_i (by rw [hck, Int.add_zero]) rfl, trivial⟩ (by repeat first | with_reducible exact (Sub.refl _).del _ | refine sp_ rfl ?_ | exact (Sub.refl _).del _ | refine sd_ rfl ?_ | refine sn_ ?_) ⟨q1, q4, by rw [hwk, set_self hnl]; exact q5, hbw⟩
      ·
       have hkn : ¬k < 0 := by have := of_decide_eq_true hbb; omega
       obtain ⟨j, hj, ekj⟩ : ∃ j : Nat, j < ru.kinds.length ∧ k = ((j : Nat) : Int) := by rcases kinds_in hkin with h | h; omega; exact h
       have hkj : k.toNat = j := by rw [ekj]; exact Int.toNat_natCast j
       have hwk : wayT ru (sg.getD n []) k = washT ru (sg.getD n []) j := by unfold wayT; rw [if_neg hkn, hkj]
       have hnk : numK k = 1 := if_neg hkn;have hck : kcost ru k = (ru.kinds.getD j kd0).cost := by unfold kcost; rw [if_neg hkn, hkj]
       have hkd := kd_bd hro j;have hwok := wayT_ok hro htk k;have hwj : TkOk (washT ru (sg.getD n []) j) := by rw [← hwk]; exact hwok
       refine EC.seq (EC.region (EL.val (fa_70_1 rfl) rfl (EL.val (ld_3 rfl (q10.at (j := 1) rfl)) rfl (EL.val (x_geq rfl rfl hbb) rfl (EL.nil (EX.seq (EC.yes rfl (EC.seq ?_))))))));have lt_1 := q1.lt;have lt_4 := q4.lt;have lt_5 := q5.lt;have lt_10 := q10.lt;refine EC.regionP [[], [], [], [2], [2, 3], [], [5], [1, 2, 3, 4, 5, 6], [0, 1, 2, 3, 4, 5, 6, 7], [0, 1, 2, 3, 4, 5, 6, 7, 8]] 8 [] (phi (fun i_ r => match i_ with | 0 => r 0 = .pointer (some ⟨g5, 0 + n * 32, none⟩) | 1 => r 1 = .agg #[.slice Al ru.levels.length cl, .int .i64 ru.fade.lo, .int .i64 ru.fade.hi, .slice Aa ru.allow.length ca, .slice Ap ru.apart.length cp, .slice Ak ru.kinds.length ck] | 2 => r 2 = .pointer (some ⟨g5, 0 + n * 32, none⟩) | 3 => r 3 = .pointer (some ⟨g5, 0 + n * 32, none⟩) | 4 => r 4 = .agg (tkC (sg.getD n [])).toArray | 5 => r 5 = .pointer (some ⟨g10, 1, none⟩) | 6 => r 6 = .int .i64 k | 7 => r 7 = .agg (tkC (washT ru (sg.getD n []) j)).toArray | _ => True) []) (by kernel_rfl) rfl rfl (phi_nil) (fun i_ hi_ => ?_) ?_
       ·match i_, hi_ with
        | 0, _ =>
         intro val w1 a hb ha hd;have ha := ha.s0 (d := 16) rfl
         exact hs_val ha rfl rfl (x_move rfl) rfl rfl
        | 1, _ =>
         intro val w1 a hb ha hd;have ha := ha.s0 (d := 12) rfl
         exact hs_val ha rfl rfl (ld_116 rfl ((q4.below hb q4.lt).at (j := 0) rfl) ((q4.below hb q4.lt).at (j := 1) rfl) ((q4.below hb q4.lt).at (j := 2) rfl) ((q4.below hb q4.lt).at (j := 3) rfl) ((q4.below hb q4.lt).at (j := 4) rfl) ((q4.below hb q4.lt).at (j := 5) rfl)) rfl rfl
        | 2, _ =>
         intro val w1 a hb ha hd;have ha := ha.s0 (d := 16) rfl
         exact hs_val ha rfl rfl (x_move rfl) rfl rfl
        | 3, _ =>
         intro val w1 a hb ha hd;have e2 : val 2 = _ := hd 2 (memB_mem.1 rfl);have ha := ha.s1 (d := 56) rfl e2
         exact hs_val ha rfl rfl (x_nilCheck rfl) rfl rfl
        | 4, _ =>
         intro val w1 a hb ha hd;have e3 : val 3 = _ := hd 3 (memB_mem.1 rfl);have ha := ha.s1 (d := 57) rfl e3
         exact hs_val ha rfl rfl (x_loadA rfl (((q5.below hb q5.lt)).range (by rw [Nat.zero_add]; exact tk_at hsg.fl hn3)) Try.underlying120 rfl (sz_120.trans (congrArg some (tkC_8 (htk).n8).symm))) rfl rfl
        | 5, _ =>
         intro val w1 a hb ha hd;have ha := ha.s0 (d := 15) rfl
         exact hs_val ha rfl rfl (fa_70_1 rfl) rfl rfl
        | 6, _ =>
         intro val w1 a hb ha hd;have e5 : val 5 = _ := hd 5 (memB_mem.1 rfl);have ha := ha.s1 (d := 59) rfl e5
         exact hs_val ha rfl rfl (ld_3 rfl ((q10.below hb q10.lt).at (j := 1) rfl)) rfl rfl
        | 7, _ =>
         intro val w1 a hb ha hd;have e1 : val 1 = _ := hd 1 (memB_mem.1 rfl);have e4 : val 4 = _ := hd 4 (memB_mem.1 rfl);have e6 : val 6 = _ := hd 6 (memB_mem.1 rfl);have ha := ha.sub (Sub.ins (d := 60) (Sub.ins (d := 58) (Sub.ins (d := 55) (Sub.nil _) (dep_get rfl e1)) (dep_get rfl e4)) (dep_get rfl e6));refine hs_call ha rfl rfl (cA3 cF72 rfl rfl rfl) (by rw [ekj]; exact wash_any (hr.below ((hbw.trans (hb.mono hbw.size)).mono hB)) hro htk hj) rfl ?_
         rintro e w' ⟨rfl, hb'⟩
         exact ⟨_, rfl, hb', rfl⟩
        | k + 8, h => exact absurd h (by omega)
       ·intro val wR13 hb halc hd
        have e0 : val 0 = _ := hd 0 (by omega)
        have e1 : val 1 = _ := hd 1 (by omega)
        have e2 : val 2 = _ := hd 2 (by omega)
        have e3 : val 3 = _ := hd 3 (by omega)
        have e4 : val 4 = _ := hd 4 (by omega)
        have e5 : val 5 = _ := hd 5 (by omega)
        have e6 : val 6 = _ := hd 6 (by omega)
        have e7 : val 7 = _ := hd 7 (by omega)
        refine EL.ends (cs := [_, _, _, _, _, _, _, _]) ⟨e0, e1, e2, e3, e4, e5, e6, e7, trivial⟩ rfl ?_;replace q1 := q1.bl hb;replace q4 := q4.bl hb;replace q5 := q5.bl hb;replace q10 := q10.bl hb;replace hbw := bo_ hbw hb;clear hb;refine EL.val (x_nilCheck rfl) rfl ?_;refine EL.store (l' := tkC (washT ru (sg.getD n []) j)) rfl rfl q5 sz_120 rfl ((lenV_eq _).trans (tkC_8 (hwj).n8)) (by rw [lenV_eq, Nat.ble_eq, hsg.fl.len]; omega) (tkC_one _) ?_
        intro w12 hq12 hg12;rw [Nat.zero_add, tk_set hsg.fl hn3 (hwj).n8] at hq12;replace q1 := q1.gr hg12 n1_5;replace q4 := q4.gr hg12 n4_5;replace q10 := q10.gr hg12 n5_10.symm;replace hbw := below_store hbw hg12 bhbw_5;replace q5 := hq12;clear hg12 hq12;refine EL.nil (EX.seq ?_);obtain ⟨bk, ok, eAk, hbk, hkc⟩ := kds_cells ru.kinds j hj w12 B _ _ _ (hr.below (hbw.mono hB)).kinds;have lt_1 := q1.lt;have lt_4 := q4.lt;have lt_5 := q5.lt;have lt_10 := q10.lt;refine EC.regionP [[], [0], [], [], [3], [], [5], [3, 4, 5, 6], [3, 4, 5, 6, 7], [3, 4, 5, 6, 7, 8], [2, 3, 4, 5, 6, 7, 8, 9], [0, 1], [0, 1, 2, 3, 4, 5, 6, 7, 8, 9, 10, 11]] 12 [] (phi (fun i_ r => match i_ with | 0 => r 0 = .int .i64 wa | 1 => r 1 = .int .i64 (wa + 1) | 2 => r 2 = .int .i64 co | 3 => r 3 = .pointer (some ⟨g1, 5, none⟩) | 4 => r 4 = .slice Ak ru.kinds.length ck | 5 => r 5 = .pointer (some ⟨g10, 1, none⟩) | 6 => r 6 = .int .i64 k | 7 => r 7 = .pointer (some ⟨bk, ok + j * 5, none⟩) | 8 => r 8 = .pointer (some ⟨bk, ok + j * 5 + 4, none⟩) | 9 => r 9 = .int .i64 (ru.kinds.getD j kd0).cost | 10 => r 10 = .int .i64 (co + (ru.kinds.getD j kd0).cost) | 11 => r 11 = .int .i64 (wa + 1) | _ => True) []) (by kernel_rfl) rfl rfl (phi_nil) (fun i_ hi_ => ?_) ?_
        ·match i_, hi_ with
         | 0, _ =>
          intro val w1 a hb ha hd;have ha := ha.s0 (d := 9) rfl
          exact hs_val ha rfl rfl (x_move rfl) rfl rfl
         | 1, _ =>
          intro val w1 a hb ha hd;have e0 : val 0 = _ := hd 0 (memB_mem.1 rfl);have ha := ha.s1 (d := 63) rfl e0
          exact hs_val ha rfl rfl (x_add rfl rfl (by first | assumption | exact IntWalk.i64_in _ ⟨by omega, by omega⟩)) rfl rfl
         | 2, _ =>
          intro val w1 a hb ha hd;have ha := ha.s0 (d := 10) rfl
          exact hs_val ha rfl rfl (x_move rfl) rfl rfl
         | 3, _ =>
          intro val w1 a hb ha hd;have ha := ha.s0 (d := 4) rfl
          exact hs_val ha rfl rfl (fa_28_4 rfl) rfl rfl
         | 4, _ =>
          intro val w1 a hb ha hd;have e3 : val 3 = _ := hd 3 (memB_mem.1 rfl);have ha := ha.s1 (d := 66) rfl e3
          exact hs_val ha rfl rfl (ld_26 rfl ((q1.below hb q1.lt).at (j := 5) rfl)) rfl rfl
         | 5, _ =>
          intro val w1 a hb ha hd;have ha := ha.s0 (d := 15) rfl
          exact hs_val ha rfl rfl (fa_70_1 rfl) rfl rfl
         | 6, _ =>
          intro val w1 a hb ha hd;have e5 : val 5 = _ := hd 5 (memB_mem.1 rfl);have ha := ha.s1 (d := 68) rfl e5
          exact hs_val ha rfl rfl (ld_3 rfl ((q10.below hb q10.lt).at (j := 1) rfl)) rfl rfl
         | 7, _ =>
          intro val w1 a hb ha hd;have e4 : val 4 = _ := hd 4 (memB_mem.1 rfl);have e6 : val 6 = _ := hd 6 (memB_mem.1 rfl);have ha := ha.s2 (d := 69) (e := 67) rfl e6 rfl e4
          exact hs_val ha rfl rfl (ix_26 (by show some (Value.slice Ak _ _) = _; rw [eAk]) (by show some (Value.int .i64 k) = _; rw [ekj]) hj) rfl rfl
         | 8, _ =>
          intro val w1 a hb ha hd;have e7 : val 7 = _ := hd 7 (memB_mem.1 rfl);have ha := ha.s1 (d := 70) rfl e7
          exact hs_val ha rfl rfl (fa_52_3 rfl) rfl rfl
         | 9, _ =>
          intro val w1 a hb ha hd;have e8 : val 8 = _ := hd 8 (memB_mem.1 rfl);have ha := ha.s1 (d := 71) rfl e8
          exact hs_val ha rfl rfl (ld_3 rfl (below_load hb hkc.c4)) rfl rfl
         | 10, _ =>
          intro val w1 a hb ha hd;have e2 : val 2 = _ := hd 2 (memB_mem.1 rfl);have e9 : val 9 = _ := hd 9 (memB_mem.1 rfl);have ha := ha.s2 (d := 72) (e := 65) rfl e9 rfl e2
          exact hs_val ha rfl rfl (x_add rfl rfl (by first | assumption | exact IntWalk.i64_in _ ⟨by omega, by omega⟩)) rfl rfl
         | 11, _ =>
          intro val w1 a hb ha hd;have e1 : val 1 = _ := hd 1 (memB_mem.1 rfl);have ha := ha.s1 (d := 64) rfl e1
          exact hs_val ha rfl rfl (x_assign rfl) rfl rfl
         | k + 12, h => exact absurd h (by omega)
        ·intro val wR14 hb halc hd
         have e0 : val 0 = _ := hd 0 (by omega)
         have e1 : val 1 = _ := hd 1 (by omega)
         have e2 : val 2 = _ := hd 2 (by omega)
         have e3 : val 3 = _ := hd 3 (by omega)
         have e4 : val 4 = _ := hd 4 (by omega)
         have e5 : val 5 = _ := hd 5 (by omega)
         have e6 : val 6 = _ := hd 6 (by omega)
         have e7 : val 7 = _ := hd 7 (by omega)
         have e8 : val 8 = _ := hd 8 (by omega)
         have e9 : val 9 = _ := hd 9 (by omega)
         have e10 : val 10 = _ := hd 10 (by omega)
         have e11 : val 11 = _ := hd 11 (by omega)
         refine EL.ends (cs := [_, _, _, _, _, _, _, _, _, _, _, _]) ⟨e0, e1, e2, e3, e4, e5, e6, e7, e8, e9, e10, e11, trivial⟩ rfl ?_;replace q1 := q1.bl hb;replace q4 := q4.bl hb;replace q5 := q5.bl hb;replace q10 := q10.bl hb;replace hbw := bo_ hbw hb;clear hb;refine EL.as rfl rfl (EL.nil ?_)
         exact EX.cutE () ⟨agree_i (by rw [hnk]) rfl, agree_i (by rw [hck]) rfl, trivial⟩ (by repeat first | with_reducible exact (Sub.refl _).del _ | refine sp_ rfl ?_ | exact (Sub.refl _).del _ | refine sd_ rfl ?_ | refine sn_ ?_) ⟨q1, q4, by rw [hwk]; exact q5, hbw⟩
     ·
      clear q1 q4 q5 hbw
      rintro ⟨⟩ W2 ⟨q1, q4, q5, hbw⟩
      have hwok := wayT_ok hro htk k;have hsg2 := hsg.set (k := n) hwok;obtain ⟨M, eM⟩ : ∃ z, z = (mayT ru (wayT ru (sg.getD n []) k) (js.getD i 0) ru.levels.length) := ⟨_, rfl⟩;refine EC.seq (EC.seq ?_);obtain ⟨bj, oj, ej, _, hjc⟩ := ints_cells jobs i (by omega) W2 B _ _ _ (hv.below (hbw.mono hB))
      rw [show jobs.getD i 0 = ((js.getD i 0 : Nat) : Int) by have h_ := jsI_at (js := js) hlt; rwa [hj1] at h_] at hjc
      have hgs : (sg.set n (wayT ru (sg.getD n []) k)).getD n [] = (wayT ru (sg.getD n []) k) := by rw [getD_setR hnl, if_pos rfl]
      have lt_1 := q1.lt;have lt_4 := q4.lt;have lt_5 := q5.lt;refine EC.regionP [[], [], [1], [1, 2], [], [], [4, 5], [4, 5, 6], [0, 1, 2, 3, 4, 5, 6, 7], [0, 1, 2, 3, 4, 5, 6, 7, 8], [0, 1, 2, 3, 4, 5, 6, 7, 8, 9], [0, 1, 2, 3, 4, 5, 6, 7, 8, 9], [0, 1, 2, 3, 4, 5, 6, 7, 8, 9, 10], [0, 1, 2, 3, 4, 5, 6, 7, 8, 9, 10, 11, 12]] 13 [] (phi (fun i_ r => match i_ with | 0 => r 0 = .agg #[.slice Al ru.levels.length cl, .int .i64 ru.fade.lo, .int .i64 ru.fade.hi, .slice Aa ru.allow.length ca, .slice Ap ru.apart.length cp, .slice Ak ru.kinds.length ck] | 1 => r 1 = .pointer (some ⟨g5, 0 + n * 32, none⟩) | 2 => r 2 = .pointer (some ⟨g5, 0 + n * 32, none⟩) | 3 => r 3 = .agg (tkC (wayT ru (sg.getD n []) k)).toArray | 4 => r 4 = .slice Aj jobs.length cj | 5 => r 5 = .int .i64 (i : Nat) | 6 => r 6 = .pointer (some ⟨bj, oj + i, none⟩) | 7 => r 7 = .int .i64 ((js.getD i 0) : Nat) | 8 => r 8 = .tuple #[.bool M.1, .bool M.2] | 9 => r 9 = .tuple #[.bool M.1, .bool M.2] | 10 => r 10 = .bool M.1 | 11 => r 11 = .bool M.2 | 12 => r 12 = .bool M.1 | _ => True) []) (by kernel_rfl) rfl rfl (phi_nil) (fun i_ hi_ => ?_) ?_
      ·match i_, hi_ with
       | 0, _ =>
        intro val w1 a hb ha hd;have ha := ha.s0 (d := 12) rfl
        exact hs_val ha rfl rfl (ld_116 rfl ((q4.below hb q4.lt).at (j := 0) rfl) ((q4.below hb q4.lt).at (j := 1) rfl) ((q4.below hb q4.lt).at (j := 2) rfl) ((q4.below hb q4.lt).at (j := 3) rfl) ((q4.below hb q4.lt).at (j := 4) rfl) ((q4.below hb q4.lt).at (j := 5) rfl)) rfl rfl
       | 1, _ =>
        intro val w1 a hb ha hd;have ha := ha.s0 (d := 16) rfl
        exact hs_val ha rfl rfl (x_move rfl) rfl rfl
       | 2, _ =>
        intro val w1 a hb ha hd;have e1 : val 1 = _ := hd 1 (memB_mem.1 rfl);have ha := ha.s1 (d := 76) rfl e1
        exact hs_val ha rfl rfl (x_nilCheck rfl) rfl rfl
       | 3, _ =>
        intro val w1 a hb ha hd;have e2 : val 2 = _ := hd 2 (memB_mem.1 rfl);have ha := ha.s1 (d := 77) rfl e2
        exact hs_val ha rfl rfl (x_loadA rfl (((q5.below hb q5.lt)).range (by rw [Nat.zero_add]; have h_ := tk_at hsg2.fl hn3; rwa [hgs] at h_)) Try.underlying120 rfl (sz_120.trans (congrArg some (tkC_8 hwok.n8).symm))) rfl rfl
       | 4, _ =>
        intro val w1 a hb ha hd;have ha := ha.s0 (d := 2) rfl
        exact hs_val ha rfl rfl (x_move rfl) rfl rfl
       | 5, _ =>
        intro val w1 a hb ha hd;have ha := ha.s0 (d := 14) rfl
        exact hs_val ha rfl rfl (x_move rfl) rfl rfl
       | 6, _ =>
        intro val w1 a hb ha hd;have e4 : val 4 = _ := hd 4 (memB_mem.1 rfl);have e5 : val 5 = _ := hd 5 (memB_mem.1 rfl);have ha := ha.s2 (d := 80) (e := 79) rfl e5 rfl e4
        exact hs_val ha rfl rfl (ix_22 (by show some (Value.slice Aj _ _) = _; rw [ej]) rfl (show i < jobs.length by omega)) rfl rfl
       | 7, _ =>
        intro val w1 a hb ha hd;have e6 : val 6 = _ := hd 6 (memB_mem.1 rfl);have ha := ha.s1 (d := 81) rfl e6
        exact hs_val ha rfl rfl (ld_3 rfl (below_load hb hjc)) rfl rfl
       | 8, _ =>
        intro val w1 a hb ha hd;have e0 : val 0 = _ := hd 0 (memB_mem.1 rfl);have e3 : val 3 = _ := hd 3 (memB_mem.1 rfl);have e7 : val 7 = _ := hd 7 (memB_mem.1 rfl);have ha := ha.sub (Sub.ins (d := 82) (Sub.ins (d := 78) (Sub.ins (d := 75) (Sub.nil _) (dep_get rfl e0)) (dep_get rfl e3)) (dep_get rfl e7));refine hs_call ha rfl rfl (cA3 cF65 rfl rfl rfl) (by have h_ := may_any (hr.below ((hbw.trans (hb.mono hbw.size)).mono hB)) (Nat.le_trans hB (Nat.le_trans hbw.size hb.size)) hro hwok hcg; rw [← eM] at h_; exact h_) rfl ?_
        rintro e w' ⟨rfl, hb'⟩
        exact ⟨_, rfl, hb', rfl⟩
       | 9, _ =>
        intro val w1 a hb ha hd;have e8 : val 8 = _ := hd 8 (memB_mem.1 rfl);have ha := ha.s1 (d := 83) rfl e8
        exact hs_val ha rfl rfl (x_move rfl) rfl rfl
       | 10, _ =>
        intro val w1 a hb ha hd;have e9 : val 9 = _ := hd 9 (memB_mem.1 rfl);have ha := ha.s1 (d := 74) rfl e9
        exact hs_val ha rfl rfl (x_extract rfl rfl) rfl rfl
       | 11, _ =>
        intro val w1 a hb ha hd;have e9 : val 9 = _ := hd 9 (memB_mem.1 rfl);have ha := ha.s1 (d := 74) rfl e9
        exact hs_val ha rfl rfl (x_extract rfl rfl) rfl rfl
       | 12, _ =>
        intro val w1 a hb ha hd;have e10 : val 10 = _ := hd 10 (memB_mem.1 rfl);have ha := ha.s1 (d := 84) rfl e10
        exact hs_val ha rfl rfl (x_assign rfl) rfl rfl
       | k + 13, h => exact absurd h (by omega)
      ·intro val wR15 hb halc hd
       have e0 : val 0 = _ := hd 0 (by omega)
       have e1 : val 1 = _ := hd 1 (by omega)
       have e2 : val 2 = _ := hd 2 (by omega)
       have e3 : val 3 = _ := hd 3 (by omega)
       have e4 : val 4 = _ := hd 4 (by omega)
       have e5 : val 5 = _ := hd 5 (by omega)
       have e6 : val 6 = _ := hd 6 (by omega)
       have e7 : val 7 = _ := hd 7 (by omega)
       have e8 : val 8 = _ := hd 8 (by omega)
       have e9 : val 9 = _ := hd 9 (by omega)
       have e10 : val 10 = _ := hd 10 (by omega)
       have e11 : val 11 = _ := hd 11 (by omega)
       have e12 : val 12 = _ := hd 12 (by omega)
       refine EL.ends (cs := [_, _, _, _, _, _, _, _, _, _, _, _, _]) ⟨e0, e1, e2, e3, e4, e5, e6, e7, e8, e9, e10, e11, e12, trivial⟩ rfl ?_;replace q1 := q1.bl hb;replace q4 := q4.bl hb;replace q5 := q5.bl hb;replace hbw := bo_ hbw hb;clear hb;refine EL.as rfl rfl (EL.nil (EX.seq (EC.seq (EC.region (EL.mv rfl rfl (EL.val (x_not rfl) rfl (EL.nil (EX.seq ?_))))))))
       cases hmay : M.1
       ·
        refine EC.yes rfl (EC.seq (EC.region (EL.mv rfl rfl (EL.as rfl rfl (EL.as rfl rfl (EL.as rfl rfl (EL.as rfl rfl (EL.nil (EX.seq ?_)))))))));refine EC.ret (EX.seq_ret (EX.blk_ret (EX.seq_ret (EX.seq_ret (EX.blk_ret (EX.seq_ret ?_))))));have hve : verE ru tanks jobs steps = 0 := by rw [verE, if_neg (fun h => h hy), if_neg (fun h => h hll), if_pos hal]
        have hvt : verT ru tanks jobs steps = tot := by rw [verT, if_pos hve, etot, ejs, hsy]
        have hgo : goT ru (js.getD i 0) sg (steps.getD i stp0).tank.toNat (steps.getD i stp0).wash = none := by rw [← ex, en, Int.toNat_natCast, ← ek]; unfold goT; rw [if_neg (by rw [← eM, hmay]; decide)]
        rw [ver_no hlt hls hgo] at htot
        exact EX.done (res4t rfl rfl rfl rfl rfl) ⟨ver_t hve (hvt.trans htot.symm), hbw⟩
       ·
        refine EC.no rfl (EC.skip (EX.seq ?_));obtain ⟨bj, oj, ej, _, hjc⟩ := ints_cells jobs i (by omega) wR15 B _ _ _ (hv.below (hbw.mono hB))
        rw [show jobs.getD i 0 = ((js.getD i 0 : Nat) : Int) by have h_ := jsI_at (js := js) hlt; rwa [hj1] at h_] at hjc
        have hlok := loadT_ok hwok hro (js.getD i 0);have lt_1 := q1.lt;have lt_4 := q4.lt;have lt_5 := q5.lt;refine EC.regionP [[], [], [], [2], [2, 3], [], [], [5, 6], [5, 6, 7], [1, 2, 3, 4, 5, 6, 7, 8], [0, 1, 2, 3, 4, 5, 6, 7, 8, 9], [0, 1, 2, 3, 4, 5, 6, 7, 8, 9, 10]] 10 [] (phi (fun i_ r => match i_ with | 0 => r 0 = .pointer (some ⟨g5, 0 + n * 32, none⟩) | 1 => r 1 = .agg #[.slice Al ru.levels.length cl, .int .i64 ru.fade.lo, .int .i64 ru.fade.hi, .slice Aa ru.allow.length ca, .slice Ap ru.apart.length cp, .slice Ak ru.kinds.length ck] | 2 => r 2 = .pointer (some ⟨g5, 0 + n * 32, none⟩) | 3 => r 3 = .pointer (some ⟨g5, 0 + n * 32, none⟩) | 4 => r 4 = .agg (tkC (wayT ru (sg.getD n []) k)).toArray | 5 => r 5 = .slice Aj jobs.length cj | 6 => r 6 = .int .i64 (i : Nat) | 7 => r 7 = .pointer (some ⟨bj, oj + i, none⟩) | 8 => r 8 = .int .i64 ((js.getD i 0) : Nat) | 9 => r 9 = .agg (tkC (loadT ru (wayT ru (sg.getD n []) k) (js.getD i 0))).toArray | _ => True) []) (by kernel_rfl) rfl rfl (phi_nil) (fun i_ hi_ => ?_) ?_
        ·match i_, hi_ with
         | 0, _ =>
          intro val w1 a hb ha hd;have ha := ha.s0 (d := 16) rfl
          exact hs_val ha rfl rfl (x_move rfl) rfl rfl
         | 1, _ =>
          intro val w1 a hb ha hd;have ha := ha.s0 (d := 12) rfl
          exact hs_val ha rfl rfl (ld_116 rfl ((q4.below hb q4.lt).at (j := 0) rfl) ((q4.below hb q4.lt).at (j := 1) rfl) ((q4.below hb q4.lt).at (j := 2) rfl) ((q4.below hb q4.lt).at (j := 3) rfl) ((q4.below hb q4.lt).at (j := 4) rfl) ((q4.below hb q4.lt).at (j := 5) rfl)) rfl rfl
         | 2, _ =>
          intro val w1 a hb ha hd;have ha := ha.s0 (d := 16) rfl
          exact hs_val ha rfl rfl (x_move rfl) rfl rfl
         | 3, _ =>
          intro val w1 a hb ha hd;have e2 : val 2 = _ := hd 2 (memB_mem.1 rfl);have ha := ha.s1 (d := 91) rfl e2
          exact hs_val ha rfl rfl (x_nilCheck rfl) rfl rfl
         | 4, _ =>
          intro val w1 a hb ha hd;have e3 : val 3 = _ := hd 3 (memB_mem.1 rfl);have ha := ha.s1 (d := 92) rfl e3
          exact hs_val ha rfl rfl (x_loadA rfl (((q5.below hb q5.lt)).range (by rw [Nat.zero_add]; have h_ := tk_at hsg2.fl hn3; rwa [hgs] at h_)) Try.underlying120 rfl (sz_120.trans (congrArg some (tkC_8 hwok.n8).symm))) rfl rfl
         | 5, _ =>
          intro val w1 a hb ha hd;have ha := ha.s0 (d := 2) rfl
          exact hs_val ha rfl rfl (x_move rfl) rfl rfl
         | 6, _ =>
          intro val w1 a hb ha hd;have ha := ha.s0 (d := 14) rfl
          exact hs_val ha rfl rfl (x_move rfl) rfl rfl
         | 7, _ =>
          intro val w1 a hb ha hd;have e5 : val 5 = _ := hd 5 (memB_mem.1 rfl);have e6 : val 6 = _ := hd 6 (memB_mem.1 rfl);have ha := ha.s2 (d := 95) (e := 94) rfl e6 rfl e5
          exact hs_val ha rfl rfl (ix_22 (by show some (Value.slice Aj _ _) = _; rw [ej]) rfl (show i < jobs.length by omega)) rfl rfl
         | 8, _ =>
          intro val w1 a hb ha hd;have e7 : val 7 = _ := hd 7 (memB_mem.1 rfl);have ha := ha.s1 (d := 96) rfl e7
          exact hs_val ha rfl rfl (ld_3 rfl (below_load hb hjc)) rfl rfl
         | 9, _ =>
          intro val w1 a hb ha hd;have e1 : val 1 = _ := hd 1 (memB_mem.1 rfl);have e4 : val 4 = _ := hd 4 (memB_mem.1 rfl);have e8 : val 8 = _ := hd 8 (memB_mem.1 rfl);have ha := ha.sub (Sub.ins (d := 97) (Sub.ins (d := 93) (Sub.ins (d := 90) (Sub.nil _) (dep_get rfl e1)) (dep_get rfl e4)) (dep_get rfl e8));refine hs_call ha rfl rfl (cA3 cF73 rfl rfl rfl) (load_any (hr.below ((hbw.trans (hb.mono hbw.size)).mono hB)) hro hwok hcg) rfl ?_
          rintro e w' ⟨rfl, hb'⟩
          exact ⟨_, rfl, hb', rfl⟩
         | k + 10, h => exact absurd h (by omega)
        ·intro val wR18 hb halc hd
         have e0 : val 0 = _ := hd 0 (by omega)
         have e1 : val 1 = _ := hd 1 (by omega)
         have e2 : val 2 = _ := hd 2 (by omega)
         have e3 : val 3 = _ := hd 3 (by omega)
         have e4 : val 4 = _ := hd 4 (by omega)
         have e5 : val 5 = _ := hd 5 (by omega)
         have e6 : val 6 = _ := hd 6 (by omega)
         have e7 : val 7 = _ := hd 7 (by omega)
         have e8 : val 8 = _ := hd 8 (by omega)
         have e9 : val 9 = _ := hd 9 (by omega)
         refine EL.ends (cs := [_, _, _, _, _, _, _, _, _, _]) ⟨e0, e1, e2, e3, e4, e5, e6, e7, e8, e9, trivial⟩ rfl ?_;replace q1 := q1.bl hb;replace q4 := q4.bl hb;replace q5 := q5.bl hb;replace hbw := bo_ hbw hb;clear hb;refine EL.val (x_nilCheck rfl) rfl ?_;refine EL.store (l' := tkC (loadT ru (wayT ru (sg.getD n []) k) (js.getD i 0))) rfl rfl q5 sz_120 rfl ((lenV_eq _).trans (tkC_8 (hlok).n8)) (by rw [lenV_eq, Nat.ble_eq, hsg2.fl.len]; omega) (tkC_one _) ?_
         intro w13 hq13 hg13;rw [Nat.zero_add, tk_set hsg2.fl hn3 (hlok).n8] at hq13;rw [set_over] at hq13;replace q1 := q1.gr hg13 n1_5;replace q4 := q4.gr hg13 n4_5;replace hbw := below_store hbw hg13 bhbw_5;replace q5 := hq13;clear hg13 hq13;refine EL.nil (EX.blk (EX.seq (EC.region ?_)));refine EL.val (x_add rfl rfl (c := ((i + 1 : Nat) : Int)) ((IntWalk.i64_in _ ⟨by first | omega | (simp only; omega), by first | omega | (simp only; omega)⟩).trans (by first | omega | (simp only; omega)))) rfl ?_
         refine EL.mv rfl rfl (EL.nil ?_);have hgo : goT ru (js.getD i 0) sg (steps.getD i stp0).tank.toNat (steps.getD i stp0).wash = some (sg.set n (loadT ru (wayT ru (sg.getD n []) k) (js.getD i 0))) := by rw [← ex, en, Int.toNat_natCast, ← ek]; unfold goT; rw [if_pos (by rw [← eM]; exact hmay)]
         rw [ver_yes hlt hls hgo, ← ex, ← ek] at htot;have hkb := kcost_bd hro k;have hnb : 0 ≤ numK k ∧ numK k ≤ 1 := by unfold numK; split <;> omega
         refine EX.roundD (i + 1, sg.set n (loadT ru (wayT ru (sg.getD n []) k) (js.getD i 0)), wa + numK k, co + kcost ru k) ⟨rfl, rfl, rfl, trivial⟩ (by repeat first | with_reducible exact .refl _ | refine sp_ rfl ?_ | exact .refl _ | refine sd_ rfl ?_ | refine sn_ ?_) ⟨hlt, hsg.set hlok, by simp only; omega, by simp only; omega, htot, q1, q4, q5, hbw⟩ (by simp only; omega)
    ·
     have hxe : i = js.length := by omega
     refine EC.seq (EC.region ?_);refine EL.val (x_lss rfl rfl (decide_eq_false (show ¬(((i : Nat) : Int) < ((steps.length : Nat) : Int)) by omega))) rfl ?_
     refine EL.nil (EX.seq (EC.seq (EC.no rfl (EC.exit (EX.seq_exit (EX.seq_exit (EX.blk_here (EX.seq (EC.seq ?_)))))))));refine EC.region (EL.mv rfl rfl (EL.mv rfl rfl (EL.as rfl rfl (EL.as rfl rfl (EL.as rfl rfl (EL.as rfl rfl (EL.nil (EX.seq (EC.ret ?_)))))))));have hve : verE ru tanks jobs steps = 0 := by rw [verE, if_neg (fun h => h hy), if_neg (fun h => h hll), if_pos hal]
     have hvt : verT ru tanks jobs steps = tot := by rw [verT, if_pos hve, etot, ejs, hsy]
     rw [ver_end (by omega)] at htot
     exact EX.done (res4t rfl rfl rfl rfl rfl) ⟨ver_t hve (hvt.trans htot.symm), hbw⟩
  ·
   refine EL.val (x_neq (r := true) rfl rfl (decide_eq_true (by omega))) rfl ?_
   refine EL.as rfl rfl (EL.nil (EX.seq (EC.yes rfl (EC.seq (EC.region (EL.as rfl rfl (EL.as rfl rfl (EL.as rfl rfl (EL.as rfl rfl ?_)))))))));refine EL.nil (EX.seq (EC.ret (EX.blk_ret (EX.seq_ret ?_))));have hve : verE ru tanks jobs steps = 4 := by rw [verE, if_neg (fun h => h hy), if_pos hll]
   have hvn : verE ru tanks jobs steps ≠ 0 := by rw [hve]; decide
   exact EX.done (res4t rfl rfl rfl rfl rfl) ⟨ver_t hve (by rw [verT, if_neg hvn]), hbw⟩
 ·
  refine EL.val (x_neq (r := true) rfl rfl (decide_eq_true hy)) rfl (EL.as rfl rfl (EL.nil (EX.seq (EC.yes rfl (EC.seq (EC.region (EL.mv rfl rfl (EL.as rfl rfl (EL.as rfl rfl ?_)))))))));refine EL.as rfl rfl (EL.as rfl rfl (EL.nil (EX.seq (EC.ret (EX.blk_ret (EX.seq_ret ?_))))));have hve : verE ru tanks jobs steps = yardE ru tanks jobs := by rw [verE, if_pos hy]
  have hvn : verE ru tanks jobs steps ≠ 0 := by rw [hve]; exact hy
  exact EX.done (res4t rfl rfl rfl rfl rfl) ⟨ver_t hve (by rw [verT, if_neg hvn]), hbw⟩
theorem OwnTs.other {w w' : World} {n m c g gn : Nat} {l : List Tk} {cs : Array Value} (h : OwnTs w n (.slice (some ⟨gn, 0, none⟩) m c) l) (hq : Blk w g 62 cs) (hn : gn ≠ g) (hg : w.grownBy w' (some g)) : OwnTs w' n (.slice (some ⟨gn, 0, none⟩) m c) l :=
 ⟨own_bx h.own (fun k hk => by have e : gn = k := by simpa [Value.ownBlock] using hk
                               omega) hg, fun x hx => own_type (h.res x hx) hq rfl hg, fun x hx => own_type (h.aft x hx) hq rfl hg⟩
theorem own_set2 {w w' : World} {n i k : Nat} {v : Value} {l : List Tk} {x : Tk} {xs : List Value} (h : OwnTs w n v l) (ho : w'.ownsRow 0 62 2 v (l.set i x).length (rksC n (l.set i x))) (hv : w.ownsRow 0 62 2 v k xs) (hg : w.grownBy w' v.ownBlock) (h1 : w'.ownsRow 0 24 2 (.slice x.2.1.1 n x.2.1.2) n (bdsC x.1.res)) (h2 : w'.ownsRow 0 3 1 (.slice x.2.2.1 n x.2.2.2) n (ints x.1.aft)) : OwnTs w' n v (l.set i x) := by
 refine ⟨ho, fun y hy => ?_, fun y hy => ?_⟩
 ·rcases List.mem_or_eq_of_mem_set hy with hy | rfl
  ·exact own_grown (h.res y hy) hv rfl hg
  ·exact h1
 ·rcases List.mem_or_eq_of_mem_set hy with hy | rfl
  ·exact own_grown (h.aft y hy) hv rfl hg
  ·exact h2
set_option maxHeartbeats 4000000 in
theorem rVerify_any {ru : Rules} {ua up : List Value} {vl va vp vk : Value} {w : World} {B : Nat} (hr : RdRules w B vl va vp vk ru ua up) (hB : B ≤ w.heap.size) (hro : RulesOk ru) {js : List Nat} (hjs : ∀ i, i < js.length → js.getD i 0 < ru.levels.length) (hj10 : js.length ≤ 10) {us : List Tk} {vt : Value} (hT : OwnTs w ru.levels.length vt us) (hl3 : us.length ≤ 3) (hl0 : 0 < us.length) {m : Nat} (hok : ∀ x ∈ us, RtOk ru.levels.length m x.1) (hm : m ≤ 900) {vj : Value} (hv : Rd w B 1 vj js.length (ints (jsI js))) {steps : List Stp} {vs : Value} (hst : Rd w B 2 vs steps.length (stpsC steps)) (hsl : steps.length = js.length) (hal : steps.all (stB ru us.length) = true) :
  Calls Try.prog 43 #[rulesV vl va vp vk ru, vt, vj, vs] w fun e w' => e = .returned (.tuple #[.int .i64 (verG (goR ru) (kcost ru) js steps 0 (us.map (·.1)) 0 0).1, .int .i64 (verG (goR ru) (kcost ru) js steps 0 (us.map (·.1)) 0 0).2.1, .int .i64 (verG (goR ru) (kcost ru) js steps 0 (us.map (·.1)) 0 0).2.2]) ∧ Below w.heap.size w w' := by
 obtain ⟨Al, cl, Aa, ca, Ap, cp, Ak, ck, rfl, rfl, rfl, rfl⟩ := hr.sh4;obtain ⟨Aj, cj, rfl, _⟩ := hv.shape;obtain ⟨At, ct, rfl, _⟩ := (Rd.of_own hT.own).shape;obtain ⟨As, cs, rfl, _⟩ := hst.shape;have hbw := Below.refl w.heap.size w
 unfold rulesV
 refine EC.enter 88 Try.func43 rfl rfl rfl (EC.seq (EC.region (EL.newP (bx_28 rfl) rfl ?_)));intro g1 w1 q1 hb1 hg1 hl1;have bhbw_1 := Nat.le_trans hbw.size hg1;replace hbw := bo_ hbw hb1;clear hb1 hg1 hl1;refine EL.as rfl rfl (EL.as rfl rfl (EL.as rfl rfl (EL.nil (EX.seq (EC.seq (EC.region (EL.newS (bs_64_0) rfl ?_)))))));intro g2 w2 q2 hb2 hg2 hl2;have n1_2 := q1.na hg2;have bhbw_2 := Nat.le_trans hbw.size hg2;replace q1 := q1.bl hb2;replace hbw := bo_ hbw hb2;clear hb2 hg2 hl2;have hn := own_empty (base := 0) 2 q2 (Nat.zero_le _);have hnf : ∀ b_, (Value.slice (some ⟨g2, 0, none⟩) 0 0).ownBlock = some b_ → w.heap.size ≤ b_ := slice_fr bhbw_2;refine EL.mv rfl rfl ?_;have hgz := hbw.size;have hTc := hT.below hbw;refine EL.push rk_elem rfl rfl hn (Rd.of_own hTc.own) (rksC_one _) (by omega) rfl (Nat.zero_le _) rfl ?_
 intro v3 w3 hn2 hgr _ hat;replace q1 := q1.gr hgr n1_2;replace hbw := below_store hbw hgr bhbw_2;rw [Nat.zero_add, List.nil_append] at hn2;have hnf2 := fr_push hnf hat hgz;have hO : OwnTs w3 ru.levels.length v3 us := ⟨hn2, fun x hx => own_grown (hTc.res x hx) hn rfl hgr, fun x hx => own_grown (hTc.aft x hx) hn rfl hgr⟩
 obtain ⟨gn, cn, rfl⟩ := own_slice_v hn2 (by omega)
 have hgn : w.heap.size ≤ gn := hnf2 gn rfl;clear hn hn2 hnf hnf2 hat hgr hTc;refine EL.as rfl rfl (EL.as rfl rfl (EL.as rfl rfl (EL.nil (EX.seq (EC.seq (EC.seq (EC.region (EL.as rfl rfl (EL.nil ?_)))))))));refine EX.seq (EC.block ?_);obtain ⟨tot, etot⟩ : ∃ z, z = verG (goR ru) (kcost ru) js steps 0 (us.map (·.1)) 0 0 := ⟨_, rfl⟩;refine EC.loopD [8, 9, 10, 12, 13, 14, 15, 16, 17, 18, 22, 23, 24, 25, 26, 27, 28, 29, 30, 31, 32, 33, 34, 35, 36, 37, 38, 39, 40, 41, 42, 43, 44, 45, 46, 47, 48, 49, 50, 51, 52, 53, 54, 55, 56, 57, 58, 59, 60, 61, 62, 63, 64, 65, 66, 67, 68, 69, 70, 71, 72, 73, 74, 75, 76, 77, 78, 79, 80, 81, 82, 83, 84, 85] (fun y : Nat × List Tk × Int × Int => [(14, .int .i64 (y.1 : Nat)), (12, .int .i64 y.2.2.1), (13, .int .i64 y.2.2.2)]) (fun y W => y.1 ≤ js.length ∧ y.2.1.length = us.length ∧ (∀ x ∈ y.2.1, RtOk ru.levels.length (m + 2 * y.1) x.1) ∧ (0 ≤ y.2.2.1 ∧ y.2.2.1 ≤ y.1) ∧ (0 ≤ y.2.2.2 ∧ y.2.2.2 ≤ y.1 * 100000000) ∧ verG (goR ru) (kcost ru) (js.drop y.1) (steps.drop y.1) y.1 (y.2.1.map (·.1)) y.2.2.1 y.2.2.2 = tot ∧ OwnTs W ru.levels.length (.slice (some ⟨gn, 0, none⟩) us.length cn) y.2.1 ∧ Blk W g1 28 #[.slice Al ru.levels.length cl, .int .i64 ru.fade.lo, .int .i64 ru.fade.hi, .slice Aa ru.allow.length ca, .slice Ap ru.apart.length cp, .slice Ak ru.kinds.length ck] ∧ Below w.heap.size w W) (fun y => js.length - y.1) (0, us, 0, 0) ⟨Nat.zero_le _, rfl, hok, ⟨Int.le_refl _, Int.le_refl _⟩, (by simp only; omega), etot.symm, hO, q1, hbw⟩ ⟨rfl, rfl, rfl, trivial⟩ ?_
 clear hO q1 hbw
 rintro ⟨i, ts, wa, co⟩ wx ⟨hi, htl, hokt, hwa, hco, htot, hO, q1, hbw⟩
 dsimp only at hi htl hokt hwa hco htot hO
 by_cases hlt : i < js.length
 ·
  have hls : i < steps.length := by omega
  obtain ⟨bs, os, es, _, c0, c1⟩ := stps_cells steps i hls w B _ _ _ hst;have hcg := hjs i hlt;obtain ⟨cg, ecg⟩ : ∃ z, z = js.getD i 0 := ⟨_, rfl⟩;rw [← ecg] at hcg;obtain ⟨x, ex⟩ : ∃ z, z = steps.getD i stp0 := ⟨_, rfl⟩;rw [← ex] at c0 c1;obtain ⟨n, en, hnm, hkin⟩ := stB_iff (all_getD2 hal hls);rw [← ex] at en hkin;obtain ⟨k, ek⟩ : ∃ z, z = x.wash := ⟨_, rfl⟩;rw [← ek] at c1 hkin;have hnt : n < ts.length := by omega
  have hO0 := hO.own;rw [htl] at hO0;obtain ⟨bt, ot, eT, _, d0, d1⟩ := rks_cells ts n hnt wx wx.heap.size _ _ _ (Rd.of_own hO0)
  cases eT
  obtain ⟨⟨u, ⟨U1, x1⟩, U2, x2⟩, etk⟩ : ∃ z, z = ts.getD n tk00 := ⟨_, rfl⟩;have hu1 := hO.getR hnt;have hu2 := hO.getA hnt;rw [← etk] at d0 d1 hu1 hu2
  dsimp only at d0 d1 hu1 hu2
  have hui : ts.getD n tk00 ∈ ts := by rw [getD_in hnt]; exact List.getElem_mem _
  have hur := hokt _ hui;rw [← etk] at hur
  dsimp only at hur
  have eui : (ts.map (·.1)).getD n rt0 = u := by rw [map_getD (d := tk00) hnt, ← etk]
  obtain ⟨bb, hbb⟩ : ∃ bb, decide (k ≥ 0) = bb := ⟨_, rfl⟩;refine EC.seq (EC.seq (EC.region (EL.mv rfl rfl (EL.mv rfl rfl (EL.val (ln_22 rfl) rfl ?_)))));refine EL.val (x_lss rfl rfl (decide_eq_true (show (((i : Nat) : Int) < ((js.length : Nat) : Int)) by omega))) rfl ?_
  refine EL.nil (EX.seq (EC.yes rfl (EC.skip (EX.seq (EC.seq (EC.block (EC.seq (EC.region (EL.mv rfl rfl ?_)))))))));refine EL.mv rfl rfl (EL.mv rfl rfl ?_);refine EL.val (ix_65 (by show some (Value.slice As _ _) = _; rw [es]) rfl hls) rfl ?_
  refine EL.val (fa_70_0 rfl) rfl (EL.val (ld_3 rfl (below_load hbw c0)) rfl ?_);refine EL.val (ix_64 rfl (by show some (Value.int .i64 x.tank) = _; rw [en]) hnm) rfl ?_
  refine EL.val (ld_62 rfl d0 d1) rfl (EL.newP al_62 rfl ?_);intro g4 w4 q4 hb4 hg4 hl4;have n1_4 := q1.na hg4;have bhbw_4 := Nat.le_trans hbw.size hg4;have nn4 : gn ≠ g4 := Nat.ne_of_lt (Nat.lt_of_lt_of_le (hO.own.lt gn rfl).2 hg4);replace q1 := q1.bl hb4;replace hO := hO.below hb4;replace hu1 := own_below hu1 hb4 (Nat.le_refl _);replace hu2 := own_below hu2 hb4 (Nat.le_refl _);replace hbw := bo_ hbw hb4;clear hb4 hg4 hl4;refine EL.store rfl rfl q4 sz_62 rfl rfl rfl rfl ?_;intro w5 hq5 hg5;replace q1 := q1.gr hg5 n1_4;replace hO := hO.other q4 nn4 hg5;replace hu1 := own_type hu1 q4 rfl hg5;replace hu2 := own_type hu2 q4 rfl hg5;replace hbw := below_store hbw hg5 bhbw_4;replace q4 := hq5;clear hg5 hq5;refine EL.nil (EX.seq ?_);refine EC.cutD [12, 13, 16, 36, 37, 38, 39, 40, 41, 42, 43, 44, 45, 46, 47, 48, 49, 50, 51, 52, 53, 54, 55, 56, 57] (fun y : Option Addr × Nat × Option Addr × Nat => [(12, .int .i64 (wa + numK k)), (13, .int .i64 (co + kcost ru k))]) (fun y W => Blk W g1 28 #[.slice Al ru.levels.length cl, .int .i64 ru.fade.lo, .int .i64 ru.fade.hi, .slice Aa ru.allow.length ca, .slice Ap ru.apart.length cp, .slice Ak ru.kinds.length ck] ∧ Blk W g4 62 #[.slice y.1 ru.levels.length y.2.1, .slice y.2.2.1 ru.levels.length y.2.2.2] ∧ W.ownsRow 0 24 2 (.slice y.1 ru.levels.length y.2.1) ru.levels.length (bdsC (wayR ru u k).res) ∧ W.ownsRow 0 3 1 (.slice y.2.2.1 ru.levels.length y.2.2.2) ru.levels.length (ints (wayR ru u k).aft) ∧ OwnTs W ru.levels.length (.slice (some ⟨gn, 0, none⟩) us.length cn) ts ∧ Below w.heap.size w W) ?_ ?_
  ·
   cases bb
   ·
    have hkn : k < 0 := by have := of_decide_eq_false hbb; omega
    have hwk : wayR ru u k = u := if_pos hkn;have hnk : numK k = 0 := if_pos hkn;have hck : kcost ru k = 0 := if_pos hkn;refine EC.seq (EC.region (EL.mv rfl rfl (EL.mv rfl rfl ?_)));refine EL.val (ix_65 (by show some (Value.slice As _ _) = _; rw [es]) rfl hls) rfl ?_
    refine EL.val (fa_70_1 rfl) rfl (EL.val (ld_3 rfl (below_load hbw c1)) rfl (EL.as rfl rfl (EL.nil (EX.seq (EC.seq (EC.region (EL.mv rfl rfl (EL.val (x_geq rfl rfl hbb) rfl (EL.nil ?_)))))))));refine EX.seq (EC.no rfl (EC.skip ?_))
    exact EX.cutE (U1, x1, U2, x2) ⟨agree_i (by rw [hnk, Int.add_zero]) rfl, agree_i (by rw [hck, Int.add_zero]) rfl, trivial⟩ (by repeat first | with_reducible exact (Sub.refl _).del _ | refine sp_ rfl ?_ | exact (Sub.refl _).del _ | refine sd_ rfl ?_ | refine sn_ ?_) ⟨q1, q4, by rw [hwk]; exact hu1, by rw [hwk]; exact hu2, hO, hbw⟩
   ·
    have hkn : ¬k < 0 := by have := of_decide_eq_true hbb; omega
    obtain ⟨j, hj, ekj⟩ : ∃ j : Nat, j < ru.kinds.length ∧ k = ((j : Nat) : Int) := by rcases kinds_in hkin with h | h; omega; exact h
    have hkj : k.toNat = j := by rw [ekj]; exact Int.toNat_natCast j
    have hwk : wayR ru u k = stepR ru u ⟨2, k⟩ := if_neg hkn;have hnk : numK k = 1 := if_neg hkn;have hck : kcost ru k = (ru.kinds.getD j kd0).cost := by unfold kcost; rw [if_neg hkn, hkj]
    have hkd := kd_bd hro j;refine EC.seq (EC.region (EL.mv rfl rfl (EL.mv rfl rfl ?_)));refine EL.val (ix_65 (by show some (Value.slice As _ _) = _; rw [es]) rfl hls) rfl ?_
    refine EL.val (fa_70_1 rfl) rfl (EL.val (ld_3 rfl (below_load hbw c1)) rfl (EL.as rfl rfl (EL.nil (EX.seq (EC.seq (EC.region (EL.mv rfl rfl (EL.val (x_geq rfl rfl hbb) rfl (EL.nil ?_)))))))));refine EX.seq (EC.yes rfl ?_);have hrz := (hr.below (hbw.mono hB));have hBz := (Nat.le_trans hB hbw.size);have hBg : B ≤ g4 := Nat.le_trans hB bhbw_4;obtain ⟨bk, ok, eAk, hbk, hkc⟩ := kds_cells ru.kinds j hj w5 B _ _ _ hrz.kinds;have hnk1 : bk < w5.heap.size := Nat.lt_of_lt_of_le hbk hBz;have hnk2 : some bk ≠ some g4 := fun e => by injection e with e; omega
    have qz_ := q4;have lt_1 := q1.lt;have lt_4 := q4.lt;refine EC.regionS [[], [], [], [2], [0, 1, 2, 3], [], [5], [], [], [8], [], [8, 9, 10], [8, 9, 10, 11], [8, 9, 10, 11, 12], [7, 8, 9, 10, 11, 12, 13], [0, 1, 2, 3, 4], [0, 1, 2, 3, 4, 5, 6, 15], [0, 1, 2, 3, 4, 5, 6, 7, 8, 9, 10, 11, 12, 13, 14, 15, 16]] 17 [] [15] (fun fl w_ => w5.grownBy w_ (some g4) ∧ (fl 15 = false → Blk w_ g4 62 _)) (phiS (fun i_ r => match i_ with | 0 => r 0 = .agg #[.slice Al ru.levels.length cl, .int .i64 ru.fade.lo, .int .i64 ru.fade.hi, .slice Aa ru.allow.length ca, .slice Ap ru.apart.length cp, .slice Ak ru.kinds.length ck] | 1 => r 1 = .agg #[.slice U1 ru.levels.length x1, .slice U2 ru.levels.length x2] | 2 => r 2 = .int .i64 k | 3 => r 3 = .agg #[.int .i64 2, .int .i64 k] | 5 => r 5 = .int .i64 wa | 6 => r 6 = .int .i64 (wa + 1) | 7 => r 7 = .int .i64 co | 8 => r 8 = .pointer (some ⟨g1, 5, none⟩) | 9 => r 9 = .slice Ak ru.kinds.length ck | 10 => r 10 = .int .i64 k | 11 => r 11 = .pointer (some ⟨bk, ok + j * 5, none⟩) | 12 => r 12 = .pointer (some ⟨bk, ok + j * 5 + 4, none⟩) | 13 => r 13 = .int .i64 (ru.kinds.getD j kd0).cost | 14 => r 14 = .int .i64 (co + (ru.kinds.getD j kd0).cost) | 16 => r 16 = .int .i64 (wa + 1) | _ => True) [(4, fun _ r w_ => ∃ A1 c1 A2 c2, r 4 = .agg #[.slice A1 ru.levels.length c1, .slice A2 ru.levels.length c2] ∧ w_.ownsRow 0 24 2 (.slice A1 ru.levels.length c1) ru.levels.length (bdsC (stepR ru u ⟨2, k⟩).res) ∧ w_.ownsRow 0 3 1 (.slice A2 ru.levels.length c2) ru.levels.length (ints (stepR ru u ⟨2, k⟩).aft)), (15, fun _ r w_ => ∃ A1 c1 A2 c2, Blk w_ g4 62 #[.slice A1 ru.levels.length c1, .slice A2 ru.levels.length c2] ∧ w_.ownsRow 0 24 2 (.slice A1 ru.levels.length c1) ru.levels.length (bdsC (stepR ru u ⟨2, k⟩).res) ∧ w_.ownsRow 0 3 1 (.slice A2 ru.levels.length c2) ru.levels.length (ints (stepR ru u ⟨2, k⟩).aft))]) (by kernel_rfl) rfl rfl (by intro i hi; simp at hi; first | (subst hi; exact ⟨by simp, by omega⟩) | (rcases hi with rfl | rfl | rfl <;> exact ⟨by simp, by omega⟩) | (rcases hi with rfl | rfl <;> exact ⟨by simp, by omega⟩)) (base_own q4) (phiS_cons (fun _ _ _ _ hb ⟨A1, c1, A2, c2, h1, h2, h3⟩ => ⟨A1, c1, A2, c2, h1, own_below h2 hb (Nat.le_refl _), own_below h3 hb (Nat.le_refl _)⟩) (phiS_cons (fun _ _ _ _ hb ⟨A1, c1, A2, c2, h1, h2, h3⟩ => ⟨A1, c1, A2, c2, h1.below hb h1.lt, own_below h2 hb (Nat.le_refl _), own_below h3 hb (Nat.le_refl _)⟩) (phiS_nil))) (fun i_ hi_ hs_ => ?_) (fun i_ hi_ => ?_) ?_
    ·match i_, hi_ with
     | 0, _ =>
      intro val fl w1 a hb ha hd hfl;obtain ⟨hb, hg0⟩ := hb;have ha := ha.s0 (d := 4) rfl
      exact ss_val ha rfl rfl (ld_28 rfl ((q1.grown hb (fun h => n1_4 (Option.some.inj h))).at (j := 0) rfl) ((q1.grown hb (fun h => n1_4 (Option.some.inj h))).at (j := 1) rfl) ((q1.grown hb (fun h => n1_4 (Option.some.inj h))).at (j := 2) rfl) ((q1.grown hb (fun h => n1_4 (Option.some.inj h))).at (j := 3) rfl) ((q1.grown hb (fun h => n1_4 (Option.some.inj h))).at (j := 4) rfl) ((q1.grown hb (fun h => n1_4 (Option.some.inj h))).at (j := 5) rfl)) rfl rfl
     | 1, _ =>
      intro val fl w1 a hb ha hd hfl;obtain ⟨hb, hg0⟩ := hb;have ha := ha.s0 (d := 15) rfl
      exact ss_val ha rfl rfl (ld_62 rfl ((hg0 (hfl 15 (by simp) (memB_mem.1 rfl))).at (j := 0) rfl) ((hg0 (hfl 15 (by simp) (memB_mem.1 rfl))).at (j := 1) rfl)) rfl rfl
     | 2, _ =>
      intro val fl w1 a hb ha hd hfl;obtain ⟨hb, hg0⟩ := hb;have ha := ha.s0 (d := 16) rfl
      exact ss_val ha rfl rfl (x_move rfl) rfl rfl
     | 3, _ =>
      intro val fl w1 a hb ha hd hfl;obtain ⟨hb, hg0⟩ := hb;have e2 : val 2 = _ := hd 2 (memB_mem.1 rfl);have ha := ha.s1 (d := 45) rfl e2
      exact ss_val ha rfl rfl (bd_50_0_1 rfl rfl) rfl rfl
     | 4, _ =>
      intro val fl w1 a hb ha hd hfl;obtain ⟨hb, hg0⟩ := hb;have e0 : val 0 = _ := hd 0 (memB_mem.1 rfl);have e1 : val 1 = _ := hd 1 (memB_mem.1 rfl);have e3 : val 3 = _ := hd 3 (memB_mem.1 rfl);have ha := ha.sub (Sub.ins (d := 46) (Sub.ins (d := 44) (Sub.ins (d := 43) (Sub.nil _) (dep_get rfl e0)) (dep_get rfl e1)) (dep_get rfl e3));refine ss_call ha rfl rfl (cA3 cF58 rfl rfl rfl) (Step_any (x := ⟨2, k⟩) (hrz.below (gw_B hb hBg hBz)) (Nat.le_trans hBz hb.size) hro hur (by omega) (Rd.of_own (own_type hu1 qz_ rfl hb)) (Rd.of_own (own_type hu2 qz_ rfl hb)) (Nat.le_refl _) (by rw [ekj]; exact ev_wash hj)) rfl ?_
      rintro e w' ⟨⟨B1, f1, B2, f2, rfl, p1, p2⟩, hb'⟩
      exact ⟨_, rfl, hb', ⟨B1, f1, B2, f2, rfl, own_less p1 (Nat.zero_le _), own_less p2 (Nat.zero_le _)⟩⟩
     | 5, _ =>
      intro val fl w1 a hb ha hd hfl;obtain ⟨hb, hg0⟩ := hb;have ha := ha.s0 (d := 12) rfl
      exact ss_val ha rfl rfl (x_move rfl) rfl rfl
     | 6, _ =>
      intro val fl w1 a hb ha hd hfl;obtain ⟨hb, hg0⟩ := hb;have e5 : val 5 = _ := hd 5 (memB_mem.1 rfl);have ha := ha.s1 (d := 48) rfl e5
      exact ss_val ha rfl rfl (x_add rfl rfl (by first | assumption | exact IntWalk.i64_in _ ⟨by omega, by omega⟩)) rfl rfl
     | 7, _ =>
      intro val fl w1 a hb ha hd hfl;obtain ⟨hb, hg0⟩ := hb;have ha := ha.s0 (d := 13) rfl
      exact ss_val ha rfl rfl (x_move rfl) rfl rfl
     | 8, _ =>
      intro val fl w1 a hb ha hd hfl;obtain ⟨hb, hg0⟩ := hb;have ha := ha.s0 (d := 4) rfl
      exact ss_val ha rfl rfl (fa_28_4 rfl) rfl rfl
     | 9, _ =>
      intro val fl w1 a hb ha hd hfl;obtain ⟨hb, hg0⟩ := hb;have e8 : val 8 = _ := hd 8 (memB_mem.1 rfl);have ha := ha.s1 (d := 51) rfl e8
      exact ss_val ha rfl rfl (ld_26 rfl ((q1.grown hb (fun h => n1_4 (Option.some.inj h))).at (j := 5) rfl)) rfl rfl
     | 10, _ =>
      intro val fl w1 a hb ha hd hfl;obtain ⟨hb, hg0⟩ := hb;have ha := ha.s0 (d := 16) rfl
      exact ss_val ha rfl rfl (x_move rfl) rfl rfl
     | 11, _ =>
      intro val fl w1 a hb ha hd hfl;obtain ⟨hb, hg0⟩ := hb;have e9 : val 9 = _ := hd 9 (memB_mem.1 rfl);have e10 : val 10 = _ := hd 10 (memB_mem.1 rfl);have ha := ha.s2 (d := 53) (e := 52) rfl e10 rfl e9
      exact ss_val ha rfl rfl (ix_26 (by show some (Value.slice Ak _ _) = _; rw [eAk]) (by show some (Value.int .i64 k) = _; rw [ekj]) hj) rfl rfl
     | 12, _ =>
      intro val fl w1 a hb ha hd hfl;obtain ⟨hb, hg0⟩ := hb;have e11 : val 11 = _ := hd 11 (memB_mem.1 rfl);have ha := ha.s1 (d := 54) rfl e11
      exact ss_val ha rfl rfl (fa_52_3 rfl) rfl rfl
     | 13, _ =>
      intro val fl w1 a hb ha hd hfl;obtain ⟨hb, hg0⟩ := hb;have e12 : val 12 = _ := hd 12 (memB_mem.1 rfl);have ha := ha.s1 (d := 55) rfl e12
      exact ss_val ha rfl rfl (ld_3 rfl ((hb.cell_far ⟨bk, ok + j * 5 + 4, none⟩ hnk1 hnk2).trans hkc.c4)) rfl rfl
     | 14, _ =>
      intro val fl w1 a hb ha hd hfl;obtain ⟨hb, hg0⟩ := hb;have e7 : val 7 = _ := hd 7 (memB_mem.1 rfl);have e13 : val 13 = _ := hd 13 (memB_mem.1 rfl);have ha := ha.s2 (d := 56) (e := 50) rfl e13 rfl e7
      exact ss_val ha rfl rfl (x_add rfl rfl (by first | assumption | exact IntWalk.i64_in _ ⟨by omega, by omega⟩)) rfl rfl
     | 15, _ =>
      exact absurd (by simp) hs_
     | 16, _ =>
      intro val fl w1 a hb ha hd hfl;obtain ⟨hb, hg0⟩ := hb;have e6 : val 6 = _ := hd 6 (memB_mem.1 rfl);have ha := ha.s1 (d := 49) rfl e6
      exact ss_val ha rfl rfl (x_assign rfl) rfl rfl
     | k + 17, h => exact absurd h (by omega)
    ·simp only [List.mem_singleton] at hi_; subst hi_
     intro val fl w1 a hb hfi ha hd hfl;obtain ⟨hb, hg0⟩ := hb;obtain ⟨B1_, f1_, B2_, f2_, e4, p1_, p2_⟩ := hd 4 (memB_mem.1 rfl);have ha := ha.sub (Sub.ins (d := 47) (Sub.ins (d := 15) (Sub.nil _) rfl) (dep_get rfl e4));refine ts_store ha rfl rfl rfl (hg0 hfi) sz_62 rfl rfl rfl rfl ?_;intro w' hq hgr;refine ⟨undef, rfl, hgr.size, ⟨grown_two hb hgr, fun h => by rw [fset_eq] at h; cases h⟩, ⟨_, _, _, _, hq, own_type p1_ (hg0 hfi) rfl hgr, own_type p2_ (hg0 hfi) rfl hgr⟩, fun j _ hj hn hA => ?_⟩
     exact phiS_cons_st (C := fun j => j ≠ 15 ∧ 15 ∉ clsAt [[], [], [], [2], [0, 1, 2, 3], [], [5], [], [], [8], [], [8, 9, 10], [8, 9, 10, 11], [8, 9, 10, 11, 12], [7, 8, 9, 10, 11, 12, 13], [0, 1, 2, 3, 4], [0, 1, 2, 3, 4, 5, 6, 15], [0, 1, 2, 3, 4, 5, 6, 7, 8, 9, 10, 11, 12, 13, 14, 15, 16]] j ∧ ∀ p ∈ [], (p = j ∨ p ∈ clsAt [[], [], [], [2], [0, 1, 2, 3], [], [5], [], [], [8], [], [8, 9, 10], [8, 9, 10, 11], [8, 9, 10, 11, 12], [7, 8, 9, 10, 11, 12, 13], [0, 1, 2, 3, 4], [0, 1, 2, 3, 4, 5, 6, 15], [0, 1, 2, 3, 4, 5, 6, 7, 8, 9, 10, 11, 12, 13, 14, 15, 16]] j) → ∀ q ∈ [], (q = 15 ∨ q ∈ clsAt [[], [], [], [2], [0, 1, 2, 3], [], [5], [], [], [8], [], [8, 9, 10], [8, 9, 10, 11], [8, 9, 10, 11, 12], [7, 8, 9, 10, 11, 12, 13], [0, 1, 2, 3, 4], [0, 1, 2, 3, 4, 5, 6, 15], [0, 1, 2, 3, 4, 5, 6, 7, 8, 9, 10, 11, 12, 13, 14, 15, 16]] 15) → p ≠ q → val p ≠ val q) (fun _ ⟨A1, c1, A2, c2, h1, h2, h3⟩ => ⟨A1, c1, A2, c2, h1, own_type h2 (hg0 hfi) rfl hgr, own_type h3 (hg0 hfi) rfl hgr⟩) (phiS_cons_st (C := fun j => j ≠ 15 ∧ 15 ∉ clsAt [[], [], [], [2], [0, 1, 2, 3], [], [5], [], [], [8], [], [8, 9, 10], [8, 9, 10, 11], [8, 9, 10, 11, 12], [7, 8, 9, 10, 11, 12, 13], [0, 1, 2, 3, 4], [0, 1, 2, 3, 4, 5, 6, 15], [0, 1, 2, 3, 4, 5, 6, 7, 8, 9, 10, 11, 12, 13, 14, 15, 16]] j ∧ ∀ p ∈ [], (p = j ∨ p ∈ clsAt [[], [], [], [2], [0, 1, 2, 3], [], [5], [], [], [8], [], [8, 9, 10], [8, 9, 10, 11], [8, 9, 10, 11, 12], [7, 8, 9, 10, 11, 12, 13], [0, 1, 2, 3, 4], [0, 1, 2, 3, 4, 5, 6, 15], [0, 1, 2, 3, 4, 5, 6, 7, 8, 9, 10, 11, 12, 13, 14, 15, 16]] j) → ∀ q ∈ [], (q = 15 ∨ q ∈ clsAt [[], [], [], [2], [0, 1, 2, 3], [], [5], [], [], [8], [], [8, 9, 10], [8, 9, 10, 11], [8, 9, 10, 11, 12], [7, 8, 9, 10, 11, 12, 13], [0, 1, 2, 3, 4], [0, 1, 2, 3, 4, 5, 6, 15], [0, 1, 2, 3, 4, 5, 6, 7, 8, 9, 10, 11, 12, 13, 14, 15, 16]] 15) → p ≠ q → val p ≠ val q) (fun hc => absurd rfl hc.1) (fun _ _ h => h)) j ⟨hj, hn, hA⟩
    ·intro val fl wR8 hfl hb halc hd
     obtain ⟨hb, _⟩ := hb;have e0 : val 0 = _ := hd 0 (by omega)
     have e1 : val 1 = _ := hd 1 (by omega)
     have e2 : val 2 = _ := hd 2 (by omega)
     have e3 : val 3 = _ := hd 3 (by omega)
     obtain ⟨B1_, f1_, B2_, f2_, e4, p1_, p2_⟩ := hd 4 (by omega)
     change val 4 = _ at e4;have e5 : val 5 = _ := hd 5 (by omega)
     have e6 : val 6 = _ := hd 6 (by omega)
     have e7 : val 7 = _ := hd 7 (by omega)
     have e8 : val 8 = _ := hd 8 (by omega)
     have e9 : val 9 = _ := hd 9 (by omega)
     have e10 : val 10 = _ := hd 10 (by omega)
     have e11 : val 11 = _ := hd 11 (by omega)
     have e12 : val 12 = _ := hd 12 (by omega)
     have e13 : val 13 = _ := hd 13 (by omega)
     have e14 : val 14 = _ := hd 14 (by omega)
     have e16 : val 16 = _ := hd 16 (by omega)
     refine EL.ends (cs := [_, _, _, _, _, _, _, _, _, _, _, _, _, _, _, val 15, _]) ⟨e0, e1, e2, e3, e4, e5, e6, e7, e8, e9, e10, e11, e12, e13, e14, rfl, e16, trivial⟩ rfl ?_;replace q1 := q1.gr hb n1_4;obtain ⟨V1, f1, V2, f2, q4, p1, p2⟩ := hd 15 (by omega)
     replace hO := hO.other qz_ nn4 hb;replace hbw := below_store hbw hb bhbw_4;refine EL.as rfl rfl (EL.nil ?_)
     exact EX.cutE (V1, f1, V2, f2) ⟨agree_i (by rw [hnk]) rfl, agree_i (by rw [hck]) rfl, trivial⟩ (by repeat first | with_reducible exact (Sub.refl _).del _ | refine sp_ rfl ?_ | exact (Sub.refl _).del _ | refine sd_ rfl ?_ | refine sn_ ?_) ⟨q1, q4, by rw [hwk]; exact p1, by rw [hwk]; exact p2, hO, hbw⟩
  ·
   clear q1 q4 hu1 hu2 hO hbw
   rintro ⟨V1, f1, V2, f2⟩ W2 ⟨q1, q4, hu1, hu2, hO, hbw⟩
   dsimp only at q4 hu1 hu2
   obtain ⟨M, eM⟩ : ∃ z, z = mayR ru (wayR ru u k) cg ru.levels.length := ⟨_, rfl⟩;have hway := way_rt hro hur hkin;refine EC.seq (EC.seq ?_);obtain ⟨bj, oj, ej, _, hjc⟩ := ints_cells (jsI js) i (by rw [jsI_len]; exact hlt) W2 B _ _ _ (hv.below (hbw.mono hB))
   rw [jsI_at hlt, ← ecg] at hjc;have hrz := (hr.below (hbw.mono hB));have hBz := (Nat.le_trans hB hbw.size);have lt_1 := q1.lt;have lt_4 := q4.lt;refine EC.regionP [[], [], [], [], [2, 3], [2, 3, 4], [0, 1, 2, 3, 4, 5], [0, 1, 2, 3, 4, 5, 6], [0, 1, 2, 3, 4, 5, 6, 7], [0, 1, 2, 3, 4, 5, 6, 7], [0, 1, 2, 3, 4, 5, 6, 7, 8], [0, 1, 2, 3, 4, 5, 6, 7, 8, 9, 10]] 11 [] (phi (fun i_ r => match i_ with | 0 => r 0 = .agg #[.slice Al ru.levels.length cl, .int .i64 ru.fade.lo, .int .i64 ru.fade.hi, .slice Aa ru.allow.length ca, .slice Ap ru.apart.length cp, .slice Ak ru.kinds.length ck] | 1 => r 1 = .agg #[.slice V1 ru.levels.length f1, .slice V2 ru.levels.length f2] | 2 => r 2 = .slice Aj js.length cj | 3 => r 3 = .int .i64 (i : Nat) | 4 => r 4 = .pointer (some ⟨bj, oj + i, none⟩) | 5 => r 5 = .int .i64 (cg : Nat) | 6 => r 6 = .tuple #[.bool M.1, .bool M.2] | 7 => r 7 = .tuple #[.bool M.1, .bool M.2] | 8 => r 8 = .bool M.1 | 9 => r 9 = .bool M.2 | 10 => r 10 = .bool M.1 | _ => True) []) (by kernel_rfl) rfl rfl (phi_nil) (fun i_ hi_ => ?_) ?_
   ·match i_, hi_ with
    | 0, _ =>
     intro val w1 a hb ha hd;have ha := ha.s0 (d := 4) rfl
     exact hs_val ha rfl rfl (ld_28 rfl ((q1.below hb q1.lt).at (j := 0) rfl) ((q1.below hb q1.lt).at (j := 1) rfl) ((q1.below hb q1.lt).at (j := 2) rfl) ((q1.below hb q1.lt).at (j := 3) rfl) ((q1.below hb q1.lt).at (j := 4) rfl) ((q1.below hb q1.lt).at (j := 5) rfl)) rfl rfl
    | 1, _ =>
     intro val w1 a hb ha hd;have ha := ha.s0 (d := 15) rfl
     exact hs_val ha rfl rfl (ld_62 rfl ((q4.below hb q4.lt).at (j := 0) rfl) ((q4.below hb q4.lt).at (j := 1) rfl)) rfl rfl
    | 2, _ =>
     intro val w1 a hb ha hd;have ha := ha.s0 (d := 2) rfl
     exact hs_val ha rfl rfl (x_move rfl) rfl rfl
    | 3, _ =>
     intro val w1 a hb ha hd;have ha := ha.s0 (d := 14) rfl
     exact hs_val ha rfl rfl (x_move rfl) rfl rfl
    | 4, _ =>
     intro val w1 a hb ha hd;have e2 : val 2 = _ := hd 2 (memB_mem.1 rfl);have e3 : val 3 = _ := hd 3 (memB_mem.1 rfl);have ha := ha.s2 (d := 62) (e := 61) rfl e3 rfl e2
     exact hs_val ha rfl rfl (ix_22 (by show some (Value.slice Aj _ _) = _; rw [ej]) rfl hlt) rfl rfl
    | 5, _ =>
     intro val w1 a hb ha hd;have e4 : val 4 = _ := hd 4 (memB_mem.1 rfl);have ha := ha.s1 (d := 63) rfl e4
     exact hs_val ha rfl rfl (ld_3 rfl (below_load hb hjc)) rfl rfl
    | 6, _ =>
     intro val w1 a hb ha hd;have e0 : val 0 = _ := hd 0 (memB_mem.1 rfl);have e1 : val 1 = _ := hd 1 (memB_mem.1 rfl);have e5 : val 5 = _ := hd 5 (memB_mem.1 rfl);have ha := ha.sub (Sub.ins (d := 64) (Sub.ins (d := 60) (Sub.ins (d := 59) (Sub.nil _) (dep_get rfl e0)) (dep_get rfl e1)) (dep_get rfl e5));refine hs_call ha rfl rfl (cA3 cF36 rfl rfl rfl) (by have h_ := rMay_any (hrz.below (hb.mono hBz)) (Nat.le_trans hBz hb.size) hro hway (Rd.of_own (own_below hu1 hb (Nat.le_refl _))) (Rd.of_own (own_below hu2 hb (Nat.le_refl _))) (Nat.le_refl _) hcg; rw [← eM] at h_; exact h_) rfl ?_
     rintro e w' ⟨rfl, hb'⟩
     exact ⟨_, rfl, hb', rfl⟩
    | 7, _ =>
     intro val w1 a hb ha hd;have e6 : val 6 = _ := hd 6 (memB_mem.1 rfl);have ha := ha.s1 (d := 65) rfl e6
     exact hs_val ha rfl rfl (x_move rfl) rfl rfl
    | 8, _ =>
     intro val w1 a hb ha hd;have e7 : val 7 = _ := hd 7 (memB_mem.1 rfl);have ha := ha.s1 (d := 58) rfl e7
     exact hs_val ha rfl rfl (x_extract rfl rfl) rfl rfl
    | 9, _ =>
     intro val w1 a hb ha hd;have e7 : val 7 = _ := hd 7 (memB_mem.1 rfl);have ha := ha.s1 (d := 58) rfl e7
     exact hs_val ha rfl rfl (x_extract rfl rfl) rfl rfl
    | 10, _ =>
     intro val w1 a hb ha hd;have e8 : val 8 = _ := hd 8 (memB_mem.1 rfl);have ha := ha.s1 (d := 66) rfl e8
     exact hs_val ha rfl rfl (x_assign rfl) rfl rfl
    | k + 11, h => exact absurd h (by omega)
   ·intro val wR9 hb halc hd
    have e0 : val 0 = _ := hd 0 (by omega)
    have e1 : val 1 = _ := hd 1 (by omega)
    have e2 : val 2 = _ := hd 2 (by omega)
    have e3 : val 3 = _ := hd 3 (by omega)
    have e4 : val 4 = _ := hd 4 (by omega)
    have e5 : val 5 = _ := hd 5 (by omega)
    have e6 : val 6 = _ := hd 6 (by omega)
    have e7 : val 7 = _ := hd 7 (by omega)
    have e8 : val 8 = _ := hd 8 (by omega)
    have e9 : val 9 = _ := hd 9 (by omega)
    have e10 : val 10 = _ := hd 10 (by omega)
    refine EL.ends (cs := [_, _, _, _, _, _, _, _, _, _, _]) ⟨e0, e1, e2, e3, e4, e5, e6, e7, e8, e9, e10, trivial⟩ rfl ?_;replace q1 := q1.bl hb;replace q4 := q4.bl hb;replace hO := hO.below hb;replace hu1 := own_below hu1 hb (Nat.le_refl _);replace hu2 := own_below hu2 hb (Nat.le_refl _);replace hbw := bo_ hbw hb;clear hb;refine EL.as rfl rfl (EL.nil (EX.seq (EC.seq (EC.region (EL.mv rfl rfl (EL.val (x_not rfl) rfl (EL.nil (EX.seq ?_))))))))
    cases hmay : M.1
    ·
     refine EC.yes rfl (EC.seq (EC.region (EL.mv rfl rfl (EL.as rfl rfl (EL.as rfl rfl (EL.as rfl rfl (EL.nil (EX.seq (EC.ret ?_)))))))));refine EX.seq_ret (EX.blk_ret (EX.seq_ret (EX.seq_ret (EX.blk_ret (EX.seq_ret ?_)))));have hgo : goR ru (js.getD i 0) (ts.map (·.1)) (steps.getD i stp0).tank.toNat (steps.getD i stp0).wash = none := by rw [← ex, en, Int.toNat_natCast, ← ek, ← ecg]; unfold goR; rw [eui, if_neg (by rw [← eM, hmay]; decide)]
     rw [ver_no hlt hls hgo] at htot
     exact EX.done (res3 rfl rfl rfl rfl) ⟨by rw [← etot, ← htot], hbw⟩
    ·
     refine EC.no rfl (EC.skip (EX.seq ?_));obtain ⟨bj, oj, ej, _, hjc⟩ := ints_cells (jsI js) i (by rw [jsI_len]; exact hlt) wR9 B _ _ _ (hv.below (hbw.mono hB))
     rw [jsI_at hlt, ← ecg] at hjc;have hrz := (hr.below (hbw.mono hB));have hBz := (Nat.le_trans hB hbw.size);have lt_1 := q1.lt;have lt_4 := q4.lt;refine EC.regionP [[], [], [], [1, 2], [1, 2, 3], [1, 2, 3, 4], [], [], [], [], [8, 9], [8, 9, 10], [8, 9, 10, 11], [6, 7, 8, 9, 10, 11, 12], [0, 1, 2, 3, 4, 5, 6, 7, 8, 9, 10, 11, 12, 13], [0, 1, 2, 3, 4, 5, 6, 7, 8, 9, 10, 11, 12, 13, 14]] 14 [] (phi (fun i_ r => match i_ with | 0 => r 0 = .slice (some ⟨gn, 0, none⟩) us.length cn | 1 => r 1 = .slice As steps.length cs | 2 => r 2 = .int .i64 (i : Nat) | 3 => r 3 = .pointer (some ⟨bs, os + i * 2, none⟩) | 4 => r 4 = .pointer (some ⟨bs, os + i * 2, none⟩) | 5 => r 5 = .int .i64 x.tank | 6 => r 6 = .agg #[.slice Al ru.levels.length cl, .int .i64 ru.fade.lo, .int .i64 ru.fade.hi, .slice Aa ru.allow.length ca, .slice Ap ru.apart.length cp, .slice Ak ru.kinds.length ck] | 7 => r 7 = .agg #[.slice V1 ru.levels.length f1, .slice V2 ru.levels.length f2] | 8 => r 8 = .slice Aj js.length cj | 9 => r 9 = .int .i64 (i : Nat) | 10 => r 10 = .pointer (some ⟨bj, oj + i, none⟩) | 11 => r 11 = .int .i64 (cg : Nat) | 12 => r 12 = .agg #[.int .i64 1, .int .i64 (cg : Nat)] | _ => True) [(13, fun r w_ => ∃ A1 c1 A2 c2, r 13 = .agg #[.slice A1 ru.levels.length c1, .slice A2 ru.levels.length c2] ∧ w_.ownsRow 0 24 2 (.slice A1 ru.levels.length c1) ru.levels.length (bdsC (loadR ru (wayR ru u k) cg).res) ∧ w_.ownsRow 0 3 1 (.slice A2 ru.levels.length c2) ru.levels.length (ints (loadR ru (wayR ru u k) cg).aft))]) (by kernel_rfl) rfl rfl (phi_cons mono_rt (phi_nil)) (fun i_ hi_ => ?_) ?_
     ·match i_, hi_ with
      | 0, _ =>
       intro val w1 a hb ha hd;have ha := ha.s0 (d := 11) rfl
       exact hs_val ha rfl rfl (x_move rfl) rfl rfl
      | 1, _ =>
       intro val w1 a hb ha hd;have ha := ha.s0 (d := 3) rfl
       exact hs_val ha rfl rfl (x_move rfl) rfl rfl
      | 2, _ =>
       intro val w1 a hb ha hd;have ha := ha.s0 (d := 14) rfl
       exact hs_val ha rfl rfl (x_move rfl) rfl rfl
      | 3, _ =>
       intro val w1 a hb ha hd;have e1 : val 1 = _ := hd 1 (memB_mem.1 rfl);have e2 : val 2 = _ := hd 2 (memB_mem.1 rfl);have ha := ha.s2 (d := 73) (e := 72) rfl e2 rfl e1
       exact hs_val ha rfl rfl (ix_65 (by show some (Value.slice As _ _) = _; rw [es]) rfl hls) rfl rfl
      | 4, _ =>
       intro val w1 a hb ha hd;have e3 : val 3 = _ := hd 3 (memB_mem.1 rfl);have ha := ha.s1 (d := 74) rfl e3
       exact hs_val ha rfl rfl (fa_70_0 rfl) rfl rfl
      | 5, _ =>
       intro val w1 a hb ha hd;have e4 : val 4 = _ := hd 4 (memB_mem.1 rfl);have ha := ha.s1 (d := 75) rfl e4
       exact hs_val ha rfl rfl (ld_3 rfl (below_load hb (below_load hbw c0))) rfl rfl
      | 6, _ =>
       intro val w1 a hb ha hd;have ha := ha.s0 (d := 4) rfl
       exact hs_val ha rfl rfl (ld_28 rfl ((q1.below hb q1.lt).at (j := 0) rfl) ((q1.below hb q1.lt).at (j := 1) rfl) ((q1.below hb q1.lt).at (j := 2) rfl) ((q1.below hb q1.lt).at (j := 3) rfl) ((q1.below hb q1.lt).at (j := 4) rfl) ((q1.below hb q1.lt).at (j := 5) rfl)) rfl rfl
      | 7, _ =>
       intro val w1 a hb ha hd;have ha := ha.s0 (d := 15) rfl
       exact hs_val ha rfl rfl (ld_62 rfl ((q4.below hb q4.lt).at (j := 0) rfl) ((q4.below hb q4.lt).at (j := 1) rfl)) rfl rfl
      | 8, _ =>
       intro val w1 a hb ha hd;have ha := ha.s0 (d := 2) rfl
       exact hs_val ha rfl rfl (x_move rfl) rfl rfl
      | 9, _ =>
       intro val w1 a hb ha hd;have ha := ha.s0 (d := 14) rfl
       exact hs_val ha rfl rfl (x_move rfl) rfl rfl
      | 10, _ =>
       intro val w1 a hb ha hd;have e8 : val 8 = _ := hd 8 (memB_mem.1 rfl);have e9 : val 9 = _ := hd 9 (memB_mem.1 rfl);have ha := ha.s2 (d := 80) (e := 79) rfl e9 rfl e8
       exact hs_val ha rfl rfl (ix_22 (by show some (Value.slice Aj _ _) = _; rw [ej]) rfl hlt) rfl rfl
      | 11, _ =>
       intro val w1 a hb ha hd;have e10 : val 10 = _ := hd 10 (memB_mem.1 rfl);have ha := ha.s1 (d := 81) rfl e10
       exact hs_val ha rfl rfl (ld_3 rfl (below_load hb hjc)) rfl rfl
      | 12, _ =>
       intro val w1 a hb ha hd;have e11 : val 11 = _ := hd 11 (memB_mem.1 rfl);have ha := ha.s1 (d := 82) rfl e11
       exact hs_val ha rfl rfl (bd_50_0_1 rfl rfl) rfl rfl
      | 13, _ =>
       intro val w1 a hb ha hd;have e6 : val 6 = _ := hd 6 (memB_mem.1 rfl);have e7 : val 7 = _ := hd 7 (memB_mem.1 rfl);have e12 : val 12 = _ := hd 12 (memB_mem.1 rfl);have ha := ha.sub (Sub.ins (d := 83) (Sub.ins (d := 78) (Sub.ins (d := 77) (Sub.nil _) (dep_get rfl e6)) (dep_get rfl e7)) (dep_get rfl e12));refine hs_call ha rfl rfl (cA3 cF58 rfl rfl rfl) (Step_any (x := ⟨1, ((cg : Nat) : Int)⟩) (hrz.below (hb.mono hBz)) (Nat.le_trans hBz hb.size) hro hway (by omega) (Rd.of_own (own_below hu1 hb (Nat.le_refl _))) (Rd.of_own (own_below hu2 hb (Nat.le_refl _))) (Nat.le_refl _) (ev_load hcg)) rfl ?_
       rintro e w' ⟨⟨B1, d1, B2, d2, rfl, p1, p2⟩, hb'⟩
       exact ⟨_, rfl, hb', ⟨B1, d1, B2, d2, rfl, own_less p1 (Nat.zero_le _), own_less p2 (Nat.zero_le _)⟩⟩
      | k + 14, h => exact absurd h (by omega)
     ·intro val wR12 hb halc hd
      have e0 : val 0 = _ := hd 0 (by omega)
      have e1 : val 1 = _ := hd 1 (by omega)
      have e2 : val 2 = _ := hd 2 (by omega)
      have e3 : val 3 = _ := hd 3 (by omega)
      have e4 : val 4 = _ := hd 4 (by omega)
      have e5 : val 5 = _ := hd 5 (by omega)
      have e6 : val 6 = _ := hd 6 (by omega)
      have e7 : val 7 = _ := hd 7 (by omega)
      have e8 : val 8 = _ := hd 8 (by omega)
      have e9 : val 9 = _ := hd 9 (by omega)
      have e10 : val 10 = _ := hd 10 (by omega)
      have e11 : val 11 = _ := hd 11 (by omega)
      have e12 : val 12 = _ := hd 12 (by omega)
      obtain ⟨X1, y1, X2, y2, e13, ho1, ho2⟩ := hd 13 (by omega)
      refine EL.ends (cs := [_, _, _, _, _, _, _, _, _, _, _, _, _, _]) ⟨e0, e1, e2, e3, e4, e5, e6, e7, e8, e9, e10, e11, e12, e13, trivial⟩ rfl ?_;replace q1 := q1.bl hb;replace q4 := q4.bl hb;replace hO := hO.below hb;replace hu1 := own_below hu1 hb (Nat.le_refl _);replace hu2 := own_below hu2 hb (Nat.le_refl _);replace hbw := bo_ hbw hb;clear hb;refine EL.val (ix_64 rfl (by show some (Value.int .i64 x.tank) = _; rw [en]) hnm) rfl ?_
      have hOo := hO.own;rw [htl] at hOo;refine EL.storeRow (l' := rkC ru.levels.length ((loadR ru (wayR ru u k) cg), (X1, y1), (X2, y2))) rfl rfl hOo sz_62 rfl rfl (by rw [rksC_len, Nat.zero_add]; omega) rfl ?_
      intro w6 hO2 hgr;rw [Nat.zero_add, rks_set hnt] at hO2;have hOn : OwnTs w6 ru.levels.length (.slice (some ⟨gn, 0, none⟩) us.length cn) (ts.set n ((loadR ru (wayR ru u k) cg), (X1, y1), (X2, y2))) := own_set2 hO (by rw [List.length_set, htl]; exact hO2) hOo hgr (own_grown ho1 hOo rfl hgr) (own_grown ho2 hOo rfl hgr)
      replace q1 := blk_grown q1 hOo rfl hgr;replace hbw := below_store hbw hgr hgn;refine EL.nil (EX.blk (EX.seq (EC.region (EL.mv rfl rfl ?_))));refine EL.val (x_add rfl rfl (c := ((i + 1 : Nat) : Int)) ((IntWalk.i64_in _ ⟨by first | omega | (simp only; omega), by first | omega | (simp only; omega)⟩).trans (by first | omega | (simp only; omega)))) rfl ?_
      refine EL.as rfl rfl (EL.nil ?_);have hgo : goR ru (js.getD i 0) (ts.map (·.1)) (steps.getD i stp0).tank.toNat (steps.getD i stp0).wash = some ((ts.map (·.1)).set n (loadR ru (wayR ru u k) cg)) := by rw [← ex, en, Int.toNat_natCast, ← ek, ← ecg]; unfold goR; rw [eui, if_pos (by rw [← eM]; exact hmay)]
      rw [ver_yes hlt hls hgo, ← ex, ← ek] at htot;have hkb := kcost_bd hro k;have hnb : 0 ≤ numK k ∧ numK k ≤ 1 := by unfold numK; split <;> omega
      refine EX.roundD (i + 1, ts.set n ((loadR ru (wayR ru u k) cg), (X1, y1), (X2, y2)), wa + numK k, co + kcost ru k) ⟨rfl, rfl, rfl, trivial⟩ (by repeat first | with_reducible exact .refl _ | refine sp_ rfl ?_ | exact .refl _ | refine sd_ rfl ?_ | refine sn_ ?_) ⟨hlt, by simp only; rw [List.length_set]; exact htl, ok_set (fun x hx => (hokt x hx).more (by simp only; omega)) ((load_rt hro hway hcg).more (by simp only; omega)), by simp only; omega, by simp only; omega, by simp only; rw [List.map_set]; exact htot, hOn, q1, hbw⟩ (by simp only; omega)
 ·
  have hxe : i = js.length := by omega
  refine EC.seq (EC.seq (EC.region (EL.mv rfl rfl (EL.mv rfl rfl (EL.val (ln_22 rfl) rfl ?_)))));refine EL.val (x_lss rfl rfl (decide_eq_false (show ¬(((i : Nat) : Int) < ((js.length : Nat) : Int)) by omega))) rfl ?_
  refine EL.nil (EX.seq (EC.no rfl (EC.exit (EX.seq_exit (EX.seq_exit (EX.blk_here (EX.seq (EC.seq (EC.region ?_)))))))));refine EL.mv rfl rfl (EL.mv rfl rfl (EL.as rfl rfl (EL.as rfl rfl (EL.as rfl rfl (EL.nil (EX.seq (EC.ret ?_)))))));rw [ver_end (by omega)] at htot
  exact EX.done (res3 rfl rfl rfl rfl) ⟨by rw [← etot, ← htot], hbw⟩
section
variable {n : Nat} {σ : Sg} {w : World} {dst : Option Tmp} {ty : TypeId} {pos : String} {af : Array Edge} {g : Option (Nat × Bool)} {x y z : Operand} {at' : Array TypeId}
theorem neq_70 {a0 a1 b0 b1 : Int} {r : Bool} (hx : evS σ x = some (.agg #[.int .i64 a0, .int .i64 a1])) (hy : evS σ y = some (.agg #[.int .i64 b0, .int .i64 b1])) (hc : decide (¬ (a0 = b0 ∧ a1 = b1)) = r) : Gives Try.prog n σ w ⟨dst, .binOp .neq 70 x y 70, ty, pos, af, g⟩ (.bool r) := fun a ha => by
 subst hc
 simp only [execOp, ha.eval hx, ha.eval hy]
 go_simp
 repeat' split
 all_goals simp_all
theorem bs_96_0 (a : Act) (_ : Env n σ a) : (execOp a.eval ⟨dst, .buildSlice 96 0 #[], ty, pos, af, g⟩).run Try.prog w = .ok (.value (.slice (some ⟨w.heap.size, 0, none⟩) 0 0)) (w.alloc (.cells #[] 29)) := by
 simp only [execOp]
 go_simp
theorem bs_96_1 {x0 : Operand} {A0 : Option Addr} {m0 c0 : Nat} (h0 : evS σ x0 = some (.slice A0 m0 c0)) (a : Act) (ha : Env n σ a) : (execOp a.eval ⟨dst, .buildSlice 96 1 #[(0, x0)], ty, pos, af, g⟩).run Try.prog w = .ok (.value (.slice (some ⟨w.heap.size, 0, none⟩) 1 1)) (w.alloc (.cells #[.slice A0 m0 c0] 29)) := by
 simp only [execOp, List.map_toArray, List.map_cons, List.map_nil, ha.eval h0]
 go_simp
end
theorem same_any {l : List St} {v u : Value} {w : World} (ha : Rd w w.heap.size 2 v l.length (stsC l)) (hb : Rd w w.heap.size 2 u l.length (stsC l)) (hl : l.length ≤ 1000000) :
  Calls Try.prog 42 #[v, u] w fun e w' => e = .returned (.bool true) ∧ Below w.heap.size w w' := by
 obtain ⟨Ai, ci_, rfl, _⟩ := ha.shape;obtain ⟨Aj, cj_, rfl, _⟩ := hb.shape;have hbw := Below.refl w.heap.size w;refine EC.enter 26 Try.func42 rfl rfl rfl (EC.seq (EC.region (EL.as rfl rfl (EL.nil (EX.seq (EC.seq (EC.seq (EC.region (EL.mv rfl rfl ?_)))))))));refine EL.val (ln_65 rfl) rfl (EL.mv rfl rfl (EL.val (ln_65 rfl) rfl ?_));refine EL.val (x_neq (r := false) rfl rfl (decide_eq_false (fun h => h rfl))) rfl ?_
 refine EL.nil (EX.seq (EC.no rfl (EC.skip (EX.seq (EC.seq (EC.seq (EC.region (EL.as rfl rfl (EL.nil ?_)))))))));refine EX.seq (EC.block ?_);refine EC.loopD [4, 5, 11, 12, 13, 14, 15, 16, 17, 18, 19, 20, 21, 22, 23, 24, 25] (fun x : Nat => [(5, .int .i64 (x : Nat))]) (fun x W => x ≤ l.length ∧ Below w.heap.size w W) (fun x => l.length - x) 0 ⟨Nat.zero_le _, hbw⟩ ⟨rfl, trivial⟩ ?_
 clear hbw
 rintro k wk ⟨hk, hbw⟩
 by_cases hlt : k < l.length
 ·
  obtain ⟨b1, o1, e1_, _, x0, x1⟩ := sts_cells l k hlt w _ _ _ _ ha;obtain ⟨b2, o2, e2_, _, y0, y1⟩ := sts_cells l k hlt w _ _ _ _ hb;refine EC.seq (EC.seq (EC.region (EL.mv rfl rfl (EL.mv rfl rfl (EL.val (ln_65 rfl) rfl ?_)))));refine EL.val (x_lss rfl rfl (decide_eq_true (show (((k : Nat) : Int) < ((l.length : Nat) : Int)) by omega))) rfl ?_
  refine EL.nil (EX.seq (EC.yes rfl (EC.skip (EX.seq (EC.seq (EC.block (EC.seq ?_)))))));refine EC.regionQ (by kernel_rfl) (by kernel_rfl) ?_
  refine EQ.mv rfl rfl (EQ.mv rfl rfl ?_);refine EQ.val (fun _ hw => (ix_65 (by show some (Value.slice Ai _ _) = _; rw [e1_]) rfl hlt)) rfl ?_
  refine EQ.val (fun _ hw => (ld_70 rfl (below_load hw (below_load hbw x0)) (below_load hw (below_load hbw x1)))) rfl ?_
  refine EQ.mv rfl rfl (EQ.mv rfl rfl ?_);refine EQ.val (fun _ hw => (ix_65 (by show some (Value.slice Aj _ _) = _; rw [e2_]) rfl hlt)) rfl ?_
  refine EQ.val (fun _ hw => (ld_70 rfl (below_load hw (below_load hbw y0)) (below_load hw (below_load hbw y1)))) rfl ?_
  refine EQ.val (fun _ hw => (neq_70 (r := false) rfl rfl (by simp))) rfl ?_
  refine EQ.fin (fun w1 hw_ => ?_)
  replace hbw := bo_ hbw hw_;clear hw_;refine EX.seq (EC.no rfl (EC.skip (EX.blk (EX.seq (EC.region (EL.mv rfl rfl ?_))))));refine EL.val (x_add rfl rfl (c := ((k + 1 : Nat) : Int)) ((IntWalk.i64_in _ ⟨by omega, by omega⟩).trans (by omega))) rfl ?_
  refine EL.as rfl rfl (EL.nil ?_);refine EX.roundD (k + 1) ⟨rfl, trivial⟩ (by repeat first | with_reducible exact .refl _ | refine sp_ rfl ?_ | exact .refl _ | refine sd_ rfl ?_ | refine sn_ ?_) ⟨hlt, hbw⟩ (by omega)
 ·
  refine EC.seq (EC.seq (EC.region (EL.mv rfl rfl (EL.mv rfl rfl (EL.val (ln_65 rfl) rfl ?_)))));refine EL.val (x_lss rfl rfl (decide_eq_false (show ¬(((k : Nat) : Int) < ((l.length : Nat) : Int)) by omega))) rfl ?_
  refine EL.nil (EX.seq (EC.no rfl (EC.exit (EX.seq_exit (EX.seq_exit (EX.blk_here (EX.seq (EC.seq (EC.region ?_)))))))));refine EL.as rfl rfl (EL.nil (EX.seq (EC.ret ?_)))
  exact EX.done (res1 rfl rfl) ⟨rfl, hbw⟩
theorem rle_info : (Try.prog.info? 29).map (fun i => (i.zero, i.size, i.bytes)) = some (some (.slice none 0 0), 1, 24) := by kernel_rfl
theorem rle_elem : Elem Try.prog 96 29 1 24 := Elem.mk' Try.underlying96 rle_info rfl (by omega)
/-- histories of one's own -/
structure OwnLE (W : World) (base : Nat) (v : Value) (ls : List (List Ev)) (us : List Value) : Prop where
 len : us.length = ls.length
 own : W.ownsRow base 29 1 v ls.length us
 rows : ∀ i, i < ls.length → W.ownsRow base 50 2 (us.getD i undef) (ls.getD i []).length (evsC (ls.getD i []))
section
variable {W W' : World} {base : Nat} {v : Value} {ls : List (List Ev)} {us : List Value}
theorem OwnLE.below (h : OwnLE W base v ls us) (hb : Below W.heap.size W W') : OwnLE W' base v ls us := ⟨h.len, own_below h.own hb (Nat.le_refl _), fun i hi => own_below (h.rows i hi) hb (Nat.le_refl _)⟩
theorem OwnLE.rd (h : OwnLE W base v ls us) : RdLL evC 2 W W.heap.size v ls us := ⟨h.len, Rd.of_own h.own, fun i hi => Rd.of_own (h.rows i hi)⟩
theorem OwnLE.push {v' u : Value} {l : List Ev} (h : OwnLE W base v ls us) (ho : W'.ownsRow base 29 1 v' (ls.length + 1) (us ++ [u])) (hg : W.grownBy W' v.ownBlock) (hu : W.ownsRow base 50 2 u l.length (evsC l)) : OwnLE W' base v' (ls ++ [l]) (us ++ [u]) := by
 refine ⟨by simp [h.len], by rw [List.length_append]; exact ho, fun i hi => ?_⟩
 have hi' : i < ls.length + 1 := by simpa using hi
 by_cases e : i < ls.length
 ·have e1 : (us ++ [u]).getD i undef = us.getD i undef := by simp [List.getD, List.getElem?_append_left, h.len, e]
  have e2 : (ls ++ [l]).getD i [] = ls.getD i [] := by simp [List.getD, List.getElem?_append_left, e]
  rw [e1, e2]
  exact own_grown (h.rows i e) h.own rfl hg
 ·have e0 : i = ls.length := by omega
  subst e0;have e1 : (us ++ [u]).getD ls.length undef = u := by simp [List.getD, ← h.len]
  have e2 : (ls ++ [l]).getD ls.length [] = l := by simp [List.getD]
  rw [e1, e2]
  exact own_grown hu h.own rfl hg
end
theorem all_any {tt : List (List Ev)} {vt : Value} {ut : List Value} {w : World} {B : Nat} (ht : RdLL evC 2 w B vt tt ut) (hB : B ≤ w.heap.size) (htn : tt.length ≤ 1000) (htr : ∀ i, i < tt.length → (tt.getD i []).length ≤ 1048576) :
  Calls Try.prog 39 #[vt] w fun e w' => (∃ v' us, e = .returned v' ∧ RdLL evC 2 w' w'.heap.size v' tt us) ∧ Below w.heap.size w w' := by
 obtain ⟨At, ct, rfl, _⟩ := ht.rd.shape;have hbw := Below.refl w.heap.size w;refine EC.enter 21 Try.func39 rfl rfl rfl (EC.seq (EC.region (EL.as rfl rfl (EL.nil (EX.seq (EC.seq (EC.region (EL.newS (bs_96_0) rfl ?_))))))));intro g1 w1 q1 hb1 hg1 hl1;have bhbw_1 := Nat.le_trans hbw.size hg1;have hbg1 : w.heap.size ≤ g1 := Nat.le_trans hbw.size hg1;replace hbw := bo_ hbw hb1;clear hb1 hg1 hl1;have hL : OwnLE w1 w.heap.size (.slice (some ⟨g1, 0, none⟩) 0 0) [] [] := ⟨rfl, own_empty 1 q1 hbg1, fun i hi => absurd hi (by simp)⟩
 refine EL.as rfl rfl (EL.nil (EX.seq (EC.seq (EC.seq (EC.region (EL.as rfl rfl (EL.nil (EX.seq (EC.block ?_)))))))));refine EC.loopD [3, 4, 6, 7, 8, 9, 10, 11, 12, 13, 14, 15, 16, 17, 18, 19] (fun x : Nat × Value × List Value => [(4, .int .i64 (x.1 : Nat)), (3, x.2.1)]) (fun x W => x.1 ≤ tt.length ∧ OwnLE W w.heap.size x.2.1 (tt.take x.1) x.2.2 ∧ Below w.heap.size w W) (fun x => tt.length - x.1) (0, .slice (some ⟨g1, 0, none⟩) 0 0, []) ⟨Nat.zero_le _, hL, hbw⟩ ⟨rfl, rfl, trivial⟩ ?_
 clear hbw hL
 rintro ⟨i, v3, us⟩ wx ⟨hi, hL, hbw⟩
 dsimp only at hi hL
 by_cases hlt : i < tt.length
 ·
  obtain ⟨bt, ot, eAt, _, htc⟩ := vals_cells ut i (by rw [ht.len]; exact hlt) wx B _ _ _ (ht.rd.below (hbw.mono hB))
  have hrr := ht.row i hlt;refine EC.seq (EC.seq (EC.region (EL.mv rfl rfl (EL.mv rfl rfl (EL.val (ln_96 rfl) rfl ?_)))));refine EL.val (x_lss rfl rfl (decide_eq_true (show (((i : Nat) : Int) < ((tt.length : Nat) : Int)) by omega))) rfl ?_
  refine EL.nil (EX.seq (EC.yes rfl (EC.skip (EX.seq (EC.seq (EC.block (EC.region (EL.mv rfl rfl (EL.mv rfl rfl ?_)))))))));refine EL.mv rfl rfl ?_;refine EL.val (ix_96 (by show some (Value.slice At _ _) = _; rw [eAt]) rfl hlt) rfl ?_
  refine EL.val (ld_29 rfl htc) rfl (EL.call (cA1 cF15 rfl) rfl (events_any (hrr.below (hbw.mono hB)) (Nat.le_trans hB hbw.size) (htr i hlt)) ?_)
  rintro e w2 ⟨⟨v2, rfl, ho⟩, hc2⟩
  refine ⟨_, rfl, ?_⟩;replace ho := own_less ho hbw.size;replace hL := hL.below hc2;replace hbw := bo_ hbw hc2;clear hc2;obtain ⟨Av, cv, rfl, _⟩ := (Rd.of_own ho).shape;refine EL.newS (bs_96_1 rfl) rfl ?_;intro g3 w3 q3 hb3 hg3 hl3;have bhbw_3 := Nat.le_trans hbw.size hg3;have hbg3 : w.heap.size ≤ g3 := Nat.le_trans hbw.size hg3;replace hL := hL.below hb3;replace ho := own_below ho hb3 (Nat.le_refl _);replace hbw := bo_ hbw hb3;clear hb3 hg3 hl3;refine EL.push rle_elem rfl rfl hL.own (rd_one (l := [.slice Av (tt.getD i []).length cv]) q3 rfl) (by intro u hu; simp only [List.mem_cons, List.not_mem_nil, or_false] at hu; subst hu; rfl) (by rw [List.length_take]; omega) rfl hbw.size rfl ?_
  intro v9 w9 ho9 hgr hb_ hat;have hL9 := hL.push ho9 hgr ho;replace hbw := hbw.trans hb_;clear hL hgr hb_ hat ho ho9;refine EL.as rfl rfl (EL.nil (EX.blk (EX.seq (EC.region (EL.mv rfl rfl ?_)))));refine EL.val (x_add rfl rfl (c := ((i + 1 : Nat) : Int)) ((IntWalk.i64_in _ ⟨by first | omega | (simp only; omega), by first | omega | (simp only; omega)⟩).trans (by first | omega | (simp only; omega)))) rfl ?_
  refine EL.as rfl rfl (EL.nil ?_);refine EX.roundD (i + 1, v9, us ++ [.slice Av (tt.getD i []).length cv]) ⟨rfl, rfl, trivial⟩ (by repeat first | with_reducible exact .refl _ | refine sp_ rfl ?_ | exact .refl _ | refine sd_ rfl ?_ | refine sn_ ?_) ⟨hlt, by simp only; rw [List.take_succ_eq_append_getElem hlt, ← getD_in (d := []) hlt]; exact hL9, hbw⟩ (by simp only; omega)
 ·
  have hxe : i = tt.length := by omega
  rw [hxe, List.take_length] at hL;refine EC.seq (EC.seq (EC.region (EL.mv rfl rfl (EL.mv rfl rfl (EL.val (ln_96 rfl) rfl ?_)))));refine EL.val (x_lss rfl rfl (decide_eq_false (show ¬(((i : Nat) : Int) < ((tt.length : Nat) : Int)) by omega))) rfl ?_
  refine EL.nil (EX.seq (EC.no rfl (EC.exit (EX.seq_exit (EX.seq_exit (EX.blk_here (EX.seq (EC.seq (EC.region ?_)))))))));refine EL.mv rfl rfl (EL.as rfl rfl (EL.nil (EX.seq (EC.ret ?_))))
  exact EX.done (res1 rfl rfl) ⟨⟨_, us, rfl, hL.rd⟩, hbw⟩
set_option maxHeartbeats 1000000 in
theorem heavy_any {ru : Rules} {ua up : List Value} {vl va vp vk : Value} {w : World} {B : Nat} (hr : RdRules w B vl va vp vk ru ua up) (hB : B ≤ w.heap.size) {tanks : List (List Ev)} {vt : Value} {ut : List Value} (ht : RdLL evC 2 w B vt tanks ut) :
  Calls Try.prog 37 #[rulesV vl va vp vk ru, vt] w fun e w' => (∃ b, e = .returned (.bool b) ∧ (b = false → tanks.length ≤ 5 ∧ Wee ru [] ∧ ∀ k, k < tanks.length → Wee ru (tanks.getD k []))) ∧ Below w.heap.size w w' := by
 obtain ⟨Al, cl, Aa, ca, Ap, cp, Ak, ck, rfl, rfl, rfl, rfl⟩ := hr.sh4;obtain ⟨At, ct, rfl, _⟩ := ht.rd.shape;have hbw := Below.refl w.heap.size w
 unfold rulesV
 refine EC.enter 29 Try.func37 rfl rfl rfl (EC.seq (EC.region (EL.newP (bx_28 rfl) rfl ?_)));intro g1 w1 q1 hb1 hg1 hl1;have bhbw_1 := Nat.le_trans hbw.size hg1;replace hbw := bo_ hbw hb1;clear hb1 hg1 hl1;refine EL.as rfl rfl (EL.nil (EX.seq (EC.seq (EC.seq (EC.region (EL.as rfl rfl (EL.nil (EX.seq (EC.block ?_)))))))));refine EC.loopD [4, 5, 6, 7, 8, 9, 10, 11, 12, 13, 14, 15, 16, 17, 18, 19, 20, 21] (fun x : Nat => [(5, .int .i64 (x : Nat))]) (fun x W => x ≤ tanks.length ∧ x ≤ 6 ∧ (∀ k, k < x → Wee ru (tanks.getD k [])) ∧ Blk W g1 28 #[.slice Al ru.levels.length cl, .int .i64 ru.fade.lo, .int .i64 ru.fade.hi, .slice Aa ru.allow.length ca, .slice Ap ru.apart.length cp, .slice Ak ru.kinds.length ck] ∧ Below w.heap.size w W) (fun x => tanks.length - x) 0 ⟨Nat.zero_le _, Nat.zero_le _, fun k hk => absurd hk (by omega), q1, hbw⟩ ⟨rfl, trivial⟩ ?_
 clear q1 hbw
 rintro i wx ⟨hi, hi6, hall, q1, hbw⟩
 by_cases hlt : i < tanks.length
 ·
  obtain ⟨bt, ot, eAt, _, htc⟩ := vals_cells ut i (by rw [ht.len]; exact hlt) wx B _ _ _ (ht.rd.below (hbw.mono hB))
  by_cases hi5 : i < 6
  ·
   refine EC.seq (EC.seq (EC.region (EL.mv rfl rfl (EL.mv rfl rfl (EL.val (ln_96 rfl) rfl ?_)))));refine EL.val (x_lss rfl rfl (decide_eq_true (show (((i : Nat) : Int) < ((tanks.length : Nat) : Int)) by omega))) rfl ?_
   refine EL.mv rfl rfl (EL.mg rfl rfl rfl rfl ?_);refine EL.valg rfl rfl (x_lss (r := true) rfl rfl (decide_eq_true (by omega))) rfl ?_
   refine EL.pt rfl rfl rfl (EL.nil (EX.seq (EC.yes rfl (EC.skip (EX.seq (EC.seq (EC.block (EC.seq ?_))))))));have lt_1 := q1.lt;refine EC.regionP [[], [], [], [1, 2], [1, 2, 3], [0, 1, 2, 3, 4]] 5 [] (phi (fun i_ r => match i_ with | 0 => r 0 = .agg #[.slice Al ru.levels.length cl, .int .i64 ru.fade.lo, .int .i64 ru.fade.hi, .slice Aa ru.allow.length ca, .slice Ap ru.apart.length cp, .slice Ak ru.kinds.length ck] | 1 => r 1 = .slice At tanks.length ct | 2 => r 2 = .int .i64 (i : Nat) | 3 => r 3 = .pointer (some ⟨bt, ot + i, none⟩) | 4 => r 4 = (ut.getD i undef) | _ => True) []) (by kernel_rfl) rfl rfl (phi_nil) (fun i_ hi_ => ?_) ?_
   ·match i_, hi_ with
    | 0, _ =>
     intro val w1 a hb ha hd;have ha := ha.s0 (d := 2) rfl
     exact hs_val ha rfl rfl (ld_28 rfl ((q1.below hb q1.lt).at (j := 0) rfl) ((q1.below hb q1.lt).at (j := 1) rfl) ((q1.below hb q1.lt).at (j := 2) rfl) ((q1.below hb q1.lt).at (j := 3) rfl) ((q1.below hb q1.lt).at (j := 4) rfl) ((q1.below hb q1.lt).at (j := 5) rfl)) rfl rfl
    | 1, _ =>
     intro val w1 a hb ha hd;have ha := ha.s0 (d := 1) rfl
     exact hs_val ha rfl rfl (x_move rfl) rfl rfl
    | 2, _ =>
     intro val w1 a hb ha hd;have ha := ha.s0 (d := 5) rfl
     exact hs_val ha rfl rfl (x_move rfl) rfl rfl
    | 3, _ =>
     intro val w1 a hb ha hd;have e1 : val 1 = _ := hd 1 (memB_mem.1 rfl);have e2 : val 2 = _ := hd 2 (memB_mem.1 rfl);have ha := ha.s2 (d := 18) (e := 17) rfl e2 rfl e1
     exact hs_val ha rfl rfl (ix_96 (by show some (Value.slice At _ _) = _; rw [eAt]) rfl hlt) rfl rfl
    | 4, _ =>
     intro val w1 a hb ha hd;have e3 : val 3 = _ := hd 3 (memB_mem.1 rfl);have ha := ha.s1 (d := 19) rfl e3
     exact hs_val ha rfl rfl (ld_29 rfl (below_load hb htc)) rfl rfl
    | k + 5, h => exact absurd h (by omega)
   ·intro val wR4 hb halc hd
    have e0 : val 0 = _ := hd 0 (by omega)
    have e1 : val 1 = _ := hd 1 (by omega)
    have e2 : val 2 = _ := hd 2 (by omega)
    have e3 : val 3 = _ := hd 3 (by omega)
    have e4 : val 4 = _ := hd 4 (by omega)
    refine EL.ends (cs := [_, _, _, _, _]) ⟨e0, e1, e2, e3, e4, trivial⟩ rfl ?_;replace q1 := q1.bl hb;replace hbw := bo_ hbw hb;clear hb;refine EL.call (cA2 cF11 rfl rfl) rfl (great_any (hr.below (hbw.mono hB)) (Nat.le_trans hB hbw.size) ((ht.row i hlt).below (hbw.mono hB))) ?_
    rintro e wB ⟨⟨bB, rfl, hgr⟩, hcB⟩
    cases bB
    ·
     refine ⟨_, rfl, ?_⟩;replace q1 := q1.bl hcB;replace hbw := bo_ hbw hcB;clear hcB;refine EL.nil (EX.seq (EC.no rfl (EC.skip (EX.blk (EX.seq (EC.region (EL.mv rfl rfl ?_)))))));refine EL.val (x_add rfl rfl (c := ((i + 1 : Nat) : Int)) ((IntWalk.i64_in _ ⟨by first | omega | (simp only; omega), by first | omega | (simp only; omega)⟩).trans (by first | omega | (simp only; omega)))) rfl ?_
     refine EL.as rfl rfl (EL.nil ?_);refine EX.roundD (i + 1) ⟨rfl, trivial⟩ (by repeat first | with_reducible exact .refl _ | refine sp_ rfl ?_ | exact .refl _ | refine sd_ rfl ?_ | refine sn_ ?_) ⟨hlt, by omega, (fun k hk => by rcases Nat.lt_or_ge k i with h0 | h0; exact hall k h0; rw [show k = i by omega]; exact hgr rfl), q1, hbw⟩ (by omega)
    ·
     refine ⟨_, rfl, ?_⟩;replace q1 := q1.bl hcB;replace hbw := bo_ hbw hcB;clear hcB;refine EL.nil (EX.seq (EC.yes rfl (EC.seq (EC.region (EL.as rfl rfl (EL.nil (EX.seq (EC.ret (EX.blk_ret ?_)))))))));refine EX.seq_ret (EX.seq_ret (EX.blk_ret (EX.seq_ret ?_)))
     exact EX.done (res1 rfl rfl) ⟨⟨_, rfl, (fun h => by cases h)⟩, hbw⟩
  ·
   refine EC.seq (EC.seq (EC.region (EL.mv rfl rfl (EL.mv rfl rfl (EL.val (ln_96 rfl) rfl ?_)))));refine EL.val (x_lss rfl rfl (decide_eq_true (show (((i : Nat) : Int) < ((tanks.length : Nat) : Int)) by omega))) rfl ?_
   refine EL.mv rfl rfl (EL.mg rfl rfl rfl rfl ?_);refine EL.valg rfl rfl (x_lss (r := false) rfl rfl (decide_eq_false (by omega))) rfl ?_
   refine EL.pt rfl rfl rfl (EL.nil (EX.seq (EC.no rfl (EC.exit (EX.seq_exit (EX.seq_exit (EX.blk_here (EX.seq (EC.seq ?_)))))))));refine EC.region (EL.mv rfl rfl (EL.val (ln_96 rfl) rfl ?_));refine EL.val (x_gtr (r := true) rfl rfl (decide_eq_true (by omega))) rfl ?_
   refine EL.mv rfl rfl (EL.skip rfl rfl rfl rfl (EL.skip rfl rfl rfl rfl (EL.pt rfl rfl rfl (EL.as rfl rfl (EL.nil (EX.seq (EC.ret ?_)))))))
   exact EX.done (res1 rfl rfl) ⟨⟨_, rfl, (fun h => by cases h)⟩, hbw⟩
 ·
  refine EC.seq (EC.seq (EC.region (EL.mv rfl rfl (EL.mv rfl rfl (EL.val (ln_96 rfl) rfl ?_)))));refine EL.val (x_lss rfl rfl (decide_eq_false (show ¬(((i : Nat) : Int) < ((tanks.length : Nat) : Int)) by omega))) rfl ?_
  refine EL.mv rfl rfl (EL.skip rfl rfl rfl rfl (EL.skip rfl rfl rfl rfl (EL.pf rfl rfl rfl (EL.nil (EX.seq (EC.no rfl (EC.exit (EX.seq_exit (EX.seq_exit ?_)))))))));refine EX.blk_here (EX.seq (EC.seq (EC.region (EL.mv rfl rfl (EL.val (ln_96 rfl) rfl ?_)))))
  by_cases h5 : 5 < tanks.length
  ·
   refine EL.val (x_gtr (r := true) rfl rfl (decide_eq_true (by omega))) rfl ?_
   refine EL.mv rfl rfl (EL.skip rfl rfl rfl rfl (EL.skip rfl rfl rfl rfl (EL.pt rfl rfl rfl (EL.as rfl rfl (EL.nil (EX.seq (EC.ret ?_)))))))
   exact EX.done (res1 rfl rfl) ⟨⟨_, rfl, (fun h => by cases h)⟩, hbw⟩
  ·
   refine EL.val (x_gtr (r := false) rfl rfl (decide_eq_false (by omega))) rfl ?_
   refine EL.mv rfl rfl (EL.valg rfl rfl (ld_28 rfl (q1.at (j := 0) rfl) (q1.at (j := 1) rfl) (q1.at (j := 2) rfl) (q1.at (j := 3) rfl) (q1.at (j := 4) rfl) (q1.at (j := 5) rfl)) rfl (EL.callg rfl rfl (cA2 cF11 rfl rfl) rfl (great_any (hr.below (hbw.mono hB)) (Nat.le_trans hB hbw.size) (l := []) (Rd.nil_ _ _ _)) ?_))
   rintro e wB ⟨⟨bB, rfl, hgr0⟩, hcB⟩
   cases bB
   ·
    refine ⟨_, rfl, ?_⟩;replace q1 := q1.bl hcB;replace hbw := bo_ hbw hcB;clear hcB;refine EL.pf rfl rfl rfl (EL.as rfl rfl (EL.nil (EX.seq (EC.ret ?_))))
    exact EX.done (res1 rfl rfl) ⟨⟨_, rfl, fun _ => ⟨by omega, hgr0 rfl, fun k hk => hall k (by omega)⟩⟩, hbw⟩
   ·
    refine ⟨_, rfl, ?_⟩;replace q1 := q1.bl hcB;replace hbw := bo_ hbw hcB;clear hcB;refine EL.pf rfl rfl rfl (EL.as rfl rfl (EL.nil (EX.seq (EC.ret ?_))))
    exact EX.done (res1 rfl rfl) ⟨⟨_, rfl, (fun h => by cases h)⟩, hbw⟩
theorem OwnTs.push {w w' : World} {n : Nat} {v v' : Value} {l : List Tk} {x : Tk} (h : OwnTs w n v l) (ho : w'.ownsRow 0 62 2 v' (l.length + 1) (rksC n l ++ rkC n x)) (hg : w.grownBy w' v.ownBlock) (h1 : w.ownsRow 0 24 2 (.slice x.2.1.1 n x.2.1.2) n (bdsC x.1.res)) (h2 : w.ownsRow 0 3 1 (.slice x.2.2.1 n x.2.2.2) n (ints x.1.aft)) : OwnTs w' n v' (l ++ [x]) := by
 refine ⟨?_, fun y hy => ?_, fun y hy => ?_⟩
 ·rw [List.length_append, show rksC n (l ++ [x]) = rksC n l ++ rkC n x by simp [rksC]]
  exact ho
 ·rcases List.mem_append.1 hy with hy | hy
  ·exact own_grown (h.res y hy) h.own rfl hg
  ·rw [List.mem_singleton.1 hy]; exact own_grown h1 h.own rfl hg
 ·rcases List.mem_append.1 hy with hy | hy
  ·exact own_grown (h.aft y hy) h.own rfl hg
  ·rw [List.mem_singleton.1 hy]; exact own_grown h2 h.own rfl hg
theorem below_fresh {w0 w w' : World} {row : Option Nat} (hb : Below w0.heap.size w0 w) (hg : w.grownBy w' row) (h : ∀ b, row = some b → w0.heap.size ≤ b) : Below w0.heap.size w0 w' := ⟨hg.os.trans hb.os, hg.tape.trans hb.tape, hg.output.trans hb.output, Nat.le_trans hb.size hg.size, fun k hk => (hg.block k (Nat.lt_of_lt_of_le hk hb.size) (fun e => by have := h k e.symm; omega)).trans (hb.block k hk)⟩
set_option maxHeartbeats 1000000 in
theorem fleet_any {ru : Rules} {ua up : List Value} {vl va vp vk : Value} {w : World} {B : Nat} (hr : RdRules w B vl va vp vk ru ua up) (hB : B ≤ w.heap.size) (hs : Short ru) {tanks : List (List Ev)} {vt : Value} {ut : List Value} (ht : RdLL evC 2 w B vt tanks ut) (htn : ∀ i, i < tanks.length → (tanks.getD i []).length ≤ 1048576) (htl0 : tanks.length ≤ 1000) {jobs : List Int} {vj : Value} (hv : Rd w B 1 vj jobs.length (ints jobs)) (hjn : jobs.length ≤ 1000) :
  Calls Try.prog 41 #[rulesV vl va vp vk ru, vt, vj] w fun e w' => (∃ v, e = .returned (.tuple #[v, .int .i64 (yardE ru tanks jobs)]) ∧ (yardE ru tanks jobs = 0 → ∃ ts, OwnTs w' ru.levels.length v ts ∧ ts.map (·.1) = tanks.map (afterR ru) ∧ ∀ y ∈ ts, RtOk ru.levels.length 100 y.1)) ∧ Below w.heap.size w w' := by
 obtain ⟨Al, cl, Aa, ca, Ap, cp, Ak, ck, rfl, rfl, rfl, rfl⟩ := hr.sh4;obtain ⟨At, ct, rfl, _⟩ := ht.rd.shape;obtain ⟨Aj, cj, rfl, _⟩ := hv.shape;have hbw := Below.refl w.heap.size w
 unfold rulesV
 refine EC.enter 52 Try.func41 rfl rfl rfl (EC.seq (EC.region (EL.newP (bx_28 rfl) rfl ?_)));intro g1 w1 q1 hb1 hg1 hl1;have bhbw_1 := Nat.le_trans hbw.size hg1;replace hbw := bo_ hbw hb1;clear hb1 hg1 hl1;refine EL.as rfl rfl (EL.as rfl rfl (EL.nil (EX.seq (EC.seq (EC.block (EC.seq (EC.region (EL.val (ld_28 rfl (q1.at (j := 0) rfl) (q1.at (j := 1) rfl) (q1.at (j := 2) rfl) (q1.at (j := 3) rfl) (q1.at (j := 4) rfl) (q1.at (j := 5) rfl)) rfl ?_))))))))
 cases hrb : rulesB ru
 ·
  refine EL.call (cA1 cF35 rfl) rfl (Rules_to (hr.below (hbw.mono hB)) (Nat.le_trans hB hbw.size) hs hrb) ?_
  rintro e w2 ⟨rfl, hc2⟩
  refine ⟨_, rfl, ?_⟩;replace q1 := q1.bl hc2;replace hbw := bo_ hbw hc2;clear hc2;refine EL.val (x_not rfl) rfl (EL.as rfl rfl (EL.nil (EX.seq (EC.yes rfl (EC.seq (EC.region (EL.as rfl rfl (EL.as rfl rfl (EL.nil ?_)))))))));refine EX.seq (EC.ret (EX.blk_ret (EX.seq_ret ?_)));have hye : yardE ru tanks jobs = 2 := by unfold yardE; rw [hrb]; rfl
  exact EX.done (res2 rfl rfl rfl) ⟨⟨_, by rw [hye], fun h => absurd h (by rw [hye]; decide)⟩, hbw⟩
 ·
  have hro := rules_ok hrb;refine EL.call (cA1 cF35 rfl) rfl (Rules_to (hr.below (hbw.mono hB)) (Nat.le_trans hB hbw.size) hs hrb) ?_
  rintro e w3 ⟨rfl, hc3⟩
  refine ⟨_, rfl, ?_⟩;replace q1 := q1.bl hc3;replace hbw := bo_ hbw hc3;clear hc3;refine EL.val (x_not rfl) rfl (EL.as rfl rfl (EL.nil (EX.seq (EC.no rfl (EC.seq (EC.region (EL.mv rfl rfl (EL.val (ln_96 rfl) rfl ?_))))))))
  by_cases h3 : 3 < tanks.length
  ·
   refine EL.val (x_gtr (r := true) rfl rfl (decide_eq_true (by omega))) rfl ?_
   refine EL.as rfl rfl (EL.nil (EX.seq (EC.yes rfl (EC.seq (EC.region (EL.as rfl rfl (EL.as rfl rfl (EL.nil (EX.seq ?_)))))))));refine EC.ret (EX.blk_ret (EX.seq_ret ?_));have hye : yardE ru tanks jobs = 5 := by unfold yardE; rw [hrb, if_pos rfl, if_pos h3]
   exact EX.done (res2 rfl rfl rfl) ⟨⟨_, by rw [hye], fun h => absurd h (by rw [hye]; decide)⟩, hbw⟩
  ·
   refine EL.val (x_gtr (r := false) rfl rfl (decide_eq_false (by omega))) rfl ?_
   refine EL.as rfl rfl (EL.nil (EX.seq (EC.no rfl (EC.seq (EC.region (EL.mv rfl rfl (EL.val (ln_96 rfl) rfl ?_)))))))
   by_cases h0 : tanks.length = 0
   ·
    refine EL.val (x_eql (r := true) rfl rfl (decide_eq_true (by omega))) rfl ?_
    refine EL.as rfl rfl (EL.nil (EX.seq (EC.yes rfl (EC.seq (EC.region (EL.as rfl rfl (EL.as rfl rfl (EL.nil (EX.seq ?_)))))))));refine EC.ret (EX.blk_ret (EX.seq_ret ?_));have hye : yardE ru tanks jobs = 4 := by unfold yardE; rw [hrb, if_pos rfl, if_neg h3, if_pos h0]
    exact EX.done (res2 rfl rfl rfl) ⟨⟨_, by rw [hye], fun h => absurd h (by rw [hye]; decide)⟩, hbw⟩
   ·
    refine EL.val (x_eql (r := false) rfl rfl (decide_eq_false (by omega))) rfl ?_
    refine EL.as rfl rfl (EL.nil (EX.seq (EC.no rfl (EC.skip (EX.blk (EX.seq (EC.seq (EC.region (EL.newS (bs_64_0) rfl ?_)))))))));intro g4 w4 q4 hb4 hg4 hl4;have n1_4 := q1.na hg4;have bhbw_4 := Nat.le_trans hbw.size hg4;replace q1 := q1.bl hb4;replace hbw := bo_ hbw hb4;clear hb4 hg4 hl4;have hO : OwnTs w4 ru.levels.length (.slice (some ⟨g4, 0, none⟩) 0 0) [] := ⟨own_empty 2 q4 (Nat.zero_le _), fun x hx => absurd hx List.not_mem_nil, fun x hx => absurd hx List.not_mem_nil⟩
    have hOf : ∀ b_, (Value.slice (some ⟨g4, 0, none⟩) 0 0).ownBlock = some b_ → w.heap.size ≤ b_ := slice_fr bhbw_4;refine EL.as rfl rfl (EL.nil (EX.seq (EC.seq (EC.seq (EC.region (EL.as rfl rfl (EL.nil (EX.seq (EC.block ?_)))))))));refine EC.loopD [6, 7, 8, 9, 10, 24, 25, 26, 27, 28, 29, 30, 31, 32, 33, 34, 35, 36, 37, 38, 39, 40, 41, 42, 43, 44, 45, 46, 47] (fun x : Nat × Value × List Tk => [(9, .int .i64 (x.1 : Nat)), (8, x.2.1)]) (fun x W => x.1 ≤ tanks.length ∧ (∀ k, k < x.1 → refE ru (tanks.getD k []) = 0) ∧ x.2.2.map (·.1) = (tanks.take x.1).map (afterR ru) ∧ (∀ y ∈ x.2.2, RtOk ru.levels.length 100 y.1) ∧ OwnTs W ru.levels.length x.2.1 x.2.2 ∧ (∀ b_, Value.ownBlock x.2.1 = some b_ → w.heap.size ≤ b_) ∧ Blk W g1 28 #[.slice Al ru.levels.length cl, .int .i64 ru.fade.lo, .int .i64 ru.fade.hi, .slice Aa ru.allow.length ca, .slice Ap ru.apart.length cp, .slice Ak ru.kinds.length ck] ∧ Below w.heap.size w W) (fun x => tanks.length - x.1) (0, .slice (some ⟨g4, 0, none⟩) 0 0, []) ⟨Nat.zero_le _, (fun k hk => absurd hk (Nat.not_lt_zero _)), rfl, (fun y hy => absurd hy List.not_mem_nil), hO, hOf, q1, hbw⟩ ⟨rfl, rfl, trivial⟩ ?_
    clear q1 hbw hO hOf
    rintro ⟨i, v8, ts⟩ wx ⟨hi, hpre, hmp, hok, hO, hOf, q1, hbw⟩
    dsimp only at hi hpre hmp hok hO hOf
    obtain ⟨A8, c8, rfl, _⟩ := (Rd.of_own hO.own).shape;have htl : ts.length = i := by have h_ := congrArg List.length hmp; rw [List.length_map, List.length_map, List.length_take] at h_; omega
    by_cases hlt : i < tanks.length
    ·
     obtain ⟨bt, ot, eAt, _, htc⟩ := vals_cells ut i (by rw [ht.len]; exact hlt) w B _ _ _ ht.rd
     have hrow := ht.row i hlt;refine EC.seq (EC.seq (EC.region (EL.mv rfl rfl (EL.mv rfl rfl (EL.val (ln_96 rfl) rfl ?_)))));refine EL.val (x_lss rfl rfl (decide_eq_true (show (((i : Nat) : Int) < ((tanks.length : Nat) : Int)) by omega))) rfl ?_
     refine EL.nil (EX.seq (EC.yes rfl (EC.skip (EX.seq (EC.seq (EC.block (EC.seq (EC.seq ?_))))))));have lt_1 := q1.lt;refine EC.regionP [[], [], [], [1, 2], [1, 2, 3], [0, 1, 2, 3, 4], [0, 1, 2, 3, 4, 5]] 5 [] (phi (fun i_ r => match i_ with | 0 => r 0 = .agg #[.slice Al ru.levels.length cl, .int .i64 ru.fade.lo, .int .i64 ru.fade.hi, .slice Aa ru.allow.length ca, .slice Ap ru.apart.length cp, .slice Ak ru.kinds.length ck] | 1 => r 1 = .slice At tanks.length ct | 2 => r 2 = .int .i64 (i : Nat) | 3 => r 3 = .pointer (some ⟨bt, ot + i, none⟩) | 4 => r 4 = (ut.getD i undef) | _ => True) []) (by kernel_rfl) rfl rfl (phi_nil) (fun i_ hi_ => ?_) ?_
     ·match i_, hi_ with
      | 0, _ =>
       intro val w1 a hb ha hd;have ha := ha.s0 (d := 3) rfl
       exact hs_val ha rfl rfl (ld_28 rfl ((q1.below hb q1.lt).at (j := 0) rfl) ((q1.below hb q1.lt).at (j := 1) rfl) ((q1.below hb q1.lt).at (j := 2) rfl) ((q1.below hb q1.lt).at (j := 3) rfl) ((q1.below hb q1.lt).at (j := 4) rfl) ((q1.below hb q1.lt).at (j := 5) rfl)) rfl rfl
      | 1, _ =>
       intro val w1 a hb ha hd;have ha := ha.s0 (d := 1) rfl
       exact hs_val ha rfl rfl (x_move rfl) rfl rfl
      | 2, _ =>
       intro val w1 a hb ha hd;have ha := ha.s0 (d := 9) rfl
       exact hs_val ha rfl rfl (x_move rfl) rfl rfl
      | 3, _ =>
       intro val w1 a hb ha hd;have e1 : val 1 = _ := hd 1 (memB_mem.1 rfl);have e2 : val 2 = _ := hd 2 (memB_mem.1 rfl);have ha := ha.s2 (d := 32) (e := 31) rfl e2 rfl e1
       exact hs_val ha rfl rfl (ix_96 (by show some (Value.slice At _ _) = _; rw [eAt]) rfl hlt) rfl rfl
      | 4, _ =>
       intro val w1 a hb ha hd;have e3 : val 3 = _ := hd 3 (memB_mem.1 rfl);have ha := ha.s1 (d := 33) rfl e3
       exact hs_val ha rfl rfl (ld_29 rfl (below_load hb (below_load hbw htc))) rfl rfl
      | k + 5, h => exact absurd h (by omega)
     ·intro val wR11 hb halc hd
      have e0 : val 0 = _ := hd 0 (by omega)
      have e1 : val 1 = _ := hd 1 (by omega)
      have e2 : val 2 = _ := hd 2 (by omega)
      have e3 : val 3 = _ := hd 3 (by omega)
      have e4 : val 4 = _ := hd 4 (by omega)
      refine EL.ends (cs := [_, _, _, _, _]) ⟨e0, e1, e2, e3, e4, trivial⟩ rfl ?_;replace q1 := q1.bl hb;replace hO := hO.below hb;replace hbw := bo_ hbw hb;clear hb;refine EL.call (cA2 cF53 rfl rfl) rfl (History_any (hr.below (hbw.mono hB)) (Nat.le_trans hB hbw.size) hs (hrow.below (hbw.mono hB)) (htn i hlt)) ?_
      rintro e w5 ⟨rfl, hc5⟩
      refine ⟨_, rfl, ?_⟩;replace q1 := q1.bl hc5;replace hO := hO.below hc5;replace hbw := bo_ hbw hc5;clear hc5;refine EL.as rfl rfl (EL.nil (EX.seq (EC.seq (EC.region (EL.mv rfl rfl ?_)))))
      by_cases hz : histE ru (tanks.getD i []) = 0
      ·
       have hze : refE ru (tanks.getD i []) = histE ru (tanks.getD i []) := by rw [refE, if_pos hrb]
       have hz0 : refE ru (tanks.getD i []) = 0 := by rw [hze]; exact hz
       obtain ⟨_, hev, hn100⟩ := ref_ok hz0;refine EL.val (x_neq (r := false) rfl rfl (decide_eq_false (fun h => h hz))) rfl ?_
       refine EL.nil (EX.seq (EC.no rfl (EC.skip (EX.seq ?_))));have lt_1 := q1.lt;refine EC.regionP [[], [], [], [], [2, 3], [2, 3, 4], [1, 2, 3, 4, 5], [1, 2, 3, 4, 5, 6], [0, 1, 2, 3, 4, 5, 6, 7], [0, 1, 2, 3, 4, 5, 6, 7, 8]] 8 [] (phi (fun i_ r => match i_ with | 0 => r 0 = .slice A8 ts.length c8 | 1 => r 1 = .agg #[.slice Al ru.levels.length cl, .int .i64 ru.fade.lo, .int .i64 ru.fade.hi, .slice Aa ru.allow.length ca, .slice Ap ru.apart.length cp, .slice Ak ru.kinds.length ck] | 2 => r 2 = .slice At tanks.length ct | 3 => r 3 = .int .i64 (i : Nat) | 4 => r 4 = .pointer (some ⟨bt, ot + i, none⟩) | 5 => r 5 = (ut.getD i undef) | _ => True) [(6, fun r w_ => ∃ A1 c1 A2 c2, r 6 = .agg #[.slice A1 ru.levels.length c1, .slice A2 ru.levels.length c2] ∧ w_.ownsRow 0 24 2 (.slice A1 ru.levels.length c1) ru.levels.length (bdsC (afterR ru (tanks.getD i [])).res) ∧ w_.ownsRow 0 3 1 (.slice A2 ru.levels.length c2) ru.levels.length (ints (afterR ru (tanks.getD i [])).aft)), (7, fun r w_ => ∃ g A1 c1 A2 c2, r 7 = .slice (some ⟨g, 0, none⟩) 1 1 ∧ Blk w_ g 62 #[.slice A1 ru.levels.length c1, .slice A2 ru.levels.length c2] ∧ w_.ownsRow 0 24 2 (.slice A1 ru.levels.length c1) ru.levels.length (bdsC (afterR ru (tanks.getD i [])).res) ∧ w_.ownsRow 0 3 1 (.slice A2 ru.levels.length c2) ru.levels.length (ints (afterR ru (tanks.getD i [])).aft))]) (by kernel_rfl) rfl rfl (phi_cons mono_rt (phi_cons (fun _ _ _ hb ⟨g, A1, c1, A2, c2, h1, h2, h3, h4⟩ => ⟨g, A1, c1, A2, c2, h1, h2.below hb h2.lt, own_below h3 hb (Nat.le_refl _), own_below h4 hb (Nat.le_refl _)⟩) (phi_nil))) (fun i_ hi_ => ?_) ?_
       ·match i_, hi_ with
        | 0, _ =>
         intro val w1 a hb ha hd;have ha := ha.s0 (d := 8) rfl
         exact hs_val ha rfl rfl (x_move rfl) rfl rfl
        | 1, _ =>
         intro val w1 a hb ha hd;have ha := ha.s0 (d := 3) rfl
         exact hs_val ha rfl rfl (ld_28 rfl ((q1.below hb q1.lt).at (j := 0) rfl) ((q1.below hb q1.lt).at (j := 1) rfl) ((q1.below hb q1.lt).at (j := 2) rfl) ((q1.below hb q1.lt).at (j := 3) rfl) ((q1.below hb q1.lt).at (j := 4) rfl) ((q1.below hb q1.lt).at (j := 5) rfl)) rfl rfl
        | 2, _ =>
         intro val w1 a hb ha hd;have ha := ha.s0 (d := 1) rfl
         exact hs_val ha rfl rfl (x_move rfl) rfl rfl
        | 3, _ =>
         intro val w1 a hb ha hd;have ha := ha.s0 (d := 9) rfl
         exact hs_val ha rfl rfl (x_move rfl) rfl rfl
        | 4, _ =>
         intro val w1 a hb ha hd;have e2 : val 2 = _ := hd 2 (memB_mem.1 rfl);have e3 : val 3 = _ := hd 3 (memB_mem.1 rfl);have ha := ha.s2 (d := 42) (e := 41) rfl e3 rfl e2
         exact hs_val ha rfl rfl (ix_96 (by show some (Value.slice At _ _) = _; rw [eAt]) rfl hlt) rfl rfl
        | 5, _ =>
         intro val w1 a hb ha hd;have e4 : val 4 = _ := hd 4 (memB_mem.1 rfl);have ha := ha.s1 (d := 43) rfl e4
         exact hs_val ha rfl rfl (ld_29 rfl (below_load hb (below_load hbw htc))) rfl rfl
        | 6, _ =>
         intro val w1 a hb ha hd;have e1 : val 1 = _ := hd 1 (memB_mem.1 rfl);have e5 : val 5 = _ := hd 5 (memB_mem.1 rfl);have ha := ha.s2 (d := 44) (e := 40) rfl e5 rfl e1;have hbz := hbw.trans (hb.mono hbw.size);refine hs_call ha rfl rfl (cA2 cF27 rfl rfl) (After_any (hr.below (hbz.mono hB)) (Nat.le_trans hB hbz.size) hro (hrow.below (hbz.mono hB)) hev (by omega)) rfl ?_
         rintro e w' ⟨⟨B1, d1, B2, d2, rfl, p1, p2, _⟩, hb'⟩
         exact ⟨_, rfl, hb', ⟨B1, d1, B2, d2, rfl, own_less p1 (Nat.zero_le _), own_less p2 (Nat.zero_le _)⟩⟩
        | 7, _ =>
         intro val w1 a hb ha hd;obtain ⟨B1_, d1_, B2_, d2_, e6, p1_, p2_⟩ := hd 6 (memB_mem.1 rfl);have ha := ha.s1 (d := 45) rfl e6
         exact hs_newS ha rfl rfl (bs_64_1 rfl) rfl (fun g w' hq hb2 hge => ⟨g, _, _, _, _, rfl, hq, own_below p1_ hb2 (Nat.le_refl _), own_below p2_ hb2 (Nat.le_refl _)⟩)
        | k + 8, h => exact absurd h (by omega)
       ·intro val wR14 hb halc hd
        have e0 : val 0 = _ := hd 0 (by omega)
        have e1 : val 1 = _ := hd 1 (by omega)
        have e2 : val 2 = _ := hd 2 (by omega)
        have e3 : val 3 = _ := hd 3 (by omega)
        have e4 : val 4 = _ := hd 4 (by omega)
        have e5 : val 5 = _ := hd 5 (by omega)
        obtain ⟨B1_, d1_, B2_, d2_, e6, p1_, p2_⟩ := hd 6 (by omega)
        obtain ⟨gx, T1, t1, T2, t2, e7, hqx, ho1, ho2⟩ := hd 7 (by omega)
        refine EL.ends (cs := [_, _, _, _, _, _, _, _]) ⟨e0, e1, e2, e3, e4, e5, e6, e7, trivial⟩ rfl ?_;replace q1 := q1.bl hb;replace hO := hO.below hb;replace hbw := bo_ hbw hb;clear hb;have hgz := hbw.size;refine EL.push rk_elem rfl rfl hO.own (rd_one (l := [.slice T1 ru.levels.length t1, .slice T2 ru.levels.length t2]) hqx rfl) (by intro u hu; simp only [List.mem_cons, List.not_mem_nil, or_false] at hu; rcases hu with rfl | rfl <;> rfl) (by omega) rfl (Nat.zero_le _) rfl ?_
        intro v6 w6 hO2 hgr _ hat;have hOn : OwnTs w6 ru.levels.length v6 (ts ++ [((afterR ru (tanks.getD i [])), (T1, t1), (T2, t2))]) := hO.push (x := ((afterR ru (tanks.getD i [])), (T1, t1), (T2, t2))) hO2 hgr ho1 ho2;replace q1 := blk_grown q1 hO.own rfl hgr;have hOf2 := fr_push hOf hat hgz;replace hbw := below_fresh hbw hgr hOf;clear hO hO2 hgr hat hOf;refine EL.as rfl rfl (EL.nil (EX.blk (EX.seq (EC.region (EL.mv rfl rfl ?_)))));refine EL.val (x_add rfl rfl (c := ((i + 1 : Nat) : Int)) ((IntWalk.i64_in _ ⟨by first | omega | (simp only; omega), by first | omega | (simp only; omega)⟩).trans (by first | omega | (simp only; omega)))) rfl ?_
        refine EL.as rfl rfl (EL.nil ?_);refine EX.roundD (i + 1, v6, ts ++ [((afterR ru (tanks.getD i [])), (T1, t1), (T2, t2))]) ⟨rfl, rfl, trivial⟩ (by repeat first | with_reducible exact .refl _ | refine sp_ rfl ?_ | exact .refl _ | refine sd_ rfl ?_ | refine sn_ ?_) ⟨hlt, (fun k hk => by rcases Nat.lt_or_ge k i with h | h; exact hpre k h; rw [show k = i by simp only at hk; omega]; exact hz0), by simp only; rw [List.map_append, hmp, List.take_succ_eq_append_getElem hlt, List.map_append, ← getD_in (d := []) hlt]; rfl, (fun y hy => by rcases List.mem_append.1 hy with hy | hy; exact hok y hy; rw [List.mem_singleton.1 hy]; exact (afterR_ok hro hev).more hn100), hOn, hOf2, q1, hbw⟩ (by simp only; omega)
      ·
       have hze : refE ru (tanks.getD i []) = histE ru (tanks.getD i []) := by rw [refE, if_pos hrb]
       refine EL.val (x_neq (r := true) rfl rfl (decide_eq_true hz)) rfl (EL.nil (EX.seq (EC.yes rfl (EC.seq (EC.region (EL.mv rfl rfl (EL.as rfl rfl (EL.as rfl rfl (EL.nil ?_)))))))));refine EX.seq (EC.ret (EX.seq_ret (EX.blk_ret (EX.seq_ret (EX.seq_ret (EX.blk_ret (EX.seq_ret ?_)))))));have hye : yardE ru tanks jobs = histE ru (tanks.getD i []) := by unfold yardE; rw [hrb, if_pos rfl, if_neg h3, if_neg h0, tanksE_at hpre hlt (by rw [hze]; exact hz), hze, if_neg hz]
       exact EX.done (res2 rfl rfl rfl) ⟨⟨_, by rw [hye], fun h => absurd h (by rw [hye]; exact hz)⟩, hbw⟩
    ·
     have hxe : i = tanks.length := by omega
     refine EC.seq (EC.seq (EC.region (EL.mv rfl rfl (EL.mv rfl rfl (EL.val (ln_96 rfl) rfl ?_)))));refine EL.val (x_lss rfl rfl (decide_eq_false (show ¬(((i : Nat) : Int) < ((tanks.length : Nat) : Int)) by omega))) rfl ?_
     refine EL.nil (EX.seq (EC.no rfl (EC.exit (EX.seq_exit (EX.seq_exit (EX.blk_here (EX.seq (EC.seq (EC.region ?_)))))))));refine EL.mv rfl rfl (EL.val (ld_28 rfl (q1.at (j := 0) rfl) (q1.at (j := 1) rfl) (q1.at (j := 2) rfl) (q1.at (j := 3) rfl) (q1.at (j := 4) rfl) (q1.at (j := 5) rfl)) rfl (EL.mv rfl rfl ?_));refine EL.call (cA3 cF26 rfl rfl rfl) rfl (rJobs_any (hr.below (hbw.mono hB)) (Nat.le_trans hB hbw.size) hro (hv.below (hbw.mono hB)) (Nat.le_trans hB hbw.size) hjn (most := 6) (by decide)) ?_
     rintro e w7 ⟨rfl, hc7⟩
     refine ⟨_, rfl, ?_⟩;replace q1 := q1.bl hc7;replace hO := hO.below hc7;replace hbw := bo_ hbw hc7;clear hc7;refine EL.as rfl rfl (EL.as rfl rfl (EL.nil (EX.seq (EC.ret ?_))));have hye : yardE ru tanks jobs = jobsE ru jobs 6 := by unfold yardE; rw [hrb, if_pos rfl, if_neg h3, if_neg h0, tanksE_none (hxe ▸ hpre), if_pos rfl]
     rw [hxe, List.take_length] at hmp
     exact EX.done (res2 rfl rfl rfl) ⟨⟨_, by rw [hye], fun _ => ⟨ts, hO, hmp, hok⟩⟩, hbw⟩
section
variable {P : Program} {n : Nat} {L : List Oper} {Q : Exit → Act → World → Prop} {cls : List (List Nat)} {alc : List Nat} {w1 : World} {Φ : Nat → (Nat → Value) → World → Prop} {i j t : Nat} {b : Bool} {val : Nat → Value} {a : Act} {σ : Sg}
end
theorem best_len {ru : Rules} (hro : RulesOk ru) {many : Nat} {js : List Nat} {s : List (List Tr)} {p : Pl} (h : IsBest (compl (extY (yardOf ru many)) js (s, pl0)) p) : p.steps.length = js.length := by
 obtain ⟨⟨t, ht⟩, _⟩ := h;obtain ⟨⟨x, hx, hl⟩, _⟩ := compl_mem (extY_ok (yardOf ru many) fun k => (kcost_bd hro k).1) ht
 dsimp only at hx
 rw [hx, List.length_append, hl]
 exact Nat.zero_add _
section
variable {n : Nat} {σ : Sg} {w : World} {dst : Option Tmp} {ty : TypeId} {pos : String} {af : Array Edge} {g : Option (Nat × Bool)} {x y z : Operand} {at' : Array TypeId}
theorem bx_98 {v0 v1 : Value} (hx : evS σ x = some (.agg #[v0, v1])) (a : Act) (ha : Env n σ a) : (execOp a.eval ⟨dst, .box 98 x, ty, pos, af, g⟩).run Try.prog w = .ok (.value (.pointer (some ⟨w.heap.size, 0, none⟩))) (w.alloc (.cells #[v0, v1] 98)) := by
 simp only [execOp, ha.eval hx]
 simp [go_sem]
theorem cF37 : cF 37 := fun _ _ => by simp [go_sem]
theorem fa_98_0 {b o : Nat} (hx : evS σ x = some (.pointer (some ⟨b, o, none⟩))) : Gives Try.prog n σ w ⟨dst, .fieldAddr 98 x 0, ty, pos, af, g⟩ (.pointer (some ⟨b, o, none⟩)) := fun a ha => by
 simp only [execOp, ha.eval hx]
 simp [go_sem]
theorem fa_98_1 {b o : Nat} (hx : evS σ x = some (.pointer (some ⟨b, o, none⟩))) : Gives Try.prog n σ w ⟨dst, .fieldAddr 98 x 1, ty, pos, af, g⟩ (.pointer (some ⟨b, o + 1, none⟩)) := fun a ha => by
 simp only [execOp, ha.eval hx]
 simp [go_sem]
theorem cF39 : cF 39 := fun _ _ => by simp [go_sem]
theorem cF40 : cF 40 := fun _ _ => by simp [go_sem]
theorem cF41 : cF 41 := fun _ _ => by simp [go_sem]
theorem cF42 : cF 42 := fun _ _ => by simp [go_sem]
theorem cF43 : cF 43 := fun _ _ => by simp [go_sem]
end
end Go.Proofs.Ytdkedhcbdbpccaa
