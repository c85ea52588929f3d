/- The reference's Blame where the lists have no error. -/
import Derived.Test.YtkbfdgacnoadlaaA5
import Derived.Test.YtkbfdgacnoadlaaA3
import Derived.Test.YtkbfdgacnoadlaaBlameRef2
import Derived.StillTailTactics
namespace Go.Proofs.Ytkbfdgacnoadlaa
open Go.RowKit

/-- what is known behind so many rounds of the first loop -/
structure ZRel (bs a c : List Int) (k : Nat) (w wr : World) (l cl : Value) : Prop where
  hl : wr.ownsRow w.heap.size 3 1 l k (ints (paysTo bs a c k))
  hc : wr.ownsRow w.heap.size 3 1 cl k (ints (claimsZ bs a k))
  lc : Apart l cl
  below : Below w.heap.size w wr
theorem ZRel.next {bs a c : List Int} {k : Nat} {w wr w6 w7 : World} {l cl l' cl' : Value} (R : ZRel bs a c k w wr l cl) (hg : wr.grownBy w6 l.ownBlock) (hat : l'.ownBlock = l.ownBlock ∨ l'.ownBlock = some (wr.heap.size + 1))
    (hown : w6.ownsRow w.heap.size 3 1 l' (k + 1) (ints (paysTo bs a c (k + 1))))
    (hg7 : w6.grownBy w7 cl.ownBlock) (hat7 : cl'.ownBlock = cl.ownBlock ∨ cl'.ownBlock = some (w6.heap.size + 1)) (hown7 : w7.ownsRow w.heap.size 3 1 cl' (k + 1) (ints (claimsZ bs a (k + 1)))) :
    ZRel bs a c (k + 1) w w7 l' cl' := by
  have lc := R.lc.push R.hc hat
  have hc6 := own_apart R.hc hg R.lc
  have b6 := Below.push R.below R.hl hg (Nat.le_refl _) R.below.size
  exact ⟨own_apart hown hg7 lc.symm, hown7, (Apart.push lc.symm hown hat7).symm, Below.push b6 hc6 hg7 (Nat.le_refl _) b6.size⟩

set_option maxHeartbeats 8000000 in
set_option maxRecDepth 100000 in
theorem rblame_ok (a b c : List Int) (va vb vc : Value) (w : World) (B : Nat) (hra : Rd w B 1 va a.length (ints a)) (hrb : Rd w B 1 vb b.length (ints b)) (hrc : Rd w B 1 vc c.length (ints c)) (hB : B ≤ w.heap.size)
    (hok : blameErr a b c = 0) :
    Calls Try.prog 19 #[va, vb, vc] w fun e w' => ∃ v', e = .returned (.tuple #[v', .int .i64 0]) ∧ w'.ownsRow w.heap.size 3 1 v' (blameL a b c).length (ints (blameL a b c)) ∧ Below w.heap.size w w' := by
  obtain ⟨A, ca, rfl, hna⟩ := hra.shape
  obtain ⟨A', cb, rfl, hnb⟩ := hrb.shape
  obtain ⟨A'', cc, rfl, hnc⟩ := hrc.shape
  obtain ⟨g1, g2, g3, g4, g5, g6, g7⟩ := blameErr_zero hok
  obtain ⟨l1, l12⟩ := inB_iff.1 g1
  have g2' : ((b.length : Int) != (a.length : Int)) = false := by simp [g2]
  have g3' : ((c.length : Int) != (a.length : Int)) = false := by simp [g3]
  have Hg2 := Lib.hid g2
  have Hg3 := Lib.hid g3
  obtain ⟨sa0, sa1⟩ := sum_bound g4 (show a.length ≤ 12 by omega) (by omega)
  obtain ⟨sb0, sb1⟩ := sum_bound g5 (show b.length ≤ 12 by omega) (by omega)
  have hposb : ∀ x ∈ b, 0 ≤ x := fun x hx => (all_in g5 x hx).1
  have hsb : 1 ≤ b.sum := by
    have h7 := g7
    rw [IntWalk.wrap64_in _ ⟨by omega, by omega⟩] at h7
    simp at h7
    omega
  have hwa : wrap64 a.sum = a.sum := IntWalk.wrap64_in _ ⟨by omega, by omega⟩
  have lb : b.length ≤ 12 := by omega
  have lc : c.length ≤ 12 := by omega
  have Hposb := Lib.hid hposb
  have G4 := Lib.hid g4
  have G6 := Lib.hid g6
  clear hok g2 g3 hposb
  go_enter Try.func19, Try.ntmps19
  go_wp2_with (go_at_call 48; refine (in_any _ _ _ _).mono ?_; rintro e w' ⟨rfl, rfl⟩)
  refine (all_any a _ _ _ a.length _ B hra (by omega)).mono ?_
  rintro e w' ⟨rfl, rfl⟩
  rw [g4]
  go_wp2_with fail
  refine (all_any b _ _ _ b.length _ B hrb (by omega)).mono ?_
  rintro e w' ⟨rfl, rfl⟩
  rw [g5]
  go_wp2_with fail
  refine (all_any c _ _ _ c.length _ B hrc (by omega)).mono ?_
  rintro e w' ⟨rfl, rfl⟩
  rw [g6]
  go_wp2_with fail
  refine (rsum_any b _ b.length _ B hrb (by omega)).mono ?_
  rintro e w' ⟨rfl, rfl⟩
  go_wp2_with fail
  refine (rsum_any a _ a.length _ B hra (by omega)).mono ?_
  rintro e w' ⟨rfl, rfl⟩
  go_wp2_with fail
  refine (rsplit_any a.sum b _ _ B hrb hB (by omega) sa0 (by omega) Hposb.out (fun _ => hsb) (by omega)).mono ?_
  rintro e w5 ⟨vbs, rfl, hownb, hc5⟩
  have hrbs := Rd.of_own hownb
  clear hownb g1 g4 g5 g6 g7
  have hB5 : B ≤ w5.heap.size := by have := hc5.size; omega
  have hra5 := hra.below (hc5.mono hB)
  have hrc5 := hrc.below (hc5.mono hB)
  obtain ⟨bs, ebs⟩ : ∃ bs, bs = splitL a.sum b := ⟨_, rfl⟩
  have hbsl : bs.length = a.length := by rw [ebs, splitL_length, Hg2.out]
  have hbsb : ∀ i, i < a.length → 0 ≤ at0 bs i ∧ at0 bs i ≤ a.sum := fun i hi => by
    rw [ebs]
    exact splitL_bd sa0 Hposb.out hsb (by rw [Hg2.out]; exact hi)
  have hfin : blameL a b c = if 0 < (claimsZ bs a a.length).sum then outZ (paysTo bs a c a.length) (splitL (paysTo bs a c a.length).sum (claimsZ bs a a.length)) a.length else paysTo bs a c a.length := by
    rw [ebs, ← blame_ref _ a c _ (fun i hi => (at0_bd G6.out (show i < c.length by rw [Hg3.out]; exact hi)).1)]
    rfl
  rw [← ebs] at hrbs
  rw [show b.length = bs.length by rw [hbsl, Hg2.out]] at hrbs
  have Hfin := Lib.hid hfin
  have Hbsl := Lib.hid hbsl
  have Hbsb := Lib.hid hbsb
  clear hfin hbsl hbsb ebs
  obtain ⟨Ab, cbs, rfl, hnbs⟩ := hrbs.shape
  have ho1 : ((w5.alloc (.cells #[] 3)).alloc (.cells #[] 3)).ownsRow w5.heap.size 3 1 (.slice (some ⟨w5.heap.size, 0, none⟩) 0 0) 0 (ints []) := (own_new w5 w5.heap.size 3 1 0 #[] (Nat.le_refl _) rfl (Nat.zero_le _)).alloc _
  have ho2 : ((w5.alloc (.cells #[] 3)).alloc (.cells #[] 3)).ownsRow w5.heap.size 3 1 (.slice (some ⟨w5.heap.size + 1, 0, none⟩) 0 0) 0 (ints []) := by
    have := own_new (w5.alloc (.cells #[] 3)) w5.heap.size 3 1 0 #[] (by simp) rfl (Nat.zero_le _)
    simpa [ints] using this
  have hap : Apart (.slice (some ⟨w5.heap.size, 0, none⟩) 0 0) (.slice (some ⟨w5.heap.size + 1, 0, none⟩) 0 0) := fun g h1 h2 => by simp [Value.ownBlock] at h1 h2; omega
  go_wp2_with fail
  go_loopw [9, 10, 11, 12, 13] (fun l pd cl i _ wr => ∃ k : Nat, k ≤ a.length ∧ i = .int .i64 k ∧ pd = .int .i64 (paysTo bs a c k).sum ∧ ZRel bs a c k w5 wr l cl) (fun _ _ _ i _ _ => a.length - (intOf i).toNat)
  case atStart => exact ⟨0, Nat.zero_le _, rfl, rfl, ho1, ho2, hap, ((Below.refl _ _).alloc (Nat.le_refl _) _).alloc (by simp) _⟩
  case round =>
    clear ho1 ho2 hap
    obtain ⟨k, hkl, rfl, rfl, R⟩ := hrel
    by_cases hlt : k < a.length
    · have hlt' : k < bs.length := by rw [Hbsl.out]; exact hlt
      obtain ⟨ba, oa, rfl, qa, ka⟩ := ints_cell a k hlt _ B _ _ _ (hra5.below (R.below.mono hB5))
      obtain ⟨bc, oc, rfl, qc, kc⟩ := ints_cell c k (by rw [Hg3.out]; exact hlt) _ B _ _ _ (hrc5.below (R.below.mono hB5))
      obtain ⟨bb, ob, rfl, qb, kb⟩ := ints_cell bs k hlt' _ _ _ _ _ (hrbs.below R.below)
      obtain ⟨x0, x1⟩ := at0_bd G4.out hlt
      obtain ⟨y0, y1⟩ := at0_bd G6.out (show k < c.length by rw [Hg3.out]; exact hlt)
      obtain ⟨z0, z1⟩ := Hbsb.out k hlt
      obtain ⟨p0, p1⟩ := pay_bd y0 x0 sa0 z1
      have hcl : claim bs a k = at0 a k - at0 bs k := rfl
      have hpy : pay bs a c k = min (at0 c k) (max 0 (at0 bs k - at0 a k)) := rfl
      obtain ⟨x, hx⟩ : ∃ x, x = at0 a k := ⟨_, rfl⟩
      obtain ⟨y, hy⟩ : ∃ y, y = at0 c k := ⟨_, rfl⟩
      obtain ⟨z, hz⟩ : ∃ z, z = at0 bs k := ⟨_, rfl⟩
      rw [← hx] at ka x0 x1 hcl hpy
      rw [← hy] at kc y0 y1 hpy
      rw [← hz] at kb z0 z1 hcl hpy
      have Hcl := Lib.hid hcl
      have Hpy := Lib.hid hpy
      clear hcl hpy hx hy hz
      rw [Hpy.out] at p0 p1
      have hsz := R.below.size
      obtain ⟨ps0, ps1⟩ := paysTo_sum (bs := bs) (a := a) (c := c) (k := k) fun i hi => pay_bd (at0_bd G6.out (show i < c.length by rw [Hg3.out]; omega)).1 (at0_bd G4.out (show i < a.length by omega)).1 (by omega) (by have := Hbsb.out i (by omega); omega)
      have i0 : (0 : Int) ≤ (k : Int) := Int.natCast_nonneg _
      have i1 : (k : Int) < (a.length : Int) := by omega
      have i2 : (k : Int) < (c.length : Int) := by rw [Hg3.out]; omega
      have i5 : (k : Int) < (bs.length : Int) := by omega
      have i3 : IntKind.i64.wrap (z - x) = z - x := IntWalk.i64_in _ ⟨by omega, by omega⟩
      have i4 : IntKind.i64.wrap (x - z) = x - z := IntWalk.i64_in _ ⟨by omega, by omega⟩
      go_wp2_with fail
      go_region_held3 (fun w' => w'.cell? ⟨bc, oc + k, none⟩ = some (.int .i64 y) ∧ w'.cell? ⟨bb, ob + k, none⟩ = some (.int .i64 z) ∧ w'.cell? ⟨ba, oa + k, none⟩ = some (.int .i64 x)) (go_keep) (fail)
      have hl1 := R.hl.drew
      have hc1 := R.hc.drew
      have hbd := R.below.drew
      have ka' : wr.drew.cell? ⟨ba, oa + k, none⟩ = some (.int .i64 x) := ka
      have kb' : wr.drew.cell? ⟨bb, ob + k, none⟩ = some (.int .i64 z) := kb
      have hap := R.lc
      clear R ka kb kc hsz
      generalize wr.drew = wd at hl1 hc1 hbd ka' kb' ⊢
      have R : ZRel bs a c k w5 wd u9 u11 := ⟨hl1, hc1, hap, hbd⟩
      have hsz := hbd.size
      clear hl1 hc1 hbd hap
      have hrow := R.hl
      go_wp2_with (at_builtin; refine wpList_push int_elem rfl (.tmp 77) (.tmp 79) rfl rfl hrow _ rfl rfl (by simp [Value.oneCell']) (by simp only [maxLen]; omega) (by omega) (by omega) ?_; intro v6 w6 hown6 hg6 hat6)
      have ka6 := push_cell R.hl hg6 ka' (by omega) hsz
      have kb6 := push_cell R.hl hg6 kb' (by omega) hsz
      have hown6' : w6.ownsRow w5.heap.size 3 1 v6 (k + 1) (ints (paysTo bs a c (k + 1))) := by
        rw [paysTo_succ, Hpy.out]
        simpa [ints] using hown6
      have hrow2 := own_apart R.hc hg6 R.lc
      have hsz6 : w5.heap.size ≤ w6.heap.size := Nat.le_trans hsz hg6.size
      clear hown6 hrow ka' kb'
      go_wp2_with fail
      go_region_held3 (fun w' => w'.cell? ⟨bb, ob + k, none⟩ = some (.int .i64 z) ∧ w'.cell? ⟨ba, oa + k, none⟩ = some (.int .i64 x))
        (first
          | go_keep
          | (go_split_ands
             refine ⟨?_, ?_⟩
             · exact push_cell ((hrow2.alloc _).drew) hgrow (by assumption) (by omega) (by simp; omega)
             · exact push_cell ((hrow2.alloc _).drew) hgrow (by assumption) (by omega) (by simp; omega)))
        ((refine step_push int_elem (by rfl) _ _ (by rfl) (by rfl) ((hrow2.alloc _).drew) (w6.heap.size + 1) _ 1 [.int .i64 (max 0 (x - z))] (by rfl) ((Rd.made w6 _ 1 1 #[.int .i64 (max 0 (x - z))] rfl).drew) (by simp [Value.oneCell']) (by simp only [maxLen]; omega) (by omega) (by simp; omega) ?_; intro v7 w7 hown7 hgrow hat7))
      have hg7 : w6.grownBy w7 u11.ownBlock := (grown_drew (World.grownBy_alloc w6 _ _)).trans hgrow
      have hown7' : w7.ownsRow w5.heap.size 3 1 v7 (k + 1) (ints (claimsZ bs a (k + 1))) := by
        rw [claimsZ_succ, Hcl.out]
        simpa [ints] using hown7
      have hat7' : v7.ownBlock = u11.ownBlock ∨ v7.ownBlock = some (w6.heap.size + 1) := by simpa using hat7
      go_wp2_with fail
      go_roundw
      case rel => exact ⟨k + 1, by omega, by go_num, by rw [paysTo_succ, Hpy.out]; simp, R.next hg6 hat6 hown6' hg7 hat7' hown7'⟩
      case measure => simp [intOf]; omega
    · obtain rfl : k = a.length := by omega
      have hrl := R.hl
      have hrc7 := Rd.of_own R.hc
      have hsz := R.below.size
      have hlen : (claimsZ bs a a.length).length = a.length := claimsZ_len _ _ _
      have hplen : (paysTo bs a c a.length).length = a.length := paysTo_length _ _ _ _
      obtain ⟨t0, t1⟩ := paysTo_sum (bs := bs) (a := a) (c := c) (k := a.length) fun i hi => pay_bd (at0_bd G6.out (show i < c.length by rw [Hg3.out]; omega)).1 (at0_bd G4.out (show i < a.length by omega)).1 (by omega) (by have := Hbsb.out i (by omega); omega)
      have hzn := claimsZ_nonneg bs a a.length
      have hz0 := sum_nonneg hzn
      have hz1 : (claimsZ bs a a.length).sum ≤ 1200000000000 := by
        have : ∀ x ∈ claimsZ bs a a.length, x ≤ 100000000000 := by
          intro x hx
          obtain ⟨i, hi, rfl⟩ := List.mem_map.1 hx
          have hi' : i < a.length := by simpa using hi
          have h1 := at0_bd G4.out hi'
          have h2 := Hbsb.out i hi'
          unfold claim
          omega
        have := sum_le this
        rw [hlen] at this
        omega
      have hzw : wrap64 (claimsZ bs a a.length).sum = (claimsZ bs a a.length).sum := IntWalk.wrap64_in _ ⟨by omega, by omega⟩
      have hb7 := hc5.trans (R.below.mono hc5.size)
      have hpb : ∀ i, i < a.length → 0 ≤ at0 (paysTo bs a c a.length) i ∧ at0 (paysTo bs a c a.length) i ≤ 1200000000000 := fun i hi => by
        have e : at0 (paysTo bs a c a.length) i = pay bs a c i := by simp [at0, paysTo, hi]
        rw [e]
        exact pay_bd (at0_bd G6.out (show i < c.length by rw [Hg3.out]; omega)).1 (at0_bd G4.out (show i < a.length by omega)).1 (by omega) (by have := Hbsb.out i (by omega); omega)
      have HPb := Lib.hid hpb
      clear hpb
      have Hzn := Lib.hid hzn
      obtain ⟨Z, eZ⟩ : ∃ Z, Z = claimsZ bs a a.length := ⟨_, rfl⟩
      obtain ⟨P, eP⟩ : ∃ P, P = paysTo bs a c a.length := ⟨_, rfl⟩
      rw [← eZ] at hrc7 hlen hz0 hz1 hzw Hzn Hfin
      rw [← eP] at hrl hplen t0 t1 Hfin HPb ⊢
      clear hzn eZ eP R
      obtain ⟨wo, rfl⟩ : ∃ wo : World, wo = wr := ⟨_, rfl⟩
      obtain ⟨Ac, cc', rfl, hncc⟩ := hrc7.shape
      have hrz : Rd wo wo.heap.size 1 (.slice Ac a.length cc') Z.length (ints Z) := by rw [hlen]; exact hrc7
      have Hlen := Lib.hid hlen
      have Hplen := Lib.hid hplen
      have lz : Z.length ≤ 12 := by omega
      clear hlen hplen
      obtain ⟨g, cap, rfl, q1, q2⟩ := hrl.form (by omega)
      go_wp2_with fail
      refine (rsum_any Z _ a.length _ _ hrc7 (by omega)).mono ?_
      rintro e w' ⟨rfl, rfl⟩
      by_cases hpos : 0 < Z.sum
      · have hgb : ∀ i, i < a.length → 0 ≤ at0 (splitL P.sum Z) i ∧ at0 (splitL P.sum Z) i ≤ P.sum := fun i hi => splitL_bd t0 Hzn.out (by omega) (by rw [Hlen.out]; exact hi)
        have hgl : (splitL P.sum Z).length = a.length := by rw [splitL_length, Hlen.out]
        have hfin : blameL a b c = outZ P (splitL P.sum Z) a.length := by rw [Hfin.out, if_pos hpos]
        have Hf := Lib.hid hfin
        clear Hfin hfin
        go_wp2_with fail
        refine (rsplit_any P.sum Z _ _ _ hrz (Nat.le_refl _) (by omega) t0 (by omega) Hzn.out (fun _ => by omega) (by omega)).mono ?_
        rintro e w8 ⟨vg, rfl, hog, hb8⟩
        have hrl8 := own_below hrl hb8 (Nat.le_refl _)
        obtain ⟨G, eG⟩ : ∃ G, G = splitL P.sum Z := ⟨_, rfl⟩
        rw [← eG] at hog hgb hgl Hf
        rw [Hlen.out] at hog
        have Hgb := Lib.hid hgb
        have Hgl := Lib.hid hgl
        have hb78 := hb7.trans (hb8.mono hb7.size)
        have hsz8 := hb8.size
        have hsv := Rd.of_own hog
        obtain ⟨Ag, cg, rfl, hng⟩ := hsv.shape
        clear hsv eG hgb hgl hrl hrz hrc7 hb8
        have hr0 : w8.ownsRow w5.heap.size 3 1 (.slice (some ⟨g, 0, none⟩) a.length cap) a.length (ints (outZ P G 0)) := by rw [outZ_zero]; exact hrl8
        clear hrl8
        go_wp2_with fail
        go_loopw [15] (fun i wi => ∃ k : Nat, k ≤ a.length ∧ i = .int .i64 k ∧ wi.ownsRow w5.heap.size 3 1 (.slice (some ⟨g, 0, none⟩) a.length cap) a.length (ints (outZ P G k)) ∧ w8.grownBy wi (some g)) (fun i _ => a.length - (intOf i).toNat)
        case atStart => exact ⟨0, Nat.zero_le _, rfl, hr0, World.grownBy.refl _ _⟩
        case round =>
          clear hr0
          obtain ⟨k, hk, rfl, hown, hgr⟩ := hrel
          by_cases hlk : k < a.length
          · have hkp : k < P.length := by rw [Hplen.out]; exact hlk
            have kp : wr.cell? ⟨g, k, none⟩ = some (.int .i64 (at0 P k)) := by
              rw [hown.cellAt k (by omega), ints_get _ k (by rw [outZ_len]; exact hkp), at0_get, outZ_at P G hkp]
            have hogi := own_far hog hgr q2
            obtain ⟨bg, og, e0, _, kg⟩ := ints_cell G k (by rw [Hgl.out]; exact hlk) _ _ _ _ _ (Rd.of_own hogi)
            subst e0
            obtain ⟨y0, y1⟩ := HPb.out k hlk
            obtain ⟨z0, z1⟩ := Hgb.out k hlk
            obtain ⟨st, gst⟩ := hown.stored k (.int .i64 (at0 P k - at0 G k))
            rw [ints_set, ← outZ_succ] at st
            have hfz := hown.frozenAt k
            obtain ⟨p, ep⟩ : ∃ p, p = at0 P k := ⟨_, rfl⟩
            obtain ⟨q, eq⟩ : ∃ q, q = at0 G k := ⟨_, rfl⟩
            rw [← ep] at kp y0 y1 st gst
            rw [← eq] at kg z0 z1 st gst
            clear ep eq hogi
            have i0 : (0 : Int) ≤ (k : Int) := Int.natCast_nonneg _
            have i1 : (k : Int) < (a.length : Int) := by omega
            have i3 : IntKind.i64.wrap (p - q) = p - q := IntWalk.i64_in _ ⟨by omega, by omega⟩
            go_wp2_with fail
            go_still_tail 10, (by kernel_rfl)
            change wpList _ _ _ _ _ wr.drew
            go_wp2_with fail
            go_roundw
            case rel => exact ⟨k + 1, by omega, by go_num, st.drew, grown_drew (hgr.trans gst)⟩
            case measure => simp [intOf]; omega
          · obtain rfl : k = a.length := by omega
            go_wp2_with fail
            go_ret2
            refine ⟨_, rfl, ?_, hb78.grown hgr hb78.size (fun k hk => by injection hk with hk; have := hc5.size; omega)⟩
            rw [Hf.out, outZ_len, Hplen.out]
            exact own_less hown hc5.size
      · have hfin : blameL a b c = P := by rw [Hfin.out, if_neg hpos]
        have Hf := Lib.hid hfin
        clear Hfin hfin
        go_wp2_with fail
        go_ret2
        refine ⟨_, rfl, ?_, hb7⟩
        rw [Hf.out, Hplen.out]
        exact own_less hrl hc5.size
end Go.Proofs.Ytkbfdgacnoadlaa
