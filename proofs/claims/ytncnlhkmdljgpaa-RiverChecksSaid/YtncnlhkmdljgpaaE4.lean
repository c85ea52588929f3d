/- A drawn region whose head also stores: to blocks that were made in it, or to one's own. -/
import Derived.Test.YtncnlhkmdljgpaaE3
namespace Go.Proofs.Ytncnlhkmdljgpaa
open Go Go.RowKit

section
variable {P : Program} {n : Nat} {σ : Sg} {w : World} {Q : Exit → Act → World → Prop} {L : List Oper}
def flD (sto : List Nat) (D : Array Bool) : Nat → Bool := fun k => bif memB sto k then D.getD k false else false
def fset (fl : Nat → Bool) (i : Nat) : Nat → Bool := fun k => bif Nat.beq k i then true else fl k
/-- of what is known of worlds in the region -/
structure BaseOk (w : World) (Base : (Nat → Bool) → World → Prop) : Prop where
  start : ∀ fl, (∀ k, fl k = false) → Base fl { w with drawn := w.drawn + 1 }
  grow : ∀ fl w1 w2, Base fl w1 → Below w1.heap.size w1 w2 → Base fl w2
  size : ∀ fl w1, Base fl w1 → w.heap.size ≤ w1.heap.size
def SStep (P : Program) (n : Nat) (L : List Oper) (Q : Exit → Act → World → Prop) (cls : List (List Nat)) (m : Nat) (alc sto : List Nat) (σ : Sg) (Base : (Nat → Bool) → World → Prop) (Φ : Nat → (Nat → Bool) → (Nat → Value) → World → Prop) (i : Nat) : Prop :=
  ∀ (val : Nat → Value) (fl : Nat → Bool) (w1 : World) (a : Act), Base fl w1 → Env n (sgAt L cls m σ val i) a → (∀ j, j ∈ clsAt cls i → Φ j fl (res val j (clsAt cls j)) w1) → (∀ s ∈ sto, i ∈ clsAt cls s → fl s = false) →
    wpOp P L.toArray Q i (fun a' w' => ∃ v, a' = a.put (dstOf L i) v ∧ Below w1.heap.size w1 w' ∧ Φ i fl (res (upd val i v) i (clsAt cls i)) w' ∧ (i ∈ alc → v = .pointer (some ⟨w1.heap.size, 0, none⟩) ∧ w1.heap.size < w'.heap.size)) a w1
def TStep (P : Program) (n : Nat) (L : List Oper) (Q : Exit → Act → World → Prop) (cls : List (List Nat)) (m : Nat) (alc sto : List Nat) (σ : Sg) (Base : (Nat → Bool) → World → Prop) (Φ : Nat → (Nat → Bool) → (Nat → Value) → World → Prop) (i : Nat) : Prop :=
  ∀ (val : Nat → Value) (fl : Nat → Bool) (w1 : World) (a : Act), Base fl w1 → fl i = false → Env n (sgAt L cls m σ val i) a → (∀ j, j ∈ clsAt cls i → Φ j fl (res val j (clsAt cls j)) w1) → (∀ s ∈ sto, i ∈ clsAt cls s → fl s = false) →
    wpOp P L.toArray Q i (fun a' w' => ∃ v, a' = a.put (dstOf L i) v ∧ w1.heap.size ≤ w'.heap.size ∧ Base (fset fl i) w' ∧ Φ i (fset fl i) (res (upd val i v) i (clsAt cls i)) w' ∧
      ∀ j, j < m → j ≠ i → i ∉ clsAt cls j → (∀ p ∈ alc, (p = j ∨ p ∈ clsAt cls j) → ∀ q ∈ alc, (q = i ∨ q ∈ clsAt cls i) → p ≠ q → val p ≠ val q) → Φ j fl (res val j (clsAt cls j)) w1 → Φ j (fset fl i) (res val j (clsAt cls j)) w') a w1
structure SInv (n : Nat) (L : List Oper) (cls : List (List Nat)) (m : Nat) (alc sto : List Nat) (σ : Sg) (w : World) (Base : (Nat → Bool) → World → Prop) (Φ : Nat → (Nat → Bool) → (Nat → Value) → World → Prop) (D : Array Bool) (val : Nat → Value) (a : Act) (w' : World) : Prop where
  base : Base (flD sto D) w'
  size : a.tmps.size = n
  defers : a.defers = []
  new : ∀ i d, i < m → D.getD i false = true → dstOf L i = some d → a.tmps[d]? = some (val i)
  old : ∀ t v, σ t = some v → (∀ k, k < m → D.getD k false = true → dstOf L k ≠ some t) → a.tmps[t]? = some v
  says : ∀ i, i < m → D.getD i false = true → Φ i (flD sto D) (res val i (clsAt cls i)) w'
  down : ∀ i, D.getD i false = true → ∀ j ∈ clsAt cls i, D.getD j false = true
  alc1 : ∀ i ∈ alc, i < m → D.getD i false = true → ∃ g, val i = .pointer (some ⟨g, 0, none⟩) ∧ w.heap.size ≤ g ∧ g < w'.heap.size
  alc2 : ∀ i ∈ alc, ∀ j ∈ alc, i < m → j < m → D.getD i false = true → D.getD j false = true → i ≠ j → val i ≠ val j
  high : ∀ i, m ≤ i → D.getD i false = false
theorem flD_same {sto : List Nat} {D : Array Bool} {i : Nat} (hi : i ∉ sto) (hs : i < D.size) : flD sto (D.setIfInBounds i true) = flD sto D := by
  funext k
  unfold flD
  cases e : memB sto k with
  | false => rfl
  | true =>
    have : k ≠ i := fun h => hi (h ▸ memB_mem.1 e)
    rw [set_get hs, if_neg this]
theorem flD_set {sto : List Nat} {D : Array Bool} {i : Nat} (hi : i ∈ sto) (hs : i < D.size) : flD sto (D.setIfInBounds i true) = fset (flD sto D) i := by
  funext k
  unfold flD fset
  rw [set_get hs]
  cases e : Nat.beq k i with
  | true =>
    have := Nat.eq_of_beq_eq_true e
    subst this
    rw [memB_mem.2 hi]
    simp
  | false =>
    have := Nat.ne_of_beq_eq_false e
    rw [if_neg this]
    rfl
theorem EC.regionS {id : Nat} (cls : List (List Nat)) (m : Nat) (alc sto : List Nat) (Base : (Nat → Bool) → World → Prop) (Φ : Nat → (Nat → Bool) → (Nat → Value) → World → Prop) (hf : P.follows .mixedOrders = true) (hq : headQ n cls m 0 L = true) (hml : Nat.ble m L.length = true) (hds : ∀ i ∈ sto, i ∉ alc ∧ i < m) (hB : BaseOk w Base)
    (hmono : ∀ i fl r w1 w2, Below w1.heap.size w1 w2 → Φ i fl r w1 → Φ i fl r w2)
    (hstep : ∀ i, i < m → i ∉ sto → SStep P n L Q cls m alc sto σ Base Φ i) (hsto : ∀ i ∈ sto, TStep P n L Q cls m alc sto σ Base Φ i)
    (hend : ∀ val fl w', (∀ k ∈ sto, fl k = true) → Base fl w' → Alc alc m val w w' → (∀ i, i < m → Φ i fl (res val i (clsAt cls i)) w') → EL P n L Q (L.drop m) (sgEnd L σ val m) w') : EC P n (.region id L.toArray true) Q σ w := by
  have hm : m ≤ L.length := by simpa [Nat.ble_eq] using hml
  have H := headQ_ok hq
  have hback : backB L.toArray = true := by
    refine List.all_eq_true.2 fun i hi => ?_
    have hi' : i < L.length := by simpa using hi
    have ho : L.toArray[i]? = some L[i] := by simp [hi']
    rw [ho]
    refine Array.all_eq_true_iff_forall_mem.2 fun e he => ?_
    cases hb : Region.binds .any e with
    | false => rfl
    | true => simpa using H.back i L[i] (by simp [hi']) e he hb
  intro a ha
  -- the tail's part
  have tailDone : ∀ (D : Array Bool) (i : Nat) (o : Oper), (∀ i, D.getD i false = true → ∀ j ∈ clsAt cls i, D.getD j false = true) → L[i]? = some o → (∀ e ∈ o.after, Region.binds .any e = true → D.getD e.on false = true) → ∀ j ∈ clsAt cls i, D.getD j false = true := by
    intro D i o hdown ho hdep j hj
    obtain ⟨e, he, hb, h⟩ := H.dep i o ho j hj
    rcases h with rfl | h
    · exact hdep e he hb
    · exact hdown _ (hdep e he hb) j h
  have hEnd : ∀ (D : Array Bool) (val : Nat → Value) (a : Act) (w' : World), SInv n L cls m alc sto σ w Base Φ D val a w' → (∀ i, i < m → D.getD i false = true) → wpList P L.toArray Q (L.drop m) a w' := by
    intro D val a w' I hall
    refine hend val (flD sto D) w' (fun k hk => by unfold flD; rw [memB_mem.2 hk]; exact hall k (hds k hk).2) I.base ⟨fun i hi hlt => I.alc1 i hi hlt (hall i hlt), fun i hi j hj h1 h2 hne => I.alc2 i hi j hj h1 h2 (hall i h1) (hall j h2) hne⟩ (fun i hi => I.says i hi (hall i hi)) a ⟨I.size, I.defers, ?_⟩
    have : ∀ k, k ≤ m → ∀ t v, sgEnd L σ val k t = some v → (∀ j, k ≤ j → j < m → dstOf L j ≠ some t) → a.tmps[t]? = some v := by
      intro k
      induction k with
      | zero => intro _ t v ht hn; exact I.old t v ht fun j hj _ => hn j (Nat.zero_le _) hj
      | succ k ih =>
        intro hk t v ht hn
        unfold sgEnd at ht
        cases hd : dstOf L k with
        | none =>
          simp only [hd] at ht
          exact ih (by omega) t v ht fun j h1 h2 => by
            rcases Nat.lt_or_ge k j with h | h
            · exact hn j h h2
            · obtain rfl : j = k := by omega
              rw [hd]; simp
        | some d =>
          simp only [hd] at ht
          unfold ins at ht
          cases e : Nat.beq t d with
          | true =>
            rw [e] at ht
            have e' := Nat.eq_of_beq_eq_true e
            subst e'
            rw [I.new k t (by omega) (hall k (by omega)) hd]
            exact ht
          | false =>
            rw [e] at ht
            exact ih (by omega) t v ht fun j h1 h2 => by
              rcases Nat.lt_or_ge k j with h | h
              · exact hn j h h2
              · obtain rfl : j = k := by omega
                rw [hd]
                intro e2
                injection e2 with e2
                exact Nat.ne_of_beq_eq_false e e2.symm
    exact fun t v ht => this m (Nat.le_refl _) t v ht fun j h1 h2 => by omega
  refine wp_region_inv hf hback (fun D a w' => (∃ val, SInv n L cls m alc sto σ w Base Φ D val a w') ∨ ∃ k, m < k ∧ k ≤ L.length ∧ (∀ i, D.getD i false = decide (i < k)) ∧ wpList P L.toArray Q (L.drop k) a w') ?_ ?_ ?_
  · left
    have hno : ∀ i, (Array.replicate L.toArray.size false).getD i false = false := fun i => by
      by_cases h : i < L.toArray.size
      · simp [Array.getD]
      · simp [Array.getD]
    refine ⟨fun _ => undef, ⟨hB.start _ (fun k => by unfold flD; rw [hno]; cases memB sto k <;> rfl), ha.size, ha.defers, ?_, fun t v ht _ => ha.get t v ht, ?_, ?_, ?_, ?_, fun i _ => hno i⟩⟩
    · intro i d _ h; rw [hno] at h; cases h
    · intro i _ h; rw [hno] at h; cases h
    · intro i h; rw [hno] at h; cases h
    · intro i _ _ h; rw [hno] at h; cases h
    · intro i _ j _ _ _ h; rw [hno] at h; cases h
  · intro D a w1 i o hs hI hni ho hdep
    have hs' : D.size = L.length := by simpa using hs
    have ho' : L[i]? = some o := by simpa using ho
    have hil : i < L.length := (List.getElem?_eq_some_iff.1 ho').1
    have hnd : D.getD i false = false := getD_false_of (by omega) hni
    have takeTail : ∀ (k : Nat), k = i → m ≤ k → (∀ j, D.getD j false = decide (j < k)) → wpList P L.toArray Q (L.drop k) a w1 →
        wpOp P L.toArray Q i (fun a w' => (∃ val, SInv n L cls m alc sto σ w Base Φ (D.setIfInBounds i true) val a w') ∨ ∃ k, m < k ∧ k ≤ L.length ∧ (∀ j, (D.setIfInBounds i true).getD j false = decide (j < k)) ∧ wpList P L.toArray Q (L.drop k) a w') a w1 := by
      intro k hk hmk hD hw
      subst hk
      rw [List.drop_eq_getElem_cons hil] at hw
      have e : L[k] = o := by rw [List.getElem?_eq_getElem hil] at ho'; injection ho'
      rw [e] at hw
      unfold wpList at hw
      have hnext : ∀ a w', wpList P L.toArray Q (L.drop (k + 1)) a w' → (∃ val, SInv n L cls m alc sto σ w Base Φ (D.setIfInBounds k true) val a w') ∨ ∃ k', m < k' ∧ k' ≤ L.length ∧ (∀ j, (D.setIfInBounds k true).getD j false = decide (j < k')) ∧ wpList P L.toArray Q (L.drop k') a w' := fun a w' h => .inr ⟨k + 1, by omega, by omega, fun j => by
        rw [set_get (by omega)]
        by_cases e : j = k
        · subst e; simp
        · rw [if_neg e, hD]
          by_cases h : j < k
          · simp [h]; omega
          · simp [h]; omega, h⟩
      unfold wpOp
      simp only [ho]
      split
      · rename_i hw'
        rw [if_pos hw'] at hw
        rcases hw with h | h
        · exact .inl (Oper.wp_mono hnext h)
        · exact .inr h
      · rename_i hw'
        rw [if_neg hw'] at hw
        exact hnext _ _ hw
    rcases hI with ⟨val, I⟩ | ⟨k, hmk, hkl, hD, hw⟩
    · have hcd := tailDone D i o I.down ho' hdep
      rcases Nat.lt_or_ge i m with him | him
      · have henv : Env n (sgAt L cls m σ val i) a := by
          refine ⟨I.size, I.defers, fun t v ht => ?_⟩
          unfold sgAt at ht
          cases hfw : findW L t (clsAt cls i) with
          | some j =>
            simp only [hfw] at ht
            obtain ⟨h1, h2⟩ := findW_spec hfw
            injection ht with ht
            have hj := hcd j h1
            have hjm : j < m := by
              rcases Nat.lt_or_ge j m with h | h
              · exact h
              · rw [I.high j h] at hj; cases hj
            rw [I.new j t hjm hj h2, ht]
          | none =>
            simp only [hfw] at ht
            cases hob : oldB L cls i t m with
            | false => rw [hob] at ht; cases ht
            | true =>
              rw [hob] at ht
              refine I.old t v ht fun k hk hdk hd => ?_
              rcases oldB_spec hob k hk hd with rfl | h
              · rw [hnd] at hdk; cases hdk
              · have := I.down k hdk i h
                rw [hnd] at this; cases this
        have hjm : ∀ j, D.getD j false = true → j < m := fun j hj => by
          rcases Nat.lt_or_ge j m with h | h
          · exact h
          · rw [I.high j h] at hj; cases hj
        by_cases his : i ∈ sto
        · have hfi : flD sto D i = false := by unfold flD; rw [memB_mem.2 his]; exact hnd
          refine wpOp_mono ?_ (hsto i his val (flD sto D) w1 a I.base hfi henv (fun j hj => I.says j (hjm j (hcd j hj)) (hcd j hj)) fun s hs' hi' => by
              unfold flD; rw [memB_mem.2 hs']
              rcases Bool.eq_false_or_eq_true (D.getD s false) with h | h
              · have := I.down s h i hi'; rw [hnd] at this; cases this
              · exact h)
          rintro a' w' ⟨v, rfl, hgsz, hbase, hphi, hkeep⟩
          left
          have hsz := hB.size _ _ I.base
          have hfl := flD_set (D := D) his (by omega)
          obtain ⟨hal0, _⟩ := hds i his
          have hdi : dstOf L i = o.dst := dstOf_at ho'
          refine ⟨upd val i v, ⟨by rw [hfl]; exact hbase, ?_, ?_, ?_, ?_, ?_, ?_, ?_, ?_, ?_⟩⟩
          · rw [put_size]; exact I.size
          · cases dstOf L i <;> exact I.defers
          · intro k d hk hdk hd
            rw [set_get (by omega)] at hdk
            by_cases e : k = i
            · subst e
              have hdn : d < n := H.small k o d ho' hk (by rw [← hdi]; exact hd)
              rw [hd]
              simp only [Act.put, upd, if_true]
              rw [Array.getElem?_setIfInBounds_self_of_lt (by rw [I.size]; exact hdn)]
            · rw [if_neg e] at hdk
              have hok : ∃ p, L[k]? = some p := ⟨L[k]'(by omega), by simp [show k < L.length by omega]⟩
              obtain ⟨p, hp⟩ := hok
              have hne : dstOf L i ≠ some d := by
                intro h'
                rcases Nat.lt_or_gt_of_ne e with hlt | hgt
                · exact H.dist k i p o d hp ho' hlt him (by rw [← dstOf_at hp]; exact hd) (by rw [← hdi]; exact h')
                · exact H.dist i k o p d ho' hp hgt hk (by rw [← hdi]; exact h') (by rw [← dstOf_at hp]; exact hd)
              have := I.new k d hk hdk hd
              simp only [upd, if_neg e]
              cases hdi' : dstOf L i with
              | none => exact this
              | some d' =>
                have : d' ≠ d := fun h => hne (by rw [hdi', h])
                simp only [Act.put, Array.getElem?_setIfInBounds_ne this]
                assumption
          · intro t u ht hno
            have h1 : a.tmps[t]? = some u := I.old t u ht fun k hk hdk => hno k hk (by rw [set_get (by omega)]; split <;> simp [hdk])
            have h2 : dstOf L i ≠ some t := hno i him (by rw [set_get (by omega), if_pos rfl])
            cases hdi' : dstOf L i with
            | none => exact h1
            | some d' =>
              have : d' ≠ t := fun h => h2 (by rw [hdi', h])
              simp only [Act.put, Array.getElem?_setIfInBounds_ne this]
              exact h1
          · intro k hk hdk
            rw [set_get (by omega)] at hdk
            rw [hfl]
            by_cases e : k = i
            · subst e; exact hphi
            · rw [if_neg e] at hdk
              have hni' : i ∉ clsAt cls k := fun h => by
                have := I.down k hdk i h
                rw [hnd] at this; cases this
              rw [res_upd e hni']
              refine hkeep k hk e hni' (fun p hp hpk q hq hqi hne => ?_) (I.says k hk hdk)
              have hpd : D.getD p false = true := by
                rcases hpk with rfl | h
                · exact hdk
                · exact I.down k hdk p h
              have hqd : D.getD q false = true := by
                rcases hqi with rfl | h
                · exact absurd hq hal0
                · exact hcd q h
              exact I.alc2 p hp q hq (hjm p hpd) (hjm q hqd) hpd hqd hne
          · intro k hdk j hj
            rw [set_get (by omega)] at hdk ⊢
            by_cases e : k = i
            · subst e
              rw [hcd j hj]; simp
            · rw [if_neg e] at hdk
              rw [I.down k hdk j hj]; simp
          · intro k hk hkm hdk
            rw [set_get (by omega)] at hdk
            by_cases e : k = i
            · subst e; exact absurd hk hal0
            · rw [if_neg e] at hdk
              obtain ⟨g, h1, h2, h3⟩ := I.alc1 k hk hkm hdk
              exact ⟨g, by simp [upd, e, h1], h2, Nat.lt_of_lt_of_le h3 hgsz⟩
          · intro k hk j hj hkm hjm' hdk hdj hne
            rw [set_get (by omega)] at hdk hdj
            by_cases e : k = i
            · subst e; exact absurd hk hal0
            · by_cases e2 : j = i
              · subst e2; exact absurd hj hal0
              · rw [if_neg e] at hdk
                rw [if_neg e2] at hdj
                simp only [upd, if_neg e, if_neg e2]
                exact I.alc2 k hk j hj hkm hjm' hdk hdj hne
          · intro k hk
            rw [set_get (by omega), if_neg (by omega)]
            exact I.high k hk
        refine wpOp_mono ?_ (hstep i him his val (flD sto D) w1 a I.base henv (fun j hj => I.says j (hjm j (hcd j hj)) (hcd j hj)) fun s hs' hi' => by
            unfold flD; rw [memB_mem.2 hs']
            rcases Bool.eq_false_or_eq_true (D.getD s false) with h | h
            · have := I.down s h i hi'; rw [hnd] at this; cases this
            · exact h)
        rintro a' w' ⟨v, rfl, hb, hphi, halc⟩
        left
        have hsz := hB.size _ _ I.base
        have hfl := flD_same (D := D) his (by omega)
        have hdi : dstOf L i = o.dst := dstOf_at ho'
        refine ⟨upd val i v, ⟨by rw [hfl]; exact hB.grow _ _ _ I.base hb, ?_, ?_, ?_, ?_, ?_, ?_, ?_, ?_, ?_⟩⟩
        · rw [put_size]; exact I.size
        · cases dstOf L i <;> exact I.defers
        · intro k d hk hdk hd
          rw [set_get (by omega)] at hdk
          by_cases e : k = i
          · subst e
            have hdn : d < n := H.small k o d ho' hk (by rw [← hdi]; exact hd)
            rw [hd]
            simp only [Act.put, upd, if_true]
            rw [Array.getElem?_setIfInBounds_self_of_lt (by rw [I.size]; exact hdn)]
          · rw [if_neg e] at hdk
            have hok : ∃ p, L[k]? = some p := ⟨L[k]'(by omega), by simp [show k < L.length by omega]⟩
            obtain ⟨p, hp⟩ := hok
            have hne : dstOf L i ≠ some d := by
              intro h'
              rcases Nat.lt_or_gt_of_ne e with hlt | hgt
              · exact H.dist k i p o d hp ho' hlt him (by rw [← dstOf_at hp]; exact hd) (by rw [← hdi]; exact h')
              · exact H.dist i k o p d ho' hp hgt hk (by rw [← hdi]; exact h') (by rw [← dstOf_at hp]; exact hd)
            have := I.new k d hk hdk hd
            simp only [upd, if_neg e]
            cases hdi' : dstOf L i with
            | none => exact this
            | some d' =>
              have : d' ≠ d := fun h => hne (by rw [hdi', h])
              simp only [Act.put, Array.getElem?_setIfInBounds_ne this]
              assumption
        · intro t u ht hno
          have h1 : a.tmps[t]? = some u := I.old t u ht fun k hk hdk => hno k hk (by rw [set_get (by omega)]; split <;> simp [hdk])
          have h2 : dstOf L i ≠ some t := hno i him (by rw [set_get (by omega), if_pos rfl])
          cases hdi' : dstOf L i with
          | none => exact h1
          | some d' =>
            have : d' ≠ t := fun h => h2 (by rw [hdi', h])
            simp only [Act.put, Array.getElem?_setIfInBounds_ne this]
            exact h1
        · intro k hk hdk
          rw [set_get (by omega)] at hdk
          rw [hfl]
          by_cases e : k = i
          · subst e; exact hphi
          · rw [if_neg e] at hdk
            have hni' : i ∉ clsAt cls k := fun h => by
              have := I.down k hdk i h
              rw [hnd] at this; cases this
            rw [res_upd e hni']
            exact hmono k _ _ w1 w' hb (I.says k hk hdk)
        · intro k hdk j hj
          rw [set_get (by omega)] at hdk ⊢
          by_cases e : k = i
          · subst e
            rw [hcd j hj]; simp
          · rw [if_neg e] at hdk
            rw [I.down k hdk j hj]; simp
        · intro k hk hkm hdk
          rw [set_get (by omega)] at hdk
          by_cases e : k = i
          · subst e
            obtain ⟨h1, h2⟩ := halc hk
            exact ⟨w1.heap.size, by simp [upd, h1], hsz, h2⟩
          · rw [if_neg e] at hdk
            obtain ⟨g, h1, h2, h3⟩ := I.alc1 k hk hkm hdk
            exact ⟨g, by simp [upd, e, h1], h2, Nat.lt_of_lt_of_le h3 hb.size⟩
        · intro k hk j hj hkm hjm' hdk hdj hne
          rw [set_get (by omega)] at hdk hdj
          by_cases e : k = i
          · subst e
            have e2 : j ≠ k := Ne.symm hne
            rw [if_neg e2] at hdj
            obtain ⟨h1, _⟩ := halc hk
            obtain ⟨g, h3, _, h5⟩ := I.alc1 j hj hjm' hdj
            simp only [upd, if_true, if_neg e2, h1, h3]
            intro h
            injection h with h
            injection h with h
            injection h with h
            omega
          · rw [if_neg e] at hdk
            by_cases e2 : j = i
            · subst e2
              obtain ⟨h1, _⟩ := halc hj
              obtain ⟨g, h3, _, h5⟩ := I.alc1 k hk hkm hdk
              simp only [upd, if_true, if_neg e, h1, h3]
              intro h
              injection h with h
              injection h with h
              injection h with h
              omega
            · rw [if_neg e2] at hdj
              simp only [upd, if_neg e, if_neg e2]
              exact I.alc2 k hk j hj hkm hjm' hdk hdj hne
        · intro k hk
          rw [set_get (by omega), if_neg (by omega)]
          exact I.high k hk
      · have hall : ∀ j, j < i → D.getD j false = true := fun j hj => hcd j (H.tail i o ho' him j hj)
        have him' : i = m := by
          rcases Nat.lt_or_ge m i with h | h
          · have := hall m h
            rw [I.high m (Nat.le_refl _)] at this; cases this
          · omega
        subst him'
        exact takeTail i rfl (Nat.le_refl _) (fun j => by
          by_cases h : j < i
          · rw [hall j h]; simp [h]
          · rw [I.high j (by omega)]; simp [h]) (hEnd D val a w1 I hall)
    · have hcd : ∀ j, j < i → D.getD j false = true := fun j hj => by
        have hmi : m ≤ i := by
          have := hD i
          rw [hnd] at this
          have : ¬ i < k := by simpa using this.symm
          omega
        have hdn : ∀ i, D.getD i false = true → ∀ j ∈ clsAt cls i, D.getD j false = true := by
          intro x hx y hy
          rw [hD] at hx ⊢
          have hx' : x < k := by simpa using hx
          obtain ⟨p, hp⟩ : ∃ p, L[x]? = some p := ⟨L[x]'(by omega), by simp [show x < L.length by omega]⟩
          have : ∀ (x : Nat) (p : Oper), L[x]? = some p → ∀ y ∈ clsAt cls x, y < x := by
            intro x
            induction x using Nat.strongRecOn with
            | ind x ih =>
              intro p hp y hy
              obtain ⟨e, he, hb, h⟩ := H.dep x p hp y hy
              have h1 := H.back x p hp e he hb
              rcases h with rfl | h
              · exact h1
              · obtain ⟨q, hq⟩ : ∃ q, L[e.on]? = some q := by
                  have : x < L.length := (List.getElem?_eq_some_iff.1 hp).1
                  exact ⟨L[e.on]'(by omega), by simp [show e.on < L.length by omega]⟩
                have := ih e.on h1 q hq y h
                omega
          have := this x p hp y hy
          simp
          omega
        exact tailDone D i o hdn ho' hdep j (H.tail i o ho' hmi j hj)
      have hik : k = i := by
        have h1 := hD i
        rw [hnd] at h1
        have h2 : ¬ i < k := by simpa using h1.symm
        rcases Nat.lt_or_ge k i with h | h
        · have := hcd k h
          rw [hD] at this
          simp at this
        · omega
      exact takeTail k hik (by omega) hD hw
  · intro D a w1 hs hI hall
    have hs' : D.size = L.length := by simpa using hs
    rcases hI with ⟨val, I⟩ | ⟨k, hmk, hkl, hD, hw⟩
    · have hmL : m = L.length := by
        rcases Nat.lt_or_ge m L.length with h | h
        · have := hall m (by simpa using h)
          rw [I.high m (Nat.le_refl _)] at this; cases this
        · omega
      have := hEnd D val a w1 I fun i hi => hall i (by simp; omega)
      rw [hmL, List.drop_length] at this
      exact this
    · have hk : k = L.length := by
        rcases Nat.lt_or_ge k L.length with h | h
        · have := hall k (by simpa using h)
          rw [hD] at this
          simp at this
        · omega
      rw [hk, List.drop_length] at hw
      exact hw
theorem base_below (w : World) : BaseOk w fun _ w1 => Below w.heap.size w w1 :=
  ⟨fun _ _ => ⟨rfl, rfl, rfl, Nat.le_refl _, fun _ _ => rfl⟩, fun _ _ _ h hb => h.trans (hb.mono h.size), fun _ _ h => h.size⟩
end
end Go.Proofs.Ytncnlhkmdljgpaa
