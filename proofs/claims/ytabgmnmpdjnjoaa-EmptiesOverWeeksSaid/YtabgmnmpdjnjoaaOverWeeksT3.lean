/- X6, X7, EmPot, E18, ExX8, X8, EmAft, ExX9, ExX10, X10, EmMove, ExX11, X11, ExX12: what EmptiesOverWeeksProof needs of them (merged by trimpack.py). -/
import Derived.Test.YtabgmnmpdjnjoaaOverWeeksT2
set_option linter.unusedVariables false
set_option linter.unusedSimpArgs false
namespace Go.Proofs.Ytabgmnmpdjnjoaa
open Go Go.RowKit
theorem lets_blk {id : Nat} {Q : Exit → Act → World → Prop} (h : ¬LetsOut Q) : ¬LetsOut (Exit.inBlock id Q) := h
theorem lets_then {K : Act → World → Prop} {Q : Exit → Act → World → Prop} (h : ¬LetsOut Q) : ¬LetsOut (Exit.then K Q) := h
theorem lets_body {A B C D : World → Prop} : ¬LetsOut (fun e _ W' => A W' ∧ B W' ∧ ((e = Exit.normal ∧ C W') ∨ (e = Exit.ret ∧ D W'))) := fun ⟨_, _, h⟩ => by
  rcases h.2.2 with ⟨h1, _⟩ | ⟨h1, _⟩ <;> cases h1
theorem EQ.finD {P : Program} {n : Nat} {L : List Oper} {ds : List Deferred} {σ : Sg} {w : World} {Q : Exit → Act → World → Prop} (h : ∀ w', Below w.heap.size w w' → EXI n ds Q .normal σ w') : EQ P n L (fun w' => Below w.heap.size w w') (fun a' => ∀ w', Below w.heap.size w w' → Q .normal (addD ds a') w') [] σ := EQ.fin (Q := fun e a' w' => Q e (addD ds a') w') fun w' hw => EX.ofD (h w' hw)
theorem EX.toI {n : Nat} {Q : Exit → Act → World → Prop} {e : Exit} {σ : Sg} {w : World} (h : EXI n [] Q e σ w) : EX n Q e σ w := fun a ha => h a ha.g
theorem blk_type {w w' : World} {g k T T' : Nat} {cs cs' : Array Value} (h : Blk w g T cs) (hq : Blk w k T' cs') (hT : Nat.beq T' T = false) (hg : w.grownBy w' (some k)) : Blk w' g T cs := h.grown hg fun e => by
  injection e with e
  subst e
  unfold Blk at h hq
  rw [hq] at h
  injection h with h
  injection h with _ h
  subst h
  rw [Nat.beq_refl] at hT
  cases hT
theorem below_map {w0 w w' : World} {b : Nat} (h : Below w0.heap.size w0 w) (hg : w.grownBy w' (some b)) (hb : w0.heap.size ≤ b) : Below w0.heap.size w0 w' := ⟨hg.os.trans h.os, hg.tape.trans h.tape, hg.output.trans h.output, Nat.le_trans h.size hg.size, fun k hk => (hg.block k (Nat.lt_of_lt_of_le hk h.size) (fun e => by injection e with e; omega)).trans (h.block k hk)⟩
theorem arcs_cut (l r : List Arc) (c : Arc) (x : Int) : spl (arcsC (l ++ c :: r)) (0 + l.length * 4 + 3) [.int .i64 x] = arcsC (l ++ ⟨c.fr, c.to, c.cost, x⟩ :: r) := by
  have e : ∀ (xs ys : List Value) (n : Nat), n = xs.length → spl (xs ++ ys) (n + 3) [.int .i64 x] = xs ++ spl ys 3 [.int .i64 x] := by
    intro xs
    induction xs with
    | nil => intro ys n hn; subst hn; rfl
    | cons u xs ih =>
      intro ys n hn
      obtain rfl : n = xs.length + 1 := hn
      rw [show xs.length + 1 + 3 = (xs.length + 3) + 1 by omega]
      show u :: spl (xs ++ ys) (xs.length + 3) _ = _
      rw [ih ys xs.length rfl]
      rfl
  rw [arcsC_app, arcsC_app, Nat.zero_add, e _ _ _ (by rw [arcsC_len])]
  congr 1
  show _ :: _ :: _ :: ovr (Value.int .i64 c.room :: arcsC r) [_] = _
  rw [ovr_eq _ _ (by simp)]
  rfl
theorem spl_arcs {L : List Arc} {a : Nat} {x : Int} (h : a < L.length) : spl (arcsC L) (0 + a * 4 + 3) [.int .i64 x] = arcsC (setRoom L a x) := by
  have hL : L = L.take a ++ arcAt L a :: L.drop (a + 1) := by
    rw [show arcAt L a = L[a] by simp [arcAt, h], ← List.drop_eq_getElem_cons h, List.take_append_drop]
  have hl : (L.take a).length = a := by rw [List.length_take]; omega
  have key := arcs_cut (L.take a) (L.drop (a + 1)) (arcAt L a) x
  rw [hl, ← hL] at key
  rw [key, setRoom, List.set_eq_take_append_cons_drop, if_pos h]
theorem xor_one : ∀ m : Nat, m < 1024 → IntKind.i64.wrap (((BitVec.ofInt 64 (m : Int)) ^^^ (BitVec.ofInt 64 1)).toNat : Int) = ((mate m : Nat) : Int) := by decide +kernel
theorem x_xor1 {P : Program} {n : Nat} {σ : Sg} {w : World} {dst : Option Tmp} {ty t t' : TypeId} {pos : String} {af : Array Edge} {g : Option (Nat × Bool)} {x y : Operand} {m : Nat} (hx : evS σ x = some (.int .i64 (m : Nat))) (hy : evS σ y = some (.int .i64 1)) (hm : m < 1024) : Gives P n σ w ⟨dst, .binOp .xor t x y t', ty, pos, af, g⟩ (.int .i64 ((mate m : Nat) : Int)) := fun a ha => by
  have h := xor_one m hm
  simp only [execOp, ha.eval hx, ha.eval hy]
  have h' : Result.ok (Next.value (Value.int .i64 (IntKind.i64.wrap (((BitVec.ofInt 64 (m : Int)) ^^^ (BitVec.ofInt 64 1)).toNat : Int)))) w = .ok (.value (.int .i64 ((mate m : Nat) : Int))) w := by rw [h]
  exact h'
theorem initS_map {nt : Net} (v : Nat) : initS nt v = (putM (fun _ => none) nt.ports.length 0 v).getD farI := by
  unfold initS putM
  by_cases h : v = nt.ports.length
  · rw [if_pos h, if_pos h]; rfl
  · rw [if_neg h, if_neg h]; rfl
theorem initS_out {nt : Net} {R : Nat → Prop} {v : Nat} (h : R nt.ports.length) (hR : ¬R v) : initS nt v = farI := by
  unfold initS
  rw [if_neg (fun e => hR (by rw [e]; exact h))]
theorem initS_low {nt : Net} {π : Nat → Int} {v : Nat} (h : π nt.ports.length = 0) (hf : π v ≤ farI) : π v ≤ initS nt v := by
  unfold initS
  split
  · rename_i e; rw [e, h]; exact Int.le_refl _
  · exact hf
/-- an arc that needs no hulls more -/
def fullA (nt : Net) (a : Arc) : Bool := !(decide (a.to = nt.ports.length + 1) && decide (0 < a.room))
def fullB (nt : Net) (L : List Arc) : Bool := (L.drop (2 * nt.ways.length)).all (fullA nt)
theorem fullA_no {nt : Net} {a : Arc} (h : a.to = nt.ports.length + 1) (h2 : 0 < a.room) : fullA nt a = false := by simp [fullA, h, h2]
theorem fullA_to {nt : Net} {a : Arc} (h : ¬a.to = nt.ports.length + 1) : fullA nt a = true := by simp [fullA, h]
theorem fullA_room {nt : Net} {a : Arc} (h : ¬0 < a.room) : fullA nt a = true := by simp [fullA]; omega
theorem all_take {l : List Arc} {p : Arc → Bool} {x : Nat} (hx : x < l.length) (h : (l.take x).all p = true) (h2 : p (l.getD x arc0) = true) : (l.take (x + 1)).all p = true := by
  rw [List.take_succ_eq_append_getElem hx, List.all_append, h, show l[x] = l.getD x arc0 by simp [hx]]
  simp only [List.all_cons, List.all_nil, Bool.and_true, Bool.true_and]
  exact h2
theorem not_all {l : List Arc} {p : Arc → Bool} {x : Nat} (hx : x < l.length) (h2 : p (l.getD x arc0) = false) : l.all p = false := by
  rw [List.all_eq_false]
  exact ⟨l[x], List.getElem_mem hx, by rw [show l[x] = l.getD x arc0 by simp [hx], h2]; simp⟩
theorem take_drop_all {l : List Arc} {m k : Nat} (h : k = l.length - m) : (l.drop m).take k = l.drop m := List.take_of_length_le (by rw [List.length_drop]; omega)
/-! ### Rooms while hulls are moved -/
theorem push_bd {L : List Arc} {h : Int} {as_ : List Nat} (h0 : 0 < h) (h1 : h ≤ 1000) (hB : ∀ i, -1000 ≤ (arcAt L i).room ∧ (arcAt L i).room ≤ 1000) (hin : ∀ a ∈ as_, a < L.length ∧ mate a < L.length) (hl : as_.length ≤ 900) : ∀ i, -1000000 ≤ (arcAt (pushAll h L as_) i).room ∧ (arcAt (pushAll h L as_) i).room ≤ 1000000 := by
  have key : ∀ (as_ : List Nat) (L : List Arc) (B : Int), (∀ i, -B ≤ (arcAt L i).room ∧ (arcAt L i).room ≤ B) → (∀ a ∈ as_, a < L.length ∧ mate a < L.length) → ∀ i, -(B + 1000 * as_.length) ≤ (arcAt (pushAll h L as_) i).room ∧ (arcAt (pushAll h L as_) i).room ≤ B + 1000 * as_.length := by
    intro as_
    induction as_ with
    | nil => intro L B hB _ i; have := hB i; simp only [List.length_nil]; exact ⟨by show -_ ≤ (arcAt L i).room; omega, by show (arcAt L i).room ≤ _; omega⟩
    | cons a as_ ih =>
      intro L B hB hin i
      obtain ⟨ha, hm⟩ := hin a List.mem_cons_self
      have := ih (pushArc h L a) (B + 1000) (fun j => by
        have h2 := (push_room (h := h) ha hm j).2.2.2
        have h3 := hB j
        rw [h2]
        split <;> split <;> omega) (fun c hc => by rw [push_len]; exact hin c (List.mem_cons_of_mem _ hc)) i
      simp only [List.length_cons]
      have e : pushAll h L (a :: as_) = pushAll h (pushArc h L a) as_ := rfl
      rw [e]
      omega
  intro i
  have := key as_ L 1000 hB hin i
  omega
section
variable {nt : Net} {L : List Arc} {l b : List Int}
theorem St.rooms (hv : netB nt = true) (h : St nt L) (i : Nat) : -1000 ≤ (arcAt L i).room ∧ (arcAt L i).room ≤ 1000 := by
  have hl := h.good.len
  rcases Nat.lt_or_ge i L.length with hi | hi
  · have hm : mate i < L.length := by rw [hl]; exact open_pairs.mate i (by omega)
    have h2 := h.good.nn i hi
    have h3 := h.good.nn (mate i) hm
    have h4 := h.good.pair i hi
    have h5 := open_each hv (i := i) (by omega)
    have h6 := open_each hv (i := mate i) (by omega)
    have h7 := h5.2.2.1
    have h8 := h6.2.2.1
    have h9 : 0 < (arcAt (openL nt) i).room → i % 2 = 0 := fun x => (h5.2.2.2.2 x).1
    have h10 : 0 < (arcAt (openL nt) (mate i)).room → mate i % 2 = 0 := fun x => (h6.2.2.2.2 x).1
    have h11 : mate i % 2 + i % 2 = 1 := by unfold mate; split <;> omega
    by_cases h12 : 0 < (arcAt (openL nt) i).room
    · have := h9 h12
      by_cases h13 : 0 < (arcAt (openL nt) (mate i)).room
      · have := h10 h13; omega
      · omega
    · omega
  · have e : arcAt L i = arc0 := by simp [arcAt, List.getD, List.getElem?_eq_none hi]
    rw [e]
    decide
theorem chain_length (L : List Arc) (b : List Int) : ∀ k v, (chainL L b k v).length = k
  | 0, _ => rfl
  | k + 1, v => by rw [chainL, List.length_cons, chain_length L b k]
theorem chain_len (hv : netB nt = true) (h : St nt L) (hE : EndsAt L (bf0 (nt.ports.length + 2) (initS nt)) l b) {k : Nat} (hk : Up L b (nt.ports.length + 1) k) : (chainL L b k (nt.ports.length + 1)).length ≤ 62 := by
  obtain ⟨R, π, hI, _⟩ := h.inv hv hE
  obtain ⟨⟨hp1, hp60⟩, _⟩ := netB_ok hv
  have := hI.depth (h.arcs hv) (v := nt.ports.length + 1) (by omega) hk
  rw [chain_length]
  omega
theorem dec_in {pre : List It} {x : It} {qs : List Nat} (h : (pre ++ [x]).map (·.1) <+: encL qs) : (∀ a ∈ decL pre, a ∈ qs) ∧ (decL pre).length ≤ qs.length := by
  refine ⟨fun a ha => ?_, ?_⟩
  · obtain ⟨y, hy, rfl⟩ := List.mem_map.1 ha
    have hm : y.1 ∈ encL qs := h.subset (List.mem_map_of_mem (List.mem_append_left _ hy))
    obtain ⟨c, hc, e⟩ := List.mem_map.1 hm
    rw [← e]
    show ((c : Nat) : Int).toNat ∈ qs
    rw [Int.toNat_natCast]
    exact hc
  · have := h.length_le
    simp only [encL, List.length_map, List.length_append] at this
    simp only [decL, List.length_map]
    omega
end
/-- what a round of fill's ranges keeps -/
structure FI (nt : Net) (L : List Arc) (bb : List Int) (base : Nat) (dl : List Deferred) (w W0 : World) (gc g b1 b2 gb cb gh ga cL : Nat) (h : Int) (L2 : List Arc) (W : World) : Prop where
  b1 : Blk W b1 77 #[.pointer (some ⟨g, 0, none⟩)]
  b2 : Blk W b2 29 #[.slice (some ⟨gb, 0, none⟩) (nt.ports.length + 2) cb]
  row : W.ownsRow 0 3 1 (.slice (some ⟨gb, 0, none⟩) (nt.ports.length + 2) cb) (nt.ports.length + 2) (ints bb)
  c : Blk W gc 77 #[.pointer (some ⟨g, 0, none⟩)]
  h : Blk W gh 3 #[.int .i64 h]
  q : Blk W g 114 #[.int .i64 (nt.ports.length : Nat), .int .i64 (nt.ways.length : Nat), .slice (some ⟨ga, 0, none⟩) (openL nt).length cL]
  arcs : W.ownsRow base 122 4 (.slice (some ⟨ga, 0, none⟩) (openL nt).length cL) (openL nt).length (arcsC L2)
  up : UpTo base w W
  mks : MarksIn base dl W0 W
  len : L2.length = L.length
  fr : ∀ i, (arcAt L2 i).fr = (arcAt L i).fr
theorem FI.from {nt : Net} {L : List Arc} {bb : List Int} {base : Nat} {dl : List Deferred} {w W0 : World} {gc g b1 b2 gb cb gh ga cL B : Nat} {H : List It → Int} {G : List It → List Arc} (h1 : base ≤ B) (h2 : W0.heap.size ≤ B) : OwnFrom B (fun pre W => FI nt L bb base dl w W0 gc g b1 b2 gb cb gh ga cL (H pre) (G pre) W) := fun s W W' row h hg hr =>
  have hc : ∀ r, row = some r → ∃ o : Obj, W.heap[r]? = some o ∧ o.isCells = false := fun r e => (hr r e).2
  ⟨blk_keep h.b1 hg hc, blk_keep h.b2 hg hc, own_keep h.row hg hc, blk_keep h.c hg hc, blk_keep h.h hg hc, blk_keep h.q hg hc, own_keep h.arcs hg hc, h.up.grown hg (fun k e => Nat.le_trans h1 (hr k e).1), h.mks.grown h2 hg (fun r e => (hr r e).1), h.len, h.fr⟩
theorem FI.back {nt : Net} {L : List Arc} {bb : List Int} {base : Nat} {dl : List Deferred} {w W0 W : World} {gc g b1 b2 gb cb gh ga cL : Nat} {h : Int} {L2 : List Arc} (h : FI nt L bb base dl w W0 gc g b1 b2 gb cb gh ga cL h L2 W) (hlen : L.length = (openL nt).length) (hlb : bb.length = nt.ports.length + 2) : BackAt L bb nt.ports.length b1 b2 g gb (nt.ports.length + 2) cb W :=
  ⟨h.b1, h.b2, ⟨_, _, L2, h.q, by rw [h.len, hlen]; exact Rd.of_own h.arcs, h.len, h.fr⟩, h.row, hlb⟩
set_option maxHeartbeats 4000000 in
set_option maxRecDepth 100000 in
theorem fill_any {nt : Net} {va : Value} (hv : netB nt = true) (L0 : List Arc) (base g : Nat) (w : World) (hst : St nt L0) (hq : Blk w g 114 #[.int .i64 (nt.ports.length : Nat), .int .i64 (nt.ways.length : Nat), va]) (ho : w.ownsRow base 122 4 va (openL nt).length (arcsC L0)) (hbg : base ≤ g) (hbase : base ≤ w.heap.size) :
    Calls Try.prog 39 #[.pointer (some ⟨g, 0, none⟩)] w fun e w' => (∃ L, FillTo nt L0 L ∧ St nt L ∧ e = .returned (.bool (fullB nt L)) ∧ Blk w' g 114 #[.int .i64 (nt.ports.length : Nat), .int .i64 (nt.ways.length : Nat), va] ∧ w'.ownsRow base 122 4 va (openL nt).length (arcsC L)) ∧ UpTo base w w' := by
  obtain ⟨⟨hp1, hp60⟩, hw300, hvp, hvw⟩ := netB_ok hv
  have hN : (openL nt).length = nt.ways.length * 2 + nt.ports.length * 4 := openL_len nt
  obtain ⟨A, cL, rfl, _⟩ := (Rd.of_own ho).shape
  obtain ⟨ga, rfl⟩ := own_slice ho (by omega)
  have hup := UpTo.refl (w := w) hbase
  refine EC.marks 94 Try.func39 rfl rfl rfl ?_
  refine ECI.seq ?_
  refine ECI.region ?_
  refine ELI.newP (bx_77 rfl rfl) rfl ?_
  intro g1 w1 q1 hb1 hg1 hl1
  have hbs_1 : base ≤ g1 := Nat.le_trans hup.size hg1
  replace hq := hq.below hb1 hq.lt
  replace ho := own_below ho hb1 (Nat.le_refl _)
  replace hup := hup.below hb1
  clear hb1 hg1 hl1
  refine ELI.val (x_assign rfl) rfl ?_
  refine ELI.nil ?_
  refine EXI.seq ?_
  refine ECI.seq ?_
  refine ECI.block ?_
  obtain ⟨gc, egc⟩ : ∃ z, z = g1 := ⟨_, rfl⟩
  have qc := q1
  have hbc := hbs_1
  rw [← egc] at qc hbc
  subst egc
  refine ECI.loopD [3, 4, 5, 6, 7, 10, 11, 12, 13, 14, 15, 16, 17, 18, 19, 20, 21, 22, 23, 24, 25, 26, 27, 29, 30, 31, 32, 33, 34, 35, 36, 37, 38, 39, 40, 41, 43, 44, 45, 46, 47, 48, 49, 50, 51, 52, 53, 54, 55, 56, 57, 58, 59, 60, 61, 62, 63, 64, 65, 66, 67] (fun x : List Arc × List Deferred => []) (fun x => x.2) (fun x W => St nt x.1 ∧ (∀ L', FillTo nt x.1 L' → FillTo nt L0 L') ∧ Blk W gc 77 #[.pointer (some ⟨g, 0, none⟩)] ∧ Blk W g 114 #[.int .i64 (nt.ports.length : Nat), .int .i64 (nt.ways.length : Nat), .slice (some ⟨ga, 0, none⟩) (openL nt).length cL] ∧ W.ownsRow base 122 4 (.slice (some ⟨ga, 0, none⟩) (openL nt).length cL) (openL nt).length (arcsC x.1) ∧ UpTo base w W ∧ Marks base x.2 W ∧ x.2.Nodup) (fun x => (1000 * ((openL nt).length / 2 : Nat) - bal x.1 (nt.ports.length + 1)).toNat) (L0, []) ⟨hst, fun _ h => h, qc, hq, ho, hup, fun d hd => absurd hd (by simp), List.nodup_nil⟩ trivial rfl ?_
  clear qc hq ho hup hst
  rintro ⟨L, dl⟩ wm ⟨hst, hft, qc, hq, ho, hup, hmk, hnd⟩
  dsimp only at hst hft ho hmk hnd
  obtain ⟨R, π, hF, hRs, hπ0, hbd⟩ := hst.pot
  have hA := hst.arcs hv
  have hlen := hst.good.len
  refine ECI.block ?_
  refine ECI.seq ?_
  have lt_1 := qc.lt
  refine ECI.regionD (EO.regionS [[], [], [], [2], [1, 2, 3], [1, 2, 3, 4], [0, 1, 2, 3, 4, 5], [0, 1, 2, 3, 4, 5, 6], [0, 1, 2, 3, 4, 5, 6, 7], [0, 1, 2, 3, 4, 5, 6, 7], [0, 1, 2, 3, 4, 5, 6, 7, 8], [0, 1, 2, 3, 4, 5, 6, 7, 8, 9, 10]] 11 [] [4] (fun _ w_ => Below wm.heap.size wm w_) (phiS (fun i_ r => match i_ with | 0 => r 0 = .pointer (some ⟨g, 0, none⟩) | 2 => r 2 = .pointer (some ⟨g, 0, none⟩) | 3 => r 3 = .int .i64 (nt.ports.length : Nat) | _ => True) [(1, fun fl r w_ => ∃ b_, r 1 = .map (some b_) ∧ wm.heap.size ≤ b_ ∧ (fl 4 = false → MapAt w_ b_ 0 fun _ => none)), (4, fun fl r w_ => ∃ b_, r 1 = .map (some b_) ∧ MapAt w_ b_ 1 (putM (fun _ => none) nt.ports.length 0)), (5, fun fl r w_ => ∃ b_, r 5 = .map (some b_) ∧ MapAt w_ b_ 1 (putM (fun _ => none) nt.ports.length 0)), (6, fun fl r w_ => ∃ vl vb l bb, r 6 = .tuple #[vl, vb] ∧ EndsAt L (bf0 (nt.ports.length + 2) (initS nt)) l bb ∧ w_.ownsRow wm.heap.size 3 1 vb (nt.ports.length + 2) (ints bb)), (7, fun fl r w_ => ∃ vl vb l bb, r 7 = .tuple #[vl, vb] ∧ EndsAt L (bf0 (nt.ports.length + 2) (initS nt)) l bb ∧ w_.ownsRow wm.heap.size 3 1 vb (nt.ports.length + 2) (ints bb)), (8, fun fl r w_ => ∃ v, r 8 = v), (9, fun fl r w_ => ∃ vb l bb, r 9 = vb ∧ EndsAt L (bf0 (nt.ports.length + 2) (initS nt)) l bb ∧ w_.ownsRow wm.heap.size 3 1 vb (nt.ports.length + 2) (ints bb)), (10, fun fl r w_ => ∃ v, r 10 = v)]) (by kernel_rfl) rfl rfl (by intro i hi; simp at hi; subst hi; exact ⟨by simp, by omega⟩) (base_below wm) (phiS_cons (by rintro _ _ _ _ hb ⟨b, h1, h2, h3⟩; exact ⟨b, h1, h2, fun h => (h3 h).below hb⟩) (phiS_cons (by rintro _ _ _ _ hb ⟨b, h1, h2⟩; exact ⟨b, h1, h2.below hb⟩) (phiS_cons (by rintro _ _ _ _ hb ⟨b, h1, h2⟩; exact ⟨b, h1, h2.below hb⟩) (phiS_cons (by rintro _ _ _ _ hb ⟨vl, vb, l, bb, h1, h2, h3⟩; exact ⟨vl, vb, l, bb, h1, h2, own_below h3 hb (Nat.le_refl _)⟩) (phiS_cons (by rintro _ _ _ _ hb ⟨vl, vb, l, bb, h1, h2, h3⟩; exact ⟨vl, vb, l, bb, h1, h2, own_below h3 hb (Nat.le_refl _)⟩) (phiS_cons (fun _ _ _ _ _ h => h) (phiS_cons (by rintro _ _ _ _ hb ⟨vb, l, bb, h1, h2, h3⟩; exact ⟨vb, l, bb, h1, h2, own_below h3 hb (Nat.le_refl _)⟩) (phiS_cons (fun _ _ _ _ _ h => h) (phiS_nil))))))))) (fun i_ hi_ hs_ => ?_) (fun i_ hi_ => ?_) ?_)
  · match i_, hi_ with
    | 0, _ =>
      intro val fl w1 a hb ha hd hfl
      have ha := ha.sub (Sub.ins (d := 1) (Sub.nil _) rfl)
      exact ss_val ha rfl rfl (ld_77 rfl ((qc.below hb qc.lt).at (j := 0) rfl)) rfl rfl
    | 1, _ =>
      intro val fl w1 a hb ha hd hfl
      have ha := ha.sub (Sub.nil _)
      refine ss_run rfl rfl (show _ = _ by simp only [execOp]; kernel_rfl) ((Below.refl _ _).alloc (Nat.le_refl _) _) ⟨_, rfl, hb.size, fun _ => MapAt.made w1⟩ (fun h => absurd (memB_mem.2 h) (by simp [memB]))
    | 2, _ =>
      intro val fl w1 a hb ha hd hfl
      have ha := ha.sub (Sub.ins (d := 1) (Sub.nil _) rfl)
      exact ss_val ha rfl rfl (ld_77 rfl ((qc.below hb qc.lt).at (j := 0) rfl)) rfl rfl
    | 3, _ =>
      intro val fl w1 a hb ha hd hfl
      have e2 : val 2 = .pointer (some ⟨g, 0, none⟩) := hd 2 (memB_mem.1 rfl)
      have ha := ha.sub (Sub.ins (d := 13) (Sub.nil _) (dep_get rfl e2))
      refine ss_call ha rfl rfl (cl_66 rfl) (source_any _ _ (hq.below hb hq.lt) (by omega)) rfl ?_
      rintro e w' ⟨rfl, hb'⟩
      exact ⟨_, rfl, hb', rfl⟩
    | 4, _ =>
      exact absurd (by simp) hs_
    | 5, _ =>
      intro val fl w1 a hb ha hd hfl
      obtain ⟨b1_, e1, h1_, m1_⟩ := hd 1 (memB_mem.1 rfl)
      change val 1 = _ at e1
      obtain ⟨b4_, e4, m4_⟩ := hd 4 (memB_mem.1 rfl)
      have ha := ha.sub (Sub.ins (d := 12) (Sub.nil _) (dep_get rfl e1))
      have hbb : b4_ = b1_ := by have := e4.symm.trans e1; injection this with this; injection this
      subst hbb
      exact ss_val ha rfl rfl (x_move rfl) ⟨b4_, rfl, m4_⟩ rfl
    | 6, _ =>
      intro val fl w1 a hb ha hd hfl
      have e0 : val 0 = .pointer (some ⟨g, 0, none⟩) := hd 0 (memB_mem.1 rfl)
      obtain ⟨b5_, e5, m5_⟩ := hd 5 (memB_mem.1 rfl)
      change val 5 = _ at e5
      have ha := ha.sub (Sub.ins (d := 15) (Sub.ins (d := 11) (Sub.nil _) (dep_get rfl e0)) (dep_get rfl e5))
      refine ss_call ha rfl rfl (cl_68 rfl rfl) (costs_any (lo := 0) (init := initS nt) L g w1 wm.heap.size (hq.below hb hq.lt) (by rw [hlen]; exact (Rd.of_own ho).below hb) hp60 (by rw [hlen]; omega) hA hF m5_ (initS_map) initS_far (fun v _ hR => initS_out hRs hR) (fun v _ hR => initS_low hπ0 (hbd v hR).2) (fun v _ hR => (hbd v hR).1) (by omega)) rfl ?_
      rintro e w' ⟨⟨vl, vb, l, bb, rfl, hE, _, _, ho2, _⟩, hb'⟩
      exact ⟨_, rfl, hb', vl, vb, l, bb, rfl, hE, own_less ho2 hb.size⟩
    | 7, _ =>
      intro val fl w1 a hb ha hd hfl
      obtain ⟨vl6_, vb6_, l6_, bb6_, e6, E6_, o6_⟩ := hd 6 (memB_mem.1 rfl)
      change val 6 = _ at e6
      have ha := ha.sub (Sub.ins (d := 16) (Sub.nil _) (dep_get rfl e6))
      exact ss_val ha rfl rfl (x_move rfl) ⟨vl6_, vb6_, l6_, bb6_, rfl, E6_, o6_⟩ rfl
    | 8, _ =>
      intro val fl w1 a hb ha hd hfl
      obtain ⟨vl7_, vb7_, l7_, bb7_, e7, E7_, o7_⟩ := hd 7 (memB_mem.1 rfl)
      change val 7 = _ at e7
      have ha := ha.sub (Sub.ins (d := 10) (Sub.nil _) (dep_get rfl e7))
      exact ss_val ha rfl rfl (x_extract rfl rfl) ⟨_, rfl⟩ rfl
    | 9, _ =>
      intro val fl w1 a hb ha hd hfl
      obtain ⟨vl7_, vb7_, l7_, bb7_, e7, E7_, o7_⟩ := hd 7 (memB_mem.1 rfl)
      change val 7 = _ at e7
      have ha := ha.sub (Sub.ins (d := 10) (Sub.nil _) (dep_get rfl e7))
      exact ss_val ha rfl rfl (x_extract rfl rfl) ⟨vb7_, l7_, bb7_, rfl, E7_, o7_⟩ rfl
    | 10, _ =>
      intro val fl w1 a hb ha hd hfl
      obtain ⟨v8_, e8⟩ := hd 8 (memB_mem.1 rfl)
      have ha := ha.sub (Sub.ins (d := 17) (Sub.nil _) (dep_get rfl e8))
      exact ss_val ha rfl rfl (x_assign rfl) ⟨_, rfl⟩ rfl
    | k + 11, h => exact absurd h (by omega)
  · simp only [List.mem_singleton] at hi_; subst hi_
    intro val fl w1 a hb hfi ha hd hfl
    obtain ⟨b1_, e1, h1_, m1_⟩ := hd 1 (memB_mem.1 rfl)
    change val 1 = _ at e1
    have e3 : val 3 = .int .i64 (nt.ports.length : Nat) := hd 3 (memB_mem.1 rfl)
    have ha := ha.sub (Sub.ins (d := 14) (Sub.ins (d := 12) (Sub.nil _) (dep_get rfl e1)) (dep_get rfl e3))
    refine ts_insMap ha rfl rfl rfl rfl (m1_ hfi) (by omega) (by omega) (by decide) ?_
    intro w' hm hgr
    refine ⟨undef, rfl, hgr.size, below_map hb hgr h1_, ⟨b1_, e1, hm⟩, fun j _ hj hn hA => ?_⟩
    exact phiS_cons_st (C := fun j => j ≠ 4 ∧ 4 ∉ clsAt [[], [], [], [2], [1, 2, 3], [1, 2, 3, 4], [0, 1, 2, 3, 4, 5], [0, 1, 2, 3, 4, 5, 6], [0, 1, 2, 3, 4, 5, 6, 7], [0, 1, 2, 3, 4, 5, 6, 7], [0, 1, 2, 3, 4, 5, 6, 7, 8], [0, 1, 2, 3, 4, 5, 6, 7, 8, 9, 10]] j) (by rintro _ ⟨b, h1, h2, h3⟩; exact ⟨b, h1, h2, fun h => by rw [fset_eq] at h; cases h⟩) (phiS_cons_st (C := fun j => j ≠ 4 ∧ 4 ∉ clsAt [[], [], [], [2], [1, 2, 3], [1, 2, 3, 4], [0, 1, 2, 3, 4, 5], [0, 1, 2, 3, 4, 5, 6], [0, 1, 2, 3, 4, 5, 6, 7], [0, 1, 2, 3, 4, 5, 6, 7], [0, 1, 2, 3, 4, 5, 6, 7, 8], [0, 1, 2, 3, 4, 5, 6, 7, 8, 9, 10]] j) (fun hc => absurd rfl hc.1) (phiS_cons_st (C := fun j => j ≠ 4 ∧ 4 ∉ clsAt [[], [], [], [2], [1, 2, 3], [1, 2, 3, 4], [0, 1, 2, 3, 4, 5], [0, 1, 2, 3, 4, 5, 6], [0, 1, 2, 3, 4, 5, 6, 7], [0, 1, 2, 3, 4, 5, 6, 7], [0, 1, 2, 3, 4, 5, 6, 7, 8], [0, 1, 2, 3, 4, 5, 6, 7, 8, 9, 10]] j) (fun hc => absurd (memB_mem.1 rfl) hc.2) (phiS_cons_st (C := fun j => j ≠ 4 ∧ 4 ∉ clsAt [[], [], [], [2], [1, 2, 3], [1, 2, 3, 4], [0, 1, 2, 3, 4, 5], [0, 1, 2, 3, 4, 5, 6], [0, 1, 2, 3, 4, 5, 6, 7], [0, 1, 2, 3, 4, 5, 6, 7], [0, 1, 2, 3, 4, 5, 6, 7, 8], [0, 1, 2, 3, 4, 5, 6, 7, 8, 9, 10]] j) (fun hc => absurd (memB_mem.1 rfl) hc.2) (phiS_cons_st (C := fun j => j ≠ 4 ∧ 4 ∉ clsAt [[], [], [], [2], [1, 2, 3], [1, 2, 3, 4], [0, 1, 2, 3, 4, 5], [0, 1, 2, 3, 4, 5, 6], [0, 1, 2, 3, 4, 5, 6, 7], [0, 1, 2, 3, 4, 5, 6, 7], [0, 1, 2, 3, 4, 5, 6, 7, 8], [0, 1, 2, 3, 4, 5, 6, 7, 8, 9, 10]] j) (fun hc => absurd (memB_mem.1 rfl) hc.2) (phiS_cons_st (C := fun j => j ≠ 4 ∧ 4 ∉ clsAt [[], [], [], [2], [1, 2, 3], [1, 2, 3, 4], [0, 1, 2, 3, 4, 5], [0, 1, 2, 3, 4, 5, 6], [0, 1, 2, 3, 4, 5, 6, 7], [0, 1, 2, 3, 4, 5, 6, 7], [0, 1, 2, 3, 4, 5, 6, 7, 8], [0, 1, 2, 3, 4, 5, 6, 7, 8, 9, 10]] j) (fun hc => absurd (memB_mem.1 rfl) hc.2) (phiS_cons_st (C := fun j => j ≠ 4 ∧ 4 ∉ clsAt [[], [], [], [2], [1, 2, 3], [1, 2, 3, 4], [0, 1, 2, 3, 4, 5], [0, 1, 2, 3, 4, 5, 6], [0, 1, 2, 3, 4, 5, 6, 7], [0, 1, 2, 3, 4, 5, 6, 7], [0, 1, 2, 3, 4, 5, 6, 7, 8], [0, 1, 2, 3, 4, 5, 6, 7, 8, 9, 10]] j) (fun hc => absurd (memB_mem.1 rfl) hc.2) (phiS_cons_st (C := fun j => j ≠ 4 ∧ 4 ∉ clsAt [[], [], [], [2], [1, 2, 3], [1, 2, 3, 4], [0, 1, 2, 3, 4, 5], [0, 1, 2, 3, 4, 5, 6], [0, 1, 2, 3, 4, 5, 6, 7], [0, 1, 2, 3, 4, 5, 6, 7], [0, 1, 2, 3, 4, 5, 6, 7, 8], [0, 1, 2, 3, 4, 5, 6, 7, 8, 9, 10]] j) (fun hc => absurd (memB_mem.1 rfl) hc.2) (fun _ _ h => h)))))))) j ⟨hj, hn⟩
  · intro val fl wR1 hfl hb halc hd
    have e0 : val 0 = .pointer (some ⟨g, 0, none⟩) := hd 0 (by omega)
    have e2 : val 2 = .pointer (some ⟨g, 0, none⟩) := hd 2 (by omega)
    have e3 : val 3 = .int .i64 (nt.ports.length : Nat) := hd 3 (by omega)
    obtain ⟨vb9_, l9_, bb9_, e9, E9_, o9_⟩ := hd 9 (by omega)
    change val 9 = _ at e9
    refine EL.ends (cs := [.pointer (some ⟨g, 0, none⟩), val 1, .pointer (some ⟨g, 0, none⟩), .int .i64 (nt.ports.length : Nat), val 4, val 5, val 6, val 7, val 8, vb9_, val 10]) ⟨e0, rfl, e2, e3, rfl, rfl, rfl, rfl, rfl, e9, rfl, trivial⟩ rfl ?_
    replace qc := qc.below hb qc.lt
    replace hq := hq.below hb hq.lt
    replace ho := own_below ho hb (Nat.le_refl _)
    replace hup := hup.below hb
    replace hmk := hmk.below hb
    clear hb
    obtain ⟨Ab, cb, rfl, _⟩ := (Rd.of_own o9_).shape
    obtain ⟨gb, rfl⟩ := own_ptr o9_ (by omega)
    obtain ⟨bb, ebb⟩ : ∃ z, z = bb9_ := ⟨_, rfl⟩
    obtain ⟨ll, ell⟩ : ∃ z, z = l9_ := ⟨_, rfl⟩
    have hob := own_less o9_ (Nat.zero_le _)
    have hE := E9_
    rw [← ebb] at hob
    rw [← ebb, ← ell] at hE
    clear o9_ E9_
    have hlb : bb.length = nt.ports.length + 2 := by obtain ⟨_, _, hI, _⟩ := hst.inv hv hE; exact hI.lb
    refine EL.val (x_assign rfl) rfl ?_
    refine EL.nil ?_
    refine EX.ofD ?_
    refine EXI.seq ?_
    refine ECI.seq ?_
    refine ECI.seq ?_
    refine ECI.region ?_
    refine ELI.val (x_move rfl) rfl ?_
    refine ELI.val (ld_77 rfl (qc.at (j := 0) rfl)) rfl ?_
    refine ELI.call (cl_67 rfl) rfl (sink_any _ _ hq (by omega)) ?_
    rintro e w2 ⟨rfl, hc2⟩
    refine ⟨_, rfl, ?_⟩
    replace qc := qc.below hc2 qc.lt
    replace hq := hq.below hc2 hq.lt
    replace ho := own_below ho hc2 (Nat.le_refl _)
    replace hup := hup.below hc2
    replace hmk := hmk.below hc2
    replace hob := own_below hob hc2 (Nat.le_refl _)
    clear hc2
    refine ELI.val (ix_29 rfl rfl (show nt.ports.length + 1 < nt.ports.length + 2 by omega)) rfl ?_
    refine ELI.val (ld_3 rfl (own_int_cell hob (k := nt.ports.length + 1) (by omega))) rfl ?_
    by_cases hb0 : bb.getD (nt.ports.length + 1) 0 < 0
    ·
      have hft2 := hft L (.stop hE hb0)
      refine ELI.val (x_lss (r := true) rfl rfl (decide_eq_true hb0)) rfl ?_
      refine ELI.nil ?_
      refine EXI.seq ?_
      refine ECI.yes rfl ?_
      refine ECI.exit ?_
      refine EXI.seq_exit ?_
      refine EXI.blk_other rfl ?_
      refine EXI.seq_exit ?_
      refine EXI.blk_here ?_
      refine EXI.seq ?_
      refine ECI.seq ?_
      refine ECI.seq ?_
      have hcap : (openL nt).length ≤ cL := by obtain ⟨_, _, e1_, h_⟩ := (Rd.of_own ho).shape; cases e1_; exact h_
      have hlo : 2 * nt.ways.length < (openL nt).length := by rw [openL_len]; omega
      obtain ⟨oD, hoD⟩ : ∃ z, z = (if cL = 2 * nt.ways.length then 0 else 0 + 2 * nt.ways.length * 4) := ⟨_, rfl⟩
      have hoD2 : oD = 2 * nt.ways.length * 4 := by rw [hoD, if_neg (by omega)]; omega
      refine ECI.regionD (EO.regionQ (by kernel_rfl) (by kernel_rfl) ?_)
      refine EQ.val (fun _ hw => (ld_77 rfl (below_load hw (qc.at (j := 0) rfl)))) rfl ?_
      refine EQ.val (fun _ hw => (x_nilCheck rfl)) rfl ?_
      refine EQ.val (fun _ hw => (fa_114_2 rfl)) rfl ?_
      refine EQ.val (fun _ hw => (ld_112 rfl (below_load hw (hq.at (j := 2) rfl)))) rfl ?_
      refine EQ.val (fun _ hw => (ld_77 rfl (below_load hw (qc.at (j := 0) rfl)))) rfl ?_
      refine EQ.val (fun _ hw => (x_nilCheck rfl)) rfl ?_
      refine EQ.val (fun _ hw => (fa_114_1 rfl)) rfl ?_
      refine EQ.val (fun _ hw => (ld_3 rfl (below_load hw (hq.at (j := 1) rfl)))) rfl ?_
      refine EQ.val (fun _ hw => (x_mul rfl rfl (c := ((2 * nt.ways.length : Nat) : Int)) ((IntWalk.i64_in _ ⟨by omega, by omega⟩).trans (by omega)))) rfl ?_
      refine EQ.val (fun _ hw => (sll_112 rfl rfl (Nat.le_of_lt hlo) hoD.symm)) rfl ?_
      refine EQ.val (fun _ hw => (ln_112 rfl)) rfl ?_
      refine EQ.val (fun _ hw => (x_move rfl)) rfl ?_
      refine EQ.finD (fun w3 hw_ => ?_)
      replace qc := qc.below hw_ qc.lt
      replace hq := hq.below hw_ hq.lt
      replace ho := own_below ho hw_ (Nat.le_refl _)
      replace hup := hup.below hw_
      replace hmk := hmk.below hw_
      clear hw_
      refine EXI.seq ?_
      refine ECI.block ?_
      refine ECI.loopD [2, 9, 79, 80, 81, 82, 83, 84, 85, 86, 87, 88, 89, 90, 91, 92, 93] (fun x : Nat => [(79, .int .i64 (x : Nat))]) (fun _ => dl) (fun x W => x ≤ ((openL nt).length - 2 * nt.ways.length) ∧ ((L.drop (2 * nt.ways.length)).take x).all (fullA nt) = true ∧ Blk W gc 77 #[.pointer (some ⟨g, 0, none⟩)] ∧ Blk W g 114 #[.int .i64 (nt.ports.length : Nat), .int .i64 (nt.ways.length : Nat), .slice (some ⟨ga, 0, none⟩) (openL nt).length cL] ∧ W.ownsRow base 122 4 (.slice (some ⟨ga, 0, none⟩) (openL nt).length cL) (openL nt).length (arcsC L) ∧ UpTo base w W ∧ Marks base dl W) (fun x => ((openL nt).length - 2 * nt.ways.length) - x) 0 ⟨Nat.zero_le _, rfl, qc, hq, ho, hup, hmk⟩ ⟨rfl, trivial⟩ rfl ?_
      clear qc hq ho hup hmk
      rintro x wx ⟨hx, hall, qc, hq, ho, hup, hmk⟩
      by_cases hlt : x < ((openL nt).length - 2 * nt.ways.length)
      ·
        obtain ⟨bq, oq, e_, _, ac⟩ := arcs_cells L (2 * nt.ways.length + x) (by omega) _ _ _ _ _ (Rd.of_own ho)
        injection e_ with e_
        injection e_ with e1_ e2_
        subst e1_
        subst e2_
        obtain ⟨rc, erc⟩ : ∃ z, z = arcAt L (2 * nt.ways.length + x) := ⟨_, rfl⟩
        rw [← erc] at ac
        rw [show 0 + (2 * nt.ways.length + x) * 4 = oD + x * 4 by omega] at ac
        have hget : (L.drop (2 * nt.ways.length)).getD x arc0 = rc := by rw [erc]; simp [arcAt, List.getD]
        have hdl : x < (L.drop (2 * nt.ways.length)).length := by rw [List.length_drop]; omega
        by_cases hto : rc.to = nt.ports.length + 1
        ·
          by_cases hrm : 0 < rc.room
          ·
            refine ECI.seq ?_
            refine ECI.region ?_
            refine ELI.val (x_lss rfl rfl (decide_eq_true (show (((x : Nat) : Int) < ((((openL nt).length - 2 * nt.ways.length) : Nat) : Int)) by omega))) rfl ?_
            refine ELI.nil ?_
            refine EXI.seq ?_
            refine ECI.seq ?_
            refine ECI.yes rfl ?_
            refine ECI.skip ?_
            refine EXI.seq ?_
            refine ECI.seq ?_
            refine ECI.block ?_
            refine ECI.seq ?_
            refine ECI.region ?_
            refine ELI.val (ix_112 rfl rfl hlt) rfl ?_
            refine ELI.val (ld_122 rfl ac.c0 ac.c1 ac.c2 ac.c3) rfl ?_
            refine ELI.newP al_122 rfl ?_
            intro g4 w4 q4 hb4 hg4 hl4
            have n1_4 : gc ≠ g4 := Nat.ne_of_lt (Nat.lt_of_lt_of_le qc.lt hg4)
            have hbs_4 : base ≤ g4 := Nat.le_trans hup.size hg4
            have hga9 : ga ≠ g4 := Nat.ne_of_lt (Nat.lt_of_lt_of_le (ho.lt ga rfl).2 hg4)
            replace qc := qc.below hb4 qc.lt
            replace hq := hq.below hb4 hq.lt
            replace ho := own_below ho hb4 (Nat.le_refl _)
            replace hup := hup.below hb4
            replace hmk := hmk.below hb4
            clear hb4 hg4 hl4
            refine ELI.store rfl rfl q4 sz_122 rfl rfl rfl rfl ?_
            intro w5 hq5 hg5 hk_
            replace qc := qc.grown hg5 (fun h => n1_4 (Option.some.inj h))
            replace hq := blk_type hq q4 rfl hg5
            replace ho := own_ne ho hg5 hga9
            replace hup := hup.grown hg5 (fun k e => by injection e with e; omega)
            replace hmk := hmk.keeps hk_
            replace q4 := hq5
            clear hg5 hq5
            refine ELI.nil ?_
            refine EXI.seq ?_
            refine ECI.seq ?_
            refine ECI.regionD (EO.regionQ (by kernel_rfl) (by kernel_rfl) ?_)
            refine EQ.val (fun _ hw => (fa_122_1 rfl)) rfl ?_
            refine EQ.val (fun _ hw => (ld_3 rfl (below_load hw (q4.at (j := 1) rfl)))) rfl ?_
            refine EQ.val (fun _ hw => (ld_77 rfl (below_load hw (qc.at (j := 0) rfl)))) rfl ?_
            refine EQ.call (fun _ _ _ ha => cl_67 rfl _ ha) rfl (fun W hw => (sink_any _ W (hq.below hw hq.lt) (by omega)).mono fun e w' h => ⟨h.1, hw.trans (h.2.mono hw.size)⟩) ?_
            refine EQ.val (fun _ hw => (x_eql (r := true) rfl rfl (decide_eq_true (by rw [hto])))) rfl ?_
            refine EQ.val (fun _ hw => (x_move rfl)) rfl ?_
            refine EQ.valg rfl rfl (fun _ hw => (fa_122_3 rfl)) rfl ?_
            refine EQ.valg rfl rfl (fun _ hw => (ld_3 rfl (below_load hw (q4.at (j := 3) rfl)))) rfl ?_
            refine EQ.valg rfl rfl (fun _ hw => (x_gtr (r := true) rfl rfl (decide_eq_true (by omega)))) rfl ?_
            refine EQ.val (fun _ hw => (x_pick_t rfl rfl)) rfl ?_
            refine EQ.finD (fun w6 hw_ => ?_)
            replace qc := qc.below hw_ qc.lt
            replace q4 := q4.below hw_ q4.lt
            replace hq := hq.below hw_ hq.lt
            replace ho := own_below ho hw_ (Nat.le_refl _)
            replace hup := hup.below hw_
            replace hmk := hmk.below hw_
            clear hw_
            refine EXI.seq ?_
            refine ECI.yes rfl ?_
            refine ECI.seq ?_
            refine ECI.region ?_
            refine ELI.val (x_assign rfl) rfl ?_
            refine ELI.nil ?_
            refine EXI.seq ?_
            refine ECI.ret ?_
            refine EXI.blk_ret ?_
            refine EXI.seq_ret ?_
            refine EXI.seq_ret ?_
            refine EXI.blk_ret ?_
            refine EXI.seq_ret ?_
            refine EXI.done (n0 := base) hmk hnd (v := .bool false) (fun w' ht => res1 rfl rfl) (fun w' ht => ⟨⟨L, hft2, hst, ?_, ht.blk _ _ _ hq, own_took ho ht⟩, hup.low.trans ht.below, Nat.le_trans hup.size ht.below.size⟩)
            rw [fullB, not_all hdl (by rw [hget]; exact fullA_no hto hrm)]
          ·
            refine ECI.seq ?_
            refine ECI.region ?_
            refine ELI.val (x_lss rfl rfl (decide_eq_true (show (((x : Nat) : Int) < ((((openL nt).length - 2 * nt.ways.length) : Nat) : Int)) by omega))) rfl ?_
            refine ELI.nil ?_
            refine EXI.seq ?_
            refine ECI.seq ?_
            refine ECI.yes rfl ?_
            refine ECI.skip ?_
            refine EXI.seq ?_
            refine ECI.seq ?_
            refine ECI.block ?_
            refine ECI.seq ?_
            refine ECI.region ?_
            refine ELI.val (ix_112 rfl rfl hlt) rfl ?_
            refine ELI.val (ld_122 rfl ac.c0 ac.c1 ac.c2 ac.c3) rfl ?_
            refine ELI.newP al_122 rfl ?_
            intro g7 w7 q7 hb7 hg7 hl7
            have n1_7 : gc ≠ g7 := Nat.ne_of_lt (Nat.lt_of_lt_of_le qc.lt hg7)
            have hbs_7 : base ≤ g7 := Nat.le_trans hup.size hg7
            have hga9 : ga ≠ g7 := Nat.ne_of_lt (Nat.lt_of_lt_of_le (ho.lt ga rfl).2 hg7)
            replace qc := qc.below hb7 qc.lt
            replace hq := hq.below hb7 hq.lt
            replace ho := own_below ho hb7 (Nat.le_refl _)
            replace hup := hup.below hb7
            replace hmk := hmk.below hb7
            clear hb7 hg7 hl7
            refine ELI.store rfl rfl q7 sz_122 rfl rfl rfl rfl ?_
            intro w8 hq8 hg8 hk_
            replace qc := qc.grown hg8 (fun h => n1_7 (Option.some.inj h))
            replace hq := blk_type hq q7 rfl hg8
            replace ho := own_ne ho hg8 hga9
            replace hup := hup.grown hg8 (fun k e => by injection e with e; omega)
            replace hmk := hmk.keeps hk_
            replace q7 := hq8
            clear hg8 hq8
            refine ELI.nil ?_
            refine EXI.seq ?_
            refine ECI.seq ?_
            refine ECI.regionD (EO.regionQ (by kernel_rfl) (by kernel_rfl) ?_)
            refine EQ.val (fun _ hw => (fa_122_1 rfl)) rfl ?_
            refine EQ.val (fun _ hw => (ld_3 rfl (below_load hw (q7.at (j := 1) rfl)))) rfl ?_
            refine EQ.val (fun _ hw => (ld_77 rfl (below_load hw (qc.at (j := 0) rfl)))) rfl ?_
            refine EQ.call (fun _ _ _ ha => cl_67 rfl _ ha) rfl (fun W hw => (sink_any _ W (hq.below hw hq.lt) (by omega)).mono fun e w' h => ⟨h.1, hw.trans (h.2.mono hw.size)⟩) ?_
            refine EQ.val (fun _ hw => (x_eql (r := true) rfl rfl (decide_eq_true (by rw [hto])))) rfl ?_
            refine EQ.val (fun _ hw => (x_move rfl)) rfl ?_
            refine EQ.valg rfl rfl (fun _ hw => (fa_122_3 rfl)) rfl ?_
            refine EQ.valg rfl rfl (fun _ hw => (ld_3 rfl (below_load hw (q7.at (j := 3) rfl)))) rfl ?_
            refine EQ.valg rfl rfl (fun _ hw => (x_gtr (r := false) rfl rfl (decide_eq_false (by omega)))) rfl ?_
            refine EQ.val (fun _ hw => (x_pick_t rfl rfl)) rfl ?_
            refine EQ.finD (fun w9 hw_ => ?_)
            replace qc := qc.below hw_ qc.lt
            replace q7 := q7.below hw_ q7.lt
            replace hq := hq.below hw_ hq.lt
            replace ho := own_below ho hw_ (Nat.le_refl _)
            replace hup := hup.below hw_
            replace hmk := hmk.below hw_
            clear hw_
            refine EXI.seq ?_
            refine ECI.no rfl ?_
            refine ECI.skip ?_
            refine EXI.blk ?_
            refine EXI.seq ?_
            refine ECI.region ?_
            refine ELI.val (x_add rfl rfl (c := ((x + 1 : Nat) : Int)) ((IntWalk.i64_in _ ⟨by first | omega | (simp only; omega), by first | omega | (simp only; omega)⟩).trans (by first | omega | (simp only; omega)))) rfl ?_
            refine ELI.val (x_move rfl) rfl ?_
            refine ELI.nil ?_
            refine EXI.roundD (x + 1) ⟨rfl, trivial⟩ (by repeat first | with_reducible exact Sub.refl _ | refine sub_past rfl ?_ | exact Sub.refl _ | refine sub_del rfl ?_ | refine sub_insL_nil ?_) rfl ⟨hlt, all_take hdl hall (by rw [hget]; exact fullA_room hrm), qc, hq, ho, hup, hmk⟩ (by omega)
        ·
          refine ECI.seq ?_
          refine ECI.region ?_
          refine ELI.val (x_lss rfl rfl (decide_eq_true (show (((x : Nat) : Int) < ((((openL nt).length - 2 * nt.ways.length) : Nat) : Int)) by omega))) rfl ?_
          refine ELI.nil ?_
          refine EXI.seq ?_
          refine ECI.seq ?_
          refine ECI.yes rfl ?_
          refine ECI.skip ?_
          refine EXI.seq ?_
          refine ECI.seq ?_
          refine ECI.block ?_
          refine ECI.seq ?_
          refine ECI.region ?_
          refine ELI.val (ix_112 rfl rfl hlt) rfl ?_
          refine ELI.val (ld_122 rfl ac.c0 ac.c1 ac.c2 ac.c3) rfl ?_
          refine ELI.newP al_122 rfl ?_
          intro g10 w10 q10 hb10 hg10 hl10
          have n1_10 : gc ≠ g10 := Nat.ne_of_lt (Nat.lt_of_lt_of_le qc.lt hg10)
          have hbs_10 : base ≤ g10 := Nat.le_trans hup.size hg10
          have hga9 : ga ≠ g10 := Nat.ne_of_lt (Nat.lt_of_lt_of_le (ho.lt ga rfl).2 hg10)
          replace qc := qc.below hb10 qc.lt
          replace hq := hq.below hb10 hq.lt
          replace ho := own_below ho hb10 (Nat.le_refl _)
          replace hup := hup.below hb10
          replace hmk := hmk.below hb10
          clear hb10 hg10 hl10
          refine ELI.store rfl rfl q10 sz_122 rfl rfl rfl rfl ?_
          intro w11 hq11 hg11 hk_
          replace qc := qc.grown hg11 (fun h => n1_10 (Option.some.inj h))
          replace hq := blk_type hq q10 rfl hg11
          replace ho := own_ne ho hg11 hga9
          replace hup := hup.grown hg11 (fun k e => by injection e with e; omega)
          replace hmk := hmk.keeps hk_
          replace q10 := hq11
          clear hg11 hq11
          refine ELI.nil ?_
          refine EXI.seq ?_
          refine ECI.seq ?_
          refine ECI.regionD (EO.regionQ (by kernel_rfl) (by kernel_rfl) ?_)
          refine EQ.val (fun _ hw => (fa_122_1 rfl)) rfl ?_
          refine EQ.val (fun _ hw => (ld_3 rfl (below_load hw (q10.at (j := 1) rfl)))) rfl ?_
          refine EQ.val (fun _ hw => (ld_77 rfl (below_load hw (qc.at (j := 0) rfl)))) rfl ?_
          refine EQ.call (fun _ _ _ ha => cl_67 rfl _ ha) rfl (fun W hw => (sink_any _ W (hq.below hw hq.lt) (by omega)).mono fun e w' h => ⟨h.1, hw.trans (h.2.mono hw.size)⟩) ?_
          refine EQ.val (fun _ hw => (x_eql (r := false) rfl rfl (decide_eq_false (by omega)))) rfl ?_
          refine EQ.val (fun _ hw => (x_move rfl)) rfl ?_
          refine EQ.skip rfl rfl rfl rfl ?_
          refine EQ.skip rfl rfl rfl rfl ?_
          refine EQ.skip rfl rfl rfl rfl ?_
          refine EQ.val (fun _ hw => (x_pick_f rfl rfl)) rfl ?_
          refine EQ.finD (fun w12 hw_ => ?_)
          replace qc := qc.below hw_ qc.lt
          replace q10 := q10.below hw_ q10.lt
          replace hq := hq.below hw_ hq.lt
          replace ho := own_below ho hw_ (Nat.le_refl _)
          replace hup := hup.below hw_
          replace hmk := hmk.below hw_
          clear hw_
          refine EXI.seq ?_
          refine ECI.no rfl ?_
          refine ECI.skip ?_
          refine EXI.blk ?_
          refine EXI.seq ?_
          refine ECI.region ?_
          refine ELI.val (x_add rfl rfl (c := ((x + 1 : Nat) : Int)) ((IntWalk.i64_in _ ⟨by first | omega | (simp only; omega), by first | omega | (simp only; omega)⟩).trans (by first | omega | (simp only; omega)))) rfl ?_
          refine ELI.val (x_move rfl) rfl ?_
          refine ELI.nil ?_
          refine EXI.roundD (x + 1) ⟨rfl, trivial⟩ (by repeat first | with_reducible exact Sub.refl _ | refine sub_past rfl ?_ | exact Sub.refl _ | refine sub_del rfl ?_ | refine sub_insL_nil ?_) rfl ⟨hlt, all_take hdl hall (by rw [hget]; exact fullA_to hto), qc, hq, ho, hup, hmk⟩ (by omega)
      ·
        have hxe : x = ((openL nt).length - 2 * nt.ways.length) := by omega
        subst hxe
        refine ECI.seq ?_
        refine ECI.region ?_
        refine ELI.val (x_lss rfl rfl (decide_eq_false (show ¬(((((openL nt).length - 2 * nt.ways.length) : Nat) : Int) < ((((openL nt).length - 2 * nt.ways.length) : Nat) : Int)) by omega))) rfl ?_
        refine ELI.nil ?_
        refine EXI.seq ?_
        refine ECI.seq ?_
        refine ECI.no rfl ?_
        refine ECI.exit ?_
        refine EXI.seq_exit ?_
        refine EXI.seq_exit ?_
        refine EXI.blk_here ?_
        refine EXI.seq ?_
        refine ECI.seq ?_
        refine ECI.region ?_
        refine ELI.val (x_assign rfl) rfl ?_
        refine ELI.nil ?_
        refine EXI.seq ?_
        refine ECI.ret ?_
        refine EXI.done (n0 := base) hmk hnd (v := .bool true) (fun w' ht => res1 rfl rfl) (fun w' ht => ⟨⟨L, hft2, hst, ?_, ht.blk _ _ _ hq, own_took ho ht⟩, hup.low.trans ht.below, Nat.le_trans hup.size ht.below.size⟩)
        rw [fullB, ← take_drop_all (l := L) (m := 2 * nt.ways.length) (k := ((openL nt).length - 2 * nt.ways.length)) (by omega), hall]
    ·
      obtain ⟨k, hk, hback, hch, _⟩ := hst.way hv hE (by omega)
      obtain ⟨qs, eqs⟩ : ∃ z, z = chainL L bb k (nt.ports.length + 1) := ⟨_, rfl⟩
      have haug := hst.aug hv hE (by omega) hk (fun a ha => (hch a ha).1)
      have hft2 := fun L2 (h : FillTo nt (augL L (chainL L bb k (nt.ports.length + 1))) L2) => hft L2 (.step hE (by omega) hk h)
      have hql := chain_len hv hst hE hk
      rw [← eqs] at hback hch haug hft2 hql
      obtain ⟨h1, h2, h3⟩ := hulls_spec (fun a ha => (hch a ha).1)
      have hmt : ∀ a ∈ qs, mate a < L.length := fun a ha => by rw [hlen]; exact open_pairs.mate a (by rw [← hlen]; exact (hch a ha).2)
      have hrm := hst.rooms hv
      refine ELI.val (x_lss (r := false) rfl rfl (decide_eq_false hb0)) rfl ?_
      refine ELI.nil ?_
      refine EXI.seq ?_
      refine ECI.no rfl ?_
      refine ECI.skip ?_
      refine EXI.seq ?_
      refine ECI.seq ?_
      refine ECI.region ?_
      refine ELI.newP al_3 rfl ?_
      intro g13 w13 q13 hb13 hg13 hl13
      have n1_13 : gc ≠ g13 := Nat.ne_of_lt (Nat.lt_of_lt_of_le qc.lt hg13)
      have hbs_13 : base ≤ g13 := Nat.le_trans hup.size hg13
      have hgn : gb ≠ g13 := Nat.ne_of_lt (Nat.lt_of_lt_of_le (hob.lt gb rfl).2 hg13)
      replace qc := qc.below hb13 qc.lt
      replace hq := hq.below hb13 hq.lt
      replace ho := own_below ho hb13 (Nat.le_refl _)
      replace hup := hup.below hb13
      replace hmk := hmk.below hb13
      replace hob := own_below hob hb13 (Nat.le_refl _)
      clear hb13 hg13 hl13
      refine ELI.store rfl rfl q13 sz_3 rfl rfl rfl rfl ?_
      intro w14 hq14 hg14 hk_
      replace qc := qc.grown hg14 (fun h => n1_13 (Option.some.inj h))
      replace hq := blk_type hq q13 rfl hg14
      replace ho := own_type ho q13 rfl hg14
      replace hup := hup.grown hg14 (fun k e => by injection e with e; omega)
      replace hmk := hmk.keeps hk_
      replace hob := own_ne hob hg14 hgn
      replace q13 := hq14
      clear hg14 hq14
      refine ELI.nil ?_
      refine EXI.seq ?_
      refine ECI.seq ?_
      refine ECI.seq ?_
      refine ECI.region ?_
      refine ELI.val (ld_77 rfl (qc.at (j := 0) rfl)) rfl ?_
      refine ELI.val (x_move rfl) rfl ?_
      refine ELI.call (cl_69 rfl rfl) rfl (back_fn _) ?_
      rintro e w15 ⟨⟨b15, d15, rfl, qb15, qd15, _, _, _⟩, hc15⟩
      refine ⟨_, rfl, ?_⟩
      replace qc := qc.below hc15 qc.lt
      replace q13 := q13.below hc15 q13.lt
      replace hq := hq.below hc15 hq.lt
      replace ho := own_below ho hc15 (Nat.le_refl _)
      replace hup := hup.below hc15
      replace hmk := hmk.below hc15
      replace hob := own_below hob hc15 (Nat.le_refl _)
      clear hc15
      refine ELI.nil ?_
      refine EXI.seq ?_
      refine ECI.block ?_
      have hszW := hup.size
      refine rangeFN (Nd := BackAt L bb nt.ports.length b15 d15 g gb (nt.ports.length + 2) cb) (σ1 := fun x => _) (ok := okI) (n0 := base) (S := [3]) rfl (fun args w => by kernel_rfl) rfl (back_iter L bb nt.ports.length b15 d15 g gb (nt.ports.length + 2) cb base [3] qs w15 hp60 hup.size hback) hup.size (fun pre W => FI nt L bb base dl w w15 gc g b15 d15 gb cb g13 ga cL (hullsL L (decL pre)) L W) (fun _ _ => False) (FI.from hup.size (Nat.le_refl _)) (fun _ _ _ _ h _ _ => h) ⟨qb15, qd15, hob, qc, q13, hq, ho, hup, Marks.refl hmk, rfl, fun _ => rfl⟩ (fun s A h => h.back hlen hlb) (fun s A B row h _ _ => h) (fun l x W K hK => assign1 rfl hK) ?_ ?_ ?_
      · rintro l pre ⟨xl, xv⟩ W hpf hokx ⟨qb1, qb2, hob, qc, qh, hq, ho, hup, hmk, hl2, hfr2⟩
        obtain ⟨an, ex, ham, hdec⟩ := dec_enc hpf
        have ex : xl = _ := ex
        subst ex
        have ev_ : xv = .int .i64 ((an : Nat) : Int) := hokx
        subst ev_
        have haL := (hch an ham).2
        have haN : an < (openL nt).length := by rw [← hlen]; exact haL
        have hszW := hup.size
        have hbh := hbs_13
        have hgW := (ho.lt ga rfl).1
        have hbW := Below.refl W.heap.size W
        obtain ⟨bq, oq, e_, _, ac⟩ := arcs_cells L an haL _ _ _ _ _ (Rd.of_own ho)
        injection e_ with e_
        injection e_ with e1_ e2_
        subst e1_
        subst e2_
        refine ECI.block ?_
        have lt_1 := qc.lt
        have lt_13 := qh.lt
        refine ECI.regionO (lets_blk lets_body) (by kernel_rfl) (EO.regionP [[], [], [1], [1, 2], [1, 2, 3], [], [1, 2, 3, 4, 5], [1, 2, 3, 4, 5, 6], [1, 2, 3, 4, 5, 6, 7], [0, 1, 2, 3, 4, 5, 6, 7, 8], [0, 1, 2, 3, 4, 5, 6, 7, 8, 9]] 10 [] (phi (fun i_ r => match i_ with | 0 => r 0 = .int .i64 (hullsL L (decL pre)) | 1 => r 1 = .pointer (some ⟨g, 0, none⟩) | 2 => r 2 = .pointer (some ⟨g, 0, none⟩) | 3 => r 3 = .pointer (some ⟨g, 2, none⟩) | 4 => r 4 = .slice (some ⟨ga, 0, none⟩) (openL nt).length cL | 5 => r 5 = .int .i64 (an : Nat) | 6 => r 6 = .pointer (some ⟨ga, 0 + an * 4, none⟩) | 7 => r 7 = .pointer (some ⟨ga, 0 + an * 4 + 3, none⟩) | 8 => r 8 = .int .i64 (arcAt L an).room | 9 => r 9 = .int .i64 (min (hullsL L (decL pre)) (arcAt L an).room) | _ => True) []) (by kernel_rfl) rfl rfl (phi_nil) (fun i_ hi_ => ?_) ?_)
        · match i_, hi_ with
          | 0, _ =>
            intro val w1 a hb ha hd
            have ha := ha.sub (Sub.ins (d := 5) (Sub.nil _) rfl)
            exact hs_val ha rfl rfl (ld_3 rfl ((qh.below hb qh.lt).at (j := 0) rfl)) rfl rfl
          | 1, _ =>
            intro val w1 a hb ha hd
            have ha := ha.sub (Sub.ins (d := 1) (Sub.nil _) rfl)
            exact hs_val ha rfl rfl (ld_77 rfl ((qc.below hb qc.lt).at (j := 0) rfl)) rfl rfl
          | 2, _ =>
            intro val w1 a hb ha hd
            have e1 : val 1 = .pointer (some ⟨g, 0, none⟩) := hd 1 (memB_mem.1 rfl)
            have ha := ha.sub (Sub.ins (d := 30) (Sub.nil _) (dep_get rfl e1))
            exact hs_val ha rfl rfl (x_nilCheck rfl) rfl rfl
          | 3, _ =>
            intro val w1 a hb ha hd
            have e2 : val 2 = .pointer (some ⟨g, 0, none⟩) := hd 2 (memB_mem.1 rfl)
            have ha := ha.sub (Sub.ins (d := 31) (Sub.nil _) (dep_get rfl e2))
            exact hs_val ha rfl rfl (fa_114_2 rfl) rfl rfl
          | 4, _ =>
            intro val w1 a hb ha hd
            have e3 : val 3 = .pointer (some ⟨g, 2, none⟩) := hd 3 (memB_mem.1 rfl)
            have ha := ha.sub (Sub.ins (d := 32) (Sub.nil _) (dep_get rfl e3))
            exact hs_val ha rfl rfl (ld_112 rfl (below_load hb (hq.at (j := 2) rfl))) rfl rfl
          | 5, _ =>
            intro val w1 a hb ha hd
            have ha := ha.sub (Sub.ins (d := 6) (Sub.nil _) rfl)
            exact hs_val ha rfl rfl (x_move rfl) rfl rfl
          | 6, _ =>
            intro val w1 a hb ha hd
            have e4 : val 4 = .slice (some ⟨ga, 0, none⟩) (openL nt).length cL := hd 4 (memB_mem.1 rfl)
            have e5 : val 5 = .int .i64 (an : Nat) := hd 5 (memB_mem.1 rfl)
            have ha := ha.sub (Sub.ins (d := 34) (Sub.ins (d := 33) (Sub.nil _) (dep_get rfl e4)) (dep_get rfl e5))
            exact hs_val ha rfl rfl (ix_112 rfl rfl haN) rfl rfl
          | 7, _ =>
            intro val w1 a hb ha hd
            have e6 : val 6 = .pointer (some ⟨ga, 0 + an * 4, none⟩) := hd 6 (memB_mem.1 rfl)
            have ha := ha.sub (Sub.ins (d := 35) (Sub.nil _) (dep_get rfl e6))
            exact hs_val ha rfl rfl (fa_122_3 rfl) rfl rfl
          | 8, _ =>
            intro val w1 a hb ha hd
            have e7 : val 7 = .pointer (some ⟨ga, 0 + an * 4 + 3, none⟩) := hd 7 (memB_mem.1 rfl)
            have ha := ha.sub (Sub.ins (d := 36) (Sub.nil _) (dep_get rfl e7))
            exact hs_val ha rfl rfl (ld_3 rfl (below_load hb ac.c3)) rfl rfl
          | 9, _ =>
            intro val w1 a hb ha hd
            have e0 : val 0 = .int .i64 (hullsL L (decL pre)) := hd 0 (memB_mem.1 rfl)
            have e8 : val 8 = .int .i64 (arcAt L an).room := hd 8 (memB_mem.1 rfl)
            have ha := ha.sub (Sub.ins (d := 37) (Sub.ins (d := 29) (Sub.nil _) (dep_get rfl e0)) (dep_get rfl e8))
            exact hs_val ha rfl rfl (mm_min rfl rfl rfl) rfl rfl
          | k + 10, h => exact absurd h (by omega)
        · intro val wR6 hb halc hd
          have e0 : val 0 = .int .i64 (hullsL L (decL pre)) := hd 0 (by omega)
          have e1 : val 1 = .pointer (some ⟨g, 0, none⟩) := hd 1 (by omega)
          have e2 : val 2 = .pointer (some ⟨g, 0, none⟩) := hd 2 (by omega)
          have e3 : val 3 = .pointer (some ⟨g, 2, none⟩) := hd 3 (by omega)
          have e4 : val 4 = .slice (some ⟨ga, 0, none⟩) (openL nt).length cL := hd 4 (by omega)
          have e5 : val 5 = .int .i64 (an : Nat) := hd 5 (by omega)
          have e6 : val 6 = .pointer (some ⟨ga, 0 + an * 4, none⟩) := hd 6 (by omega)
          have e7 : val 7 = .pointer (some ⟨ga, 0 + an * 4 + 3, none⟩) := hd 7 (by omega)
          have e8 : val 8 = .int .i64 (arcAt L an).room := hd 8 (by omega)
          have e9 : val 9 = .int .i64 (min (hullsL L (decL pre)) (arcAt L an).room) := hd 9 (by omega)
          refine EL.ends (cs := [.int .i64 (hullsL L (decL pre)), .pointer (some ⟨g, 0, none⟩), .pointer (some ⟨g, 0, none⟩), .pointer (some ⟨g, 2, none⟩), .slice (some ⟨ga, 0, none⟩) (openL nt).length cL, .int .i64 (an : Nat), .pointer (some ⟨ga, 0 + an * 4, none⟩), .pointer (some ⟨ga, 0 + an * 4 + 3, none⟩), .int .i64 (arcAt L an).room, .int .i64 (min (hullsL L (decL pre)) (arcAt L an).room)]) ⟨e0, e1, e2, e3, e4, e5, e6, e7, e8, e9, trivial⟩ rfl ?_
          replace qc := qc.below hb qc.lt
          replace qh := qh.below hb qh.lt
          replace qb1 := qb1.below hb qb1.lt
          replace qb2 := qb2.below hb qb2.lt
          replace hob := own_below hob hb (Nat.le_refl _)
          replace hq := hq.below hb hq.lt
          replace ho := own_below ho hb (Nat.le_refl _)
          replace hup := hup.below hb
          replace hmk := hmk.below hb
          replace hbW := Below.on hbW hb hbW.size
          clear hb
          refine EL.store rfl rfl qh sz_3 rfl rfl rfl rfl ?_
          intro w2 qh2 hg2
          have hk2 := keeps_blk qh hg2
          refine EL.nil ?_
          refine EX.toI ?_
          refine EXI.blk ?_
          exact fun a0 ha0 => ⟨(keeps_below hbW).trans hk2, (Kp.of_below hbW hszW).trans (Kp.grown qh rfl hbh hg2), .inl ⟨rfl, blk_type qb1 qh rfl hg2, blk_type qb2 qh rfl hg2, own_ne hob hg2 hgn, blk_type qc qh rfl hg2, (by rw [hdec, hulls_snoc]; exact qh2), blk_type hq qh rfl hg2, own_type ho qh rfl hg2, hup.grown hg2 (fun k e => by injection e with e; omega), hmk.keeps hk2, hl2, hfr2⟩⟩
      · rintro D xs W hD hall ⟨qb1, qb2, hob, qc, qh, hq, ho, hup, hmk, hl2, hfr2⟩ hkp hdef
        have hxs := dec_all hall
        have hmk2 := hmk.marks.cons (Nat.le_trans hszW hD) hdef
        have hnd2 := List.nodup_cons.2 ⟨fun h => hmk.fresh hD h, hnd⟩
        rw [hxs] at qh
        clear qb1 qb2 hkp hdef hl2 hfr2 hszW
        obtain ⟨dl2, edl2⟩ : ∃ z : List Deferred, z = { target := .collected D, args := #[] } :: dl := ⟨_, rfl⟩
        have hmk := hmk2
        rw [← edl2] at hmk hnd2 ⊢
        clear hmk2
        refine EXI.blk ?_
        refine EXI.seq ?_
        refine ECI.seq ?_
        refine ECI.region ?_
        refine ELI.val (ld_77 rfl (qc.at (j := 0) rfl)) rfl ?_
        refine ELI.val (x_move rfl) rfl ?_
        refine ELI.call (cl_69 rfl rfl) rfl (back_fn _) ?_
        rintro e w16 ⟨⟨b16, d16, rfl, qb16, qd16, _, _, _⟩, hc16⟩
        refine ⟨_, rfl, ?_⟩
        replace qc := qc.below hc16 qc.lt
        replace qh := qh.below hc16 qh.lt
        replace hq := hq.below hc16 hq.lt
        replace ho := own_below ho hc16 (Nat.le_refl _)
        replace hup := hup.below hc16
        replace hmk := hmk.below hc16
        replace hob := own_below hob hc16 (Nat.le_refl _)
        clear hc16
        refine ELI.nil ?_
        refine EXI.seq ?_
        refine ECI.block ?_
        have hszW := hup.size
        refine rangeFN (Nd := BackAt L bb nt.ports.length b16 d16 g gb (nt.ports.length + 2) cb) (σ1 := fun x => _) (ok := okI) (n0 := base) (S := [122]) rfl (fun args w => by kernel_rfl) rfl (back_iter L bb nt.ports.length b16 d16 g gb (nt.ports.length + 2) cb base [122] qs w16 hp60 hup.size hback) hup.size (fun pre W => FI nt L bb base dl2 w w16 gc g b16 d16 gb cb g13 ga cL (hullsL L qs) (pushAll (hullsL L qs) L (decL pre)) W) (fun _ _ => False) (FI.from hup.size (Nat.le_refl _)) (fun _ _ _ _ h _ _ => h) ⟨qb16, qd16, hob, qc, qh, hq, ho, hup, Marks.refl hmk, rfl, fun _ => rfl⟩ (fun s A h => h.back hlen hlb) (fun s A B row h _ _ => h) (fun l x W K hK => assign1 rfl hK) ?_ ?_ ?_
        · rintro l pre ⟨xl, xv⟩ W hpf hokx ⟨qb1, qb2, hob, qc, qh, hq, ho, hup, hmk, hl2, hfr2⟩
          obtain ⟨an, ex, ham, hdec⟩ := dec_enc hpf
          have ex : xl = _ := ex
          subst ex
          have ev_ : xv = .int .i64 ((an : Nat) : Int) := hokx
          subst ev_
          have haL := (hch an ham).2
          have haN : an < (openL nt).length := by rw [← hlen]; exact haL
          have hszW := hup.size
          have hbh := hbs_13
          have hgW := (ho.lt ga rfl).1
          have hbW := Below.refl W.heap.size W
          obtain ⟨L2, eL2⟩ : ∃ z, z = pushAll (hullsL L qs) L (decL pre) := ⟨_, rfl⟩
          have hin := dec_in hpf
          have hbd2 : ∀ i, -1000000 ≤ (arcAt L2 i).room ∧ (arcAt L2 i).room ≤ 1000000 := by rw [eL2]; exact push_bd h1 h2 hrm (fun a ha => ⟨(hch a (hin.1 a ha)).2, hmt a (hin.1 a ha)⟩) (by omega)
          rw [← eL2] at ho hl2 hfr2
          have haL2 : an < L2.length := by rw [hl2]; exact haL
          have hmL2 : mate an < L2.length := by rw [hl2]; exact hmt an ham
          have hmN : mate an < (openL nt).length := by rw [← hlen]; exact hmt an ham
          have hN840 : (openL nt).length ≤ 1024 := by rw [openL_len]; omega
          refine ECI.block ?_
          refine ECI.seq ?_
          obtain ⟨bq9, oq9, e_, _, ac9⟩ := arcs_cells L2 an haL2 _ _ _ _ _ (Rd.of_own ho)
          injection e_ with e_
          injection e_ with e1_ e2_
          subst e1_
          subst e2_
          have lt_1 := qc.lt
          have lt_13 := qh.lt
          refine ECI.regionO (lets_then (lets_blk lets_body)) (by kernel_rfl) (EO.regionP [[], [0], [0, 1], [0, 1, 2], [], [0, 1, 2, 3, 4], [0, 1, 2, 3, 4, 5], [0, 1, 2, 3, 4, 5, 6], [], [0, 1, 2, 3, 4, 5, 6, 7, 8], [0, 1, 2, 3, 4, 5, 6, 7, 8, 9], [0, 1, 2, 3, 4, 5, 6, 7, 8, 9, 10], [0, 1, 2, 3, 4, 5, 6, 7, 8, 9, 10, 11]] 12 [] (phi (fun i_ r => match i_ with | 0 => r 0 = .pointer (some ⟨g, 0, none⟩) | 1 => r 1 = .pointer (some ⟨g, 0, none⟩) | 2 => r 2 = .pointer (some ⟨g, 2, none⟩) | 3 => r 3 = .slice (some ⟨ga, 0, none⟩) (openL nt).length cL | 4 => r 4 = .int .i64 (an : Nat) | 5 => r 5 = .pointer (some ⟨ga, 0 + an * 4, none⟩) | 6 => r 6 = .pointer (some ⟨ga, 0 + an * 4 + 3, none⟩) | 7 => r 7 = .int .i64 (arcAt L2 an).room | 8 => r 8 = .int .i64 (hullsL L qs) | 9 => r 9 = .int .i64 ((arcAt L2 an).room - hullsL L qs) | 10 => r 10 = .pointer (some ⟨ga, 0 + an * 4, none⟩) | 11 => r 11 = .pointer (some ⟨ga, 0 + an * 4 + 3, none⟩) | _ => True) []) (by kernel_rfl) rfl rfl (phi_nil) (fun i_ hi_ => ?_) ?_)
          · match i_, hi_ with
            | 0, _ =>
              intro val w1 a hb ha hd
              have ha := ha.sub (Sub.ins (d := 1) (Sub.nil _) rfl)
              exact hs_val ha rfl rfl (ld_77 rfl ((qc.below hb qc.lt).at (j := 0) rfl)) rfl rfl
            | 1, _ =>
              intro val w1 a hb ha hd
              have e0 : val 0 = .pointer (some ⟨g, 0, none⟩) := hd 0 (memB_mem.1 rfl)
              have ha := ha.sub (Sub.ins (d := 43) (Sub.nil _) (dep_get rfl e0))
              exact hs_val ha rfl rfl (x_nilCheck rfl) rfl rfl
            | 2, _ =>
              intro val w1 a hb ha hd
              have e1 : val 1 = .pointer (some ⟨g, 0, none⟩) := hd 1 (memB_mem.1 rfl)
              have ha := ha.sub (Sub.ins (d := 44) (Sub.nil _) (dep_get rfl e1))
              exact hs_val ha rfl rfl (fa_114_2 rfl) rfl rfl
            | 3, _ =>
              intro val w1 a hb ha hd
              have e2 : val 2 = .pointer (some ⟨g, 2, none⟩) := hd 2 (memB_mem.1 rfl)
              have ha := ha.sub (Sub.ins (d := 45) (Sub.nil _) (dep_get rfl e2))
              exact hs_val ha rfl rfl (ld_112 rfl (below_load hb (hq.at (j := 2) rfl))) rfl rfl
            | 4, _ =>
              intro val w1 a hb ha hd
              have ha := ha.sub (Sub.ins (d := 7) (Sub.nil _) rfl)
              exact hs_val ha rfl rfl (x_move rfl) rfl rfl
            | 5, _ =>
              intro val w1 a hb ha hd
              have e3 : val 3 = .slice (some ⟨ga, 0, none⟩) (openL nt).length cL := hd 3 (memB_mem.1 rfl)
              have e4 : val 4 = .int .i64 (an : Nat) := hd 4 (memB_mem.1 rfl)
              have ha := ha.sub (Sub.ins (d := 47) (Sub.ins (d := 46) (Sub.nil _) (dep_get rfl e3)) (dep_get rfl e4))
              exact hs_val ha rfl rfl (ix_112 rfl rfl haN) rfl rfl
            | 6, _ =>
              intro val w1 a hb ha hd
              have e5 : val 5 = .pointer (some ⟨ga, 0 + an * 4, none⟩) := hd 5 (memB_mem.1 rfl)
              have ha := ha.sub (Sub.ins (d := 48) (Sub.nil _) (dep_get rfl e5))
              exact hs_val ha rfl rfl (fa_122_3 rfl) rfl rfl
            | 7, _ =>
              intro val w1 a hb ha hd
              have e6 : val 6 = .pointer (some ⟨ga, 0 + an * 4 + 3, none⟩) := hd 6 (memB_mem.1 rfl)
              have ha := ha.sub (Sub.ins (d := 49) (Sub.nil _) (dep_get rfl e6))
              exact hs_val ha rfl rfl (ld_3 rfl (below_load hb ac9.c3)) rfl rfl
            | 8, _ =>
              intro val w1 a hb ha hd
              have ha := ha.sub (Sub.ins (d := 5) (Sub.nil _) rfl)
              exact hs_val ha rfl rfl (ld_3 rfl ((qh.below hb qh.lt).at (j := 0) rfl)) rfl rfl
            | 9, _ =>
              intro val w1 a hb ha hd
              have e7 : val 7 = .int .i64 (arcAt L2 an).room := hd 7 (memB_mem.1 rfl)
              have e8 : val 8 = .int .i64 (hullsL L qs) := hd 8 (memB_mem.1 rfl)
              have ha := ha.sub (Sub.ins (d := 51) (Sub.ins (d := 50) (Sub.nil _) (dep_get rfl e7)) (dep_get rfl e8))
              exact hs_val ha rfl rfl (x_sub rfl rfl (IntWalk.i64_in _ ⟨by have := hbd2 an; omega, by have := hbd2 an; omega⟩)) rfl rfl
            | 10, _ =>
              intro val w1 a hb ha hd
              have e3 : val 3 = .slice (some ⟨ga, 0, none⟩) (openL nt).length cL := hd 3 (memB_mem.1 rfl)
              have e4 : val 4 = .int .i64 (an : Nat) := hd 4 (memB_mem.1 rfl)
              have ha := ha.sub (Sub.ins (d := 47) (Sub.ins (d := 46) (Sub.nil _) (dep_get rfl e3)) (dep_get rfl e4))
              exact hs_val ha rfl rfl (ix_112 rfl rfl haN) rfl rfl
            | 11, _ =>
              intro val w1 a hb ha hd
              have e10 : val 10 = .pointer (some ⟨ga, 0 + an * 4, none⟩) := hd 10 (memB_mem.1 rfl)
              have ha := ha.sub (Sub.ins (d := 53) (Sub.nil _) (dep_get rfl e10))
              exact hs_val ha rfl rfl (fa_122_3 rfl) rfl rfl
            | k + 12, h => exact absurd h (by omega)
          · intro val wR9 hb halc hd
            have e0 : val 0 = .pointer (some ⟨g, 0, none⟩) := hd 0 (by omega)
            have e1 : val 1 = .pointer (some ⟨g, 0, none⟩) := hd 1 (by omega)
            have e2 : val 2 = .pointer (some ⟨g, 2, none⟩) := hd 2 (by omega)
            have e3 : val 3 = .slice (some ⟨ga, 0, none⟩) (openL nt).length cL := hd 3 (by omega)
            have e4 : val 4 = .int .i64 (an : Nat) := hd 4 (by omega)
            have e5 : val 5 = .pointer (some ⟨ga, 0 + an * 4, none⟩) := hd 5 (by omega)
            have e6 : val 6 = .pointer (some ⟨ga, 0 + an * 4 + 3, none⟩) := hd 6 (by omega)
            have e7 : val 7 = .int .i64 (arcAt L2 an).room := hd 7 (by omega)
            have e8 : val 8 = .int .i64 (hullsL L qs) := hd 8 (by omega)
            have e9 : val 9 = .int .i64 ((arcAt L2 an).room - hullsL L qs) := hd 9 (by omega)
            have e10 : val 10 = .pointer (some ⟨ga, 0 + an * 4, none⟩) := hd 10 (by omega)
            have e11 : val 11 = .pointer (some ⟨ga, 0 + an * 4 + 3, none⟩) := hd 11 (by omega)
            refine EL.ends (cs := [.pointer (some ⟨g, 0, none⟩), .pointer (some ⟨g, 0, none⟩), .pointer (some ⟨g, 2, none⟩), .slice (some ⟨ga, 0, none⟩) (openL nt).length cL, .int .i64 (an : Nat), .pointer (some ⟨ga, 0 + an * 4, none⟩), .pointer (some ⟨ga, 0 + an * 4 + 3, none⟩), .int .i64 (arcAt L2 an).room, .int .i64 (hullsL L qs), .int .i64 ((arcAt L2 an).room - hullsL L qs), .pointer (some ⟨ga, 0 + an * 4, none⟩), .pointer (some ⟨ga, 0 + an * 4 + 3, none⟩)]) ⟨e0, e1, e2, e3, e4, e5, e6, e7, e8, e9, e10, e11, trivial⟩ rfl ?_
            replace qc := qc.below hb qc.lt
            replace qh := qh.below hb qh.lt
            replace qb1 := qb1.below hb qb1.lt
            replace qb2 := qb2.below hb qb2.lt
            replace hob := own_below hob hb (Nat.le_refl _)
            replace hq := hq.below hb hq.lt
            replace ho := own_below ho hb (Nat.le_refl _)
            replace hup := hup.below hb
            replace hmk := hmk.below hb
            replace hbW := Below.on hbW hb hbW.size
            clear hb
            refine EL.storeRow (l' := [.int .i64 ((arcAt L2 an).room - hullsL L qs)]) rfl rfl ho sz_3 rfl rfl (by rw [arcsC_len]; omega) rfl ?_
            intro w2 ho2 hg2
            rw [spl_arcs haL2] at ho2
            have hk2 := keeps_own ho hg2
            have hkA := (keeps_below hbW).trans hk2
            have hpA := (Kp.of_below (S := [122]) hbW hszW).trans (Kp.own ho rfl (Nat.le_refl _) hup.size hg2)
            replace qb1 := blk_grown qb1 ho rfl hg2
            replace qb2 := blk_grown qb2 ho rfl hg2
            replace qc := blk_grown qc ho rfl hg2
            replace qh := blk_grown qh ho rfl hg2
            replace hq := blk_grown hq ho rfl hg2
            replace hob := own_grown hob ho rfl hg2
            replace hup := hup.grown hg2 (fun k e => by injection e with e; omega)
            replace hmk := hmk.keeps hk2
            clear ho hg2
            refine EL.nil ?_
            refine EX.toI ?_
            have ho := ho2
            clear ho2
            refine EXI.seq ?_
            have hszB := hup.size
            have hb2 := Below.refl w2.heap.size w2
            have hbd3 : -1001000 ≤ (arcAt (setRoom L2 an ((arcAt L2 an).room - hullsL L qs)) (mate an)).room ∧ (arcAt (setRoom L2 an ((arcAt L2 an).room - hullsL L qs)) (mate an)).room ≤ 1001000 := by rw [setRoom_at haL2, if_neg (mate_ne an)]; have := hbd2 (mate an); omega
            obtain ⟨bq10, oq10, e_, _, ac10⟩ := arcs_cells (setRoom L2 an ((arcAt L2 an).room - hullsL L qs)) (mate an) (by rw [setRoom_len]; exact hmL2) _ _ _ _ _ (Rd.of_own ho)
            injection e_ with e_
            injection e_ with e1_ e2_
            subst e1_
            subst e2_
            have lt_1 := qc.lt
            have lt_13 := qh.lt
            refine ECI.regionO (lets_blk lets_body) (by kernel_rfl) (EO.regionP [[], [0], [0, 1], [0, 1, 2], [], [4], [0, 1, 2, 3, 4, 5], [0, 1, 2, 3, 4, 5, 6], [0, 1, 2, 3, 4, 5, 6, 7], [], [0, 1, 2, 3, 4, 5, 6, 7, 8, 9], [0, 1, 2, 3, 4, 5, 6, 7, 8, 9, 10], [0, 1, 2, 3, 4, 5, 6, 7, 8, 9, 10, 11], [0, 1, 2, 3, 4, 5, 6, 7, 8, 9, 10, 11, 12]] 13 [] (phi (fun i_ r => match i_ with | 0 => r 0 = .pointer (some ⟨g, 0, none⟩) | 1 => r 1 = .pointer (some ⟨g, 0, none⟩) | 2 => r 2 = .pointer (some ⟨g, 2, none⟩) | 3 => r 3 = .slice (some ⟨ga, 0, none⟩) (openL nt).length cL | 4 => r 4 = .int .i64 (an : Nat) | 5 => r 5 = .int .i64 (mate an : Nat) | 6 => r 6 = .pointer (some ⟨ga, 0 + mate an * 4, none⟩) | 7 => r 7 = .pointer (some ⟨ga, 0 + mate an * 4 + 3, none⟩) | 8 => r 8 = .int .i64 (arcAt (setRoom L2 an ((arcAt L2 an).room - hullsL L qs)) (mate an)).room | 9 => r 9 = .int .i64 (hullsL L qs) | 10 => r 10 = .int .i64 ((arcAt (setRoom L2 an ((arcAt L2 an).room - hullsL L qs)) (mate an)).room + hullsL L qs) | 11 => r 11 = .pointer (some ⟨ga, 0 + mate an * 4, none⟩) | 12 => r 12 = .pointer (some ⟨ga, 0 + mate an * 4 + 3, none⟩) | _ => True) []) (by kernel_rfl) rfl rfl (phi_nil) (fun i_ hi_ => ?_) ?_)
            · match i_, hi_ with
              | 0, _ =>
                intro val w1 a hb ha hd
                have ha := ha.sub (Sub.ins (d := 1) (Sub.nil _) rfl)
                exact hs_val ha rfl rfl (ld_77 rfl ((qc.below hb qc.lt).at (j := 0) rfl)) rfl rfl
              | 1, _ =>
                intro val w1 a hb ha hd
                have e0 : val 0 = .pointer (some ⟨g, 0, none⟩) := hd 0 (memB_mem.1 rfl)
                have ha := ha.sub (Sub.ins (d := 55) (Sub.nil _) (dep_get rfl e0))
                exact hs_val ha rfl rfl (x_nilCheck rfl) rfl rfl
              | 2, _ =>
                intro val w1 a hb ha hd
                have e1 : val 1 = .pointer (some ⟨g, 0, none⟩) := hd 1 (memB_mem.1 rfl)
                have ha := ha.sub (Sub.ins (d := 56) (Sub.nil _) (dep_get rfl e1))
                exact hs_val ha rfl rfl (fa_114_2 rfl) rfl rfl
              | 3, _ =>
                intro val w1 a hb ha hd
                have e2 : val 2 = .pointer (some ⟨g, 2, none⟩) := hd 2 (memB_mem.1 rfl)
                have ha := ha.sub (Sub.ins (d := 57) (Sub.nil _) (dep_get rfl e2))
                exact hs_val ha rfl rfl (ld_112 rfl (below_load hb (hq.at (j := 2) rfl))) rfl rfl
              | 4, _ =>
                intro val w1 a hb ha hd
                have ha := ha.sub (Sub.ins (d := 7) (Sub.nil _) rfl)
                exact hs_val ha rfl rfl (x_move rfl) rfl rfl
              | 5, _ =>
                intro val w1 a hb ha hd
                have e4 : val 4 = .int .i64 (an : Nat) := hd 4 (memB_mem.1 rfl)
                have ha := ha.sub (Sub.ins (d := 59) (Sub.nil _) (dep_get rfl e4))
                exact hs_val ha rfl rfl (x_xor1 rfl rfl (by omega)) rfl rfl
              | 6, _ =>
                intro val w1 a hb ha hd
                have e3 : val 3 = .slice (some ⟨ga, 0, none⟩) (openL nt).length cL := hd 3 (memB_mem.1 rfl)
                have e5 : val 5 = .int .i64 (mate an : Nat) := hd 5 (memB_mem.1 rfl)
                have ha := ha.sub (Sub.ins (d := 60) (Sub.ins (d := 58) (Sub.nil _) (dep_get rfl e3)) (dep_get rfl e5))
                exact hs_val ha rfl rfl (ix_112 rfl rfl hmN) rfl rfl
              | 7, _ =>
                intro val w1 a hb ha hd
                have e6 : val 6 = .pointer (some ⟨ga, 0 + mate an * 4, none⟩) := hd 6 (memB_mem.1 rfl)
                have ha := ha.sub (Sub.ins (d := 61) (Sub.nil _) (dep_get rfl e6))
                exact hs_val ha rfl rfl (fa_122_3 rfl) rfl rfl
              | 8, _ =>
                intro val w1 a hb ha hd
                have e7 : val 7 = .pointer (some ⟨ga, 0 + mate an * 4 + 3, none⟩) := hd 7 (memB_mem.1 rfl)
                have ha := ha.sub (Sub.ins (d := 62) (Sub.nil _) (dep_get rfl e7))
                exact hs_val ha rfl rfl (ld_3 rfl (below_load hb ac10.c3)) rfl rfl
              | 9, _ =>
                intro val w1 a hb ha hd
                have ha := ha.sub (Sub.ins (d := 5) (Sub.nil _) rfl)
                exact hs_val ha rfl rfl (ld_3 rfl ((qh.below hb qh.lt).at (j := 0) rfl)) rfl rfl
              | 10, _ =>
                intro val w1 a hb ha hd
                have e8 : val 8 = .int .i64 (arcAt (setRoom L2 an ((arcAt L2 an).room - hullsL L qs)) (mate an)).room := hd 8 (memB_mem.1 rfl)
                have e9 : val 9 = .int .i64 (hullsL L qs) := hd 9 (memB_mem.1 rfl)
                have ha := ha.sub (Sub.ins (d := 64) (Sub.ins (d := 63) (Sub.nil _) (dep_get rfl e8)) (dep_get rfl e9))
                exact hs_val ha rfl rfl (x_add rfl rfl (IntWalk.i64_in _ ⟨by omega, by omega⟩)) rfl rfl
              | 11, _ =>
                intro val w1 a hb ha hd
                have e3 : val 3 = .slice (some ⟨ga, 0, none⟩) (openL nt).length cL := hd 3 (memB_mem.1 rfl)
                have e5 : val 5 = .int .i64 (mate an : Nat) := hd 5 (memB_mem.1 rfl)
                have ha := ha.sub (Sub.ins (d := 60) (Sub.ins (d := 58) (Sub.nil _) (dep_get rfl e3)) (dep_get rfl e5))
                exact hs_val ha rfl rfl (ix_112 rfl rfl hmN) rfl rfl
              | 12, _ =>
                intro val w1 a hb ha hd
                have e11 : val 11 = .pointer (some ⟨ga, 0 + mate an * 4, none⟩) := hd 11 (memB_mem.1 rfl)
                have ha := ha.sub (Sub.ins (d := 66) (Sub.nil _) (dep_get rfl e11))
                exact hs_val ha rfl rfl (fa_122_3 rfl) rfl rfl
              | k + 13, h => exact absurd h (by omega)
            · intro val wR10 hb halc hd
              have e0 : val 0 = .pointer (some ⟨g, 0, none⟩) := hd 0 (by omega)
              have e1 : val 1 = .pointer (some ⟨g, 0, none⟩) := hd 1 (by omega)
              have e2 : val 2 = .pointer (some ⟨g, 2, none⟩) := hd 2 (by omega)
              have e3 : val 3 = .slice (some ⟨ga, 0, none⟩) (openL nt).length cL := hd 3 (by omega)
              have e4 : val 4 = .int .i64 (an : Nat) := hd 4 (by omega)
              have e5 : val 5 = .int .i64 (mate an : Nat) := hd 5 (by omega)
              have e6 : val 6 = .pointer (some ⟨ga, 0 + mate an * 4, none⟩) := hd 6 (by omega)
              have e7 : val 7 = .pointer (some ⟨ga, 0 + mate an * 4 + 3, none⟩) := hd 7 (by omega)
              have e8 : val 8 = .int .i64 (arcAt (setRoom L2 an ((arcAt L2 an).room - hullsL L qs)) (mate an)).room := hd 8 (by omega)
              have e9 : val 9 = .int .i64 (hullsL L qs) := hd 9 (by omega)
              have e10 : val 10 = .int .i64 ((arcAt (setRoom L2 an ((arcAt L2 an).room - hullsL L qs)) (mate an)).room + hullsL L qs) := hd 10 (by omega)
              have e11 : val 11 = .pointer (some ⟨ga, 0 + mate an * 4, none⟩) := hd 11 (by omega)
              have e12 : val 12 = .pointer (some ⟨ga, 0 + mate an * 4 + 3, none⟩) := hd 12 (by omega)
              refine EL.ends (cs := [.pointer (some ⟨g, 0, none⟩), .pointer (some ⟨g, 0, none⟩), .pointer (some ⟨g, 2, none⟩), .slice (some ⟨ga, 0, none⟩) (openL nt).length cL, .int .i64 (an : Nat), .int .i64 (mate an : Nat), .pointer (some ⟨ga, 0 + mate an * 4, none⟩), .pointer (some ⟨ga, 0 + mate an * 4 + 3, none⟩), .int .i64 (arcAt (setRoom L2 an ((arcAt L2 an).room - hullsL L qs)) (mate an)).room, .int .i64 (hullsL L qs), .int .i64 ((arcAt (setRoom L2 an ((arcAt L2 an).room - hullsL L qs)) (mate an)).room + hullsL L qs), .pointer (some ⟨ga, 0 + mate an * 4, none⟩), .pointer (some ⟨ga, 0 + mate an * 4 + 3, none⟩)]) ⟨e0, e1, e2, e3, e4, e5, e6, e7, e8, e9, e10, e11, e12, trivial⟩ rfl ?_
              replace qc := qc.below hb qc.lt
              replace qh := qh.below hb qh.lt
              replace qb1 := qb1.below hb qb1.lt
              replace qb2 := qb2.below hb qb2.lt
              replace hob := own_below hob hb (Nat.le_refl _)
              replace hq := hq.below hb hq.lt
              replace ho := own_below ho hb (Nat.le_refl _)
              replace hup := hup.below hb
              replace hmk := hmk.below hb
              replace hb2 := Below.on hb2 hb hb2.size
              clear hb
              refine EL.storeRow (l' := [.int .i64 ((arcAt (setRoom L2 an ((arcAt L2 an).room - hullsL L qs)) (mate an)).room + hullsL L qs)]) rfl rfl ho sz_3 rfl rfl (by rw [arcsC_len, setRoom_len]; omega) rfl ?_
              intro w4 ho4 hg4
              rw [spl_arcs (by rw [setRoom_len]; exact hmL2)] at ho4
              have hk4 := keeps_own ho hg4
              have hkB := (hkA.trans (keeps_below hb2)).trans hk4
              have hpB := (hpA.trans (Kp.of_below (S := [122]) hb2 hszB)).trans (Kp.own ho rfl (Nat.le_refl _) hup.size hg4)
              replace qb1 := blk_grown qb1 ho rfl hg4
              replace qb2 := blk_grown qb2 ho rfl hg4
              replace qc := blk_grown qc ho rfl hg4
              replace qh := blk_grown qh ho rfl hg4
              replace hq := blk_grown hq ho rfl hg4
              replace hob := own_grown hob ho rfl hg4
              replace hup := hup.grown hg4 (fun k e => by injection e with e; omega)
              replace hmk := hmk.keeps hk4
              clear ho hg4
              refine EL.nil ?_
              refine EX.toI ?_
              refine EXI.blk ?_
              have eN : pushAll (hullsL L qs) L (decL (pre ++ [([((an : Nat) : Int)], Value.int .i64 ((an : Nat) : Int))])) = pushArc (hullsL L qs) L2 an := by rw [hdec, pushAll_snoc, eL2]
              exact fun a0 ha0 => ⟨hkB, hpB, .inl ⟨rfl, qb1, qb2, hob, qc, qh, hq, (by rw [eN]; exact ho4), hup, hmk, (by rw [eN, push_len]; exact hl2), fun i => by rw [eN, (push_room haL2 hmL2 i).1]; exact hfr2 i⟩⟩
        · rintro D xs W hD hall ⟨qb1, qb2, hob, qc, qh, hq, ho, hup, hmk, hl2, hfr2⟩ hkp hdef
          have hxs := dec_all hall
          have hmk2 := hmk.marks.cons (Nat.le_trans hszW hD) hdef
          have hnd3 := List.nodup_cons.2 ⟨fun h => hmk.fresh hD h, hnd2⟩
          rw [hxs] at ho
          clear qb1 qb2 hkp hdef hl2 hfr2 hszW
          clear hmk
          have hmk := hmk2
          refine EXI.blk ?_
          refine EXI.blk ?_
          refine EXI.roundD (augL L qs, { target := .collected D, args := #[] } :: dl2) trivial (by repeat first | with_reducible exact Sub.refl _ | refine sub_past rfl ?_ | exact Sub.refl _ | refine sub_del rfl ?_ | refine sub_insL_nil ?_) rfl ⟨haug.1, hft2, qc, hq, ho, hup, hmk, hnd3⟩ (by have h4 := haug.1.bal_le hv (nt.ports.length + 1); rw [haug.1.good.len] at h4; have h5 := haug.2; simp only; omega)
        · intro D pre W hD hne hall h
          exact absurd h id
      · intro D pre W hD hne hall h
        exact absurd h id
end Go.Proofs.Ytabgmnmpdjnjoaa
set_option linter.unusedVariables false
set_option linter.unusedSimpArgs false
namespace Go.Proofs.Ytabgmnmpdjnjoaa
open Go Go.RowKit
def movesL (L : List Arc) (k : Nat) : List Int := (List.range k).map fun i => (arcAt L (2 * i + 1)).room
theorem moves_any {e0 va : Value} {m : Nat} (L : List Arc) (g : Nat) (w : World) (B : Nat) (hq : Blk w g 114 #[e0, .int .i64 (m : Nat), va]) (hrL : Rd w B 4 va L.length (arcsC L)) (hB : B ≤ w.heap.size) (hm : 2 * m ≤ L.length) (hL : L.length ≤ 1048576) :
    Calls Try.prog 40 #[.pointer (some ⟨g, 0, none⟩)] w fun e w' => (∃ v, e = .returned v ∧ w'.ownsRow w.heap.size 3 1 v m (ints (movesL L m))) ∧ Below w.heap.size w w' := by
  obtain ⟨AL, cL, rfl, _⟩ := hrL.shape
  have hbw := Below.refl w.heap.size w
  refine EC.enter 26 Try.func40 rfl rfl rfl ?_
  refine EC.seq ?_
  refine EC.region ?_
  refine EL.val (x_assign rfl) rfl ?_
  refine EL.nil ?_
  refine EX.seq ?_
  refine EC.seq ?_
  refine EC.seq ?_
  refine EC.region ?_
  refine EL.val (x_move rfl) rfl ?_
  refine EL.val (x_nilCheck rfl) rfl ?_
  refine EL.val (fa_114_1 rfl) rfl ?_
  refine EL.val (ld_3 rfl (below_load hbw (hq.at (j := 1) rfl))) rfl ?_
  refine EL.val (x_move rfl) rfl ?_
  refine EL.nil ?_
  refine EX.seq ?_
  refine EC.block ?_
  refine EC.loopD [2, 3, 8, 9, 10, 11, 12, 13, 14, 15, 16, 17, 18, 19, 20, 21, 22, 23, 24] (fun x : Nat × Value => [(2, x.2), (8, .int .i64 (x.1 : Nat))]) (fun x W => x.1 ≤ m ∧ W.ownsRow w.heap.size 3 1 x.2 x.1 (ints (movesL L x.1)) ∧ Below w.heap.size w W) (fun x => m - x.1) (0, .slice none 0 0) ⟨Nat.zero_le _, own_none, hbw⟩ ⟨rfl, rfl, trivial⟩ ?_
  clear hbw
  rintro ⟨x, vl⟩ wx ⟨hx, ho, hbw⟩
  dsimp only at hx ho
  obtain ⟨Al, cl, rfl, _⟩ := (Rd.of_own ho).shape
  by_cases hlt : x < m
  ·
    obtain ⟨ba, oa, e_, _, ac⟩ := arcs_cells L (2 * x + 1) (by omega) _ _ _ _ _ hrL
    subst e_
    have hsl : movesL L (x + 1) = movesL L x ++ [(arcAt L (2 * x + 1)).room] := by simp [movesL, List.range_succ]
    refine EC.seq ?_
    refine EC.region ?_
    refine EL.val (x_lss rfl rfl (decide_eq_true (show (((x : Nat) : Int) < ((m : Nat) : Int)) by omega))) rfl ?_
    refine EL.nil ?_
    refine EX.seq ?_
    refine EC.seq ?_
    refine EC.yes rfl ?_
    refine EC.skip ?_
    refine EX.seq ?_
    refine EC.seq ?_
    refine EC.block ?_
    refine EC.seq ?_
    refine EC.region ?_
    refine EL.val (x_move rfl) rfl ?_
    refine EL.val (x_assign rfl) rfl ?_
    refine EL.nil ?_
    refine EX.seq ?_
    refine EC.region ?_
    refine EL.val (x_move rfl) rfl ?_
    refine EL.val (x_move rfl) rfl ?_
    refine EL.val (x_nilCheck rfl) rfl ?_
    refine EL.val (fa_114_2 rfl) rfl ?_
    refine EL.val (ld_112 rfl (below_load hbw (hq.at (j := 2) rfl))) rfl ?_
    refine EL.val (x_move rfl) rfl ?_
    refine EL.val (x_mul rfl rfl (c := ((2 * x : Nat) : Int)) ((IntWalk.i64_in _ ⟨by omega, by omega⟩).trans (by omega))) rfl ?_
    refine EL.val (x_add rfl rfl (c := ((2 * x + 1 : Nat) : Int)) ((IntWalk.i64_in _ ⟨by omega, by omega⟩).trans (by omega))) rfl ?_
    refine EL.val (ix_112 rfl rfl (show 2 * x + 1 < L.length by omega)) rfl ?_
    refine EL.val (fa_122_3 rfl) rfl ?_
    refine EL.val (ld_3 rfl (below_load hbw ac.c3)) rfl ?_
    refine EL.newS (bs_29_1 rfl) rfl ?_
    intro g1 w1 q1 hb1 hg1 hl1
    have bhbw_1 := Nat.le_trans hbw.size hg1
    replace ho := own_below ho hb1 (Nat.le_refl _)
    replace hbw := Below.on hbw hb1 hbw.size
    clear hb1 hg1 hl1
    refine EL.push i64_elem rfl rfl ho (rd_one (l := [.int .i64 (arcAt L (2 * x + 1)).room]) q1 rfl) (by intro u hu; rw [List.mem_singleton.1 hu]; rfl) (by omega) rfl hbw.size rfl ?_
    intro v2 w2 ho2 hgr hb_ hat
    replace hbw := hbw.trans hb_
    clear ho hgr hb_ hat
    refine EL.val (x_assign rfl) rfl ?_
    refine EL.nil ?_
    refine EX.blk ?_
    refine EX.seq ?_
    refine EC.region ?_
    refine EL.val (x_add rfl rfl (c := ((x + 1 : Nat) : Int)) ((IntWalk.i64_in _ ⟨by first | omega | (simp only; omega), by first | omega | (simp only; omega)⟩).trans (by first | omega | (simp only; omega)))) rfl ?_
    refine EL.val (x_move rfl) rfl ?_
    refine EL.nil ?_
    refine EX.roundD (x + 1, _) ⟨rfl, rfl, trivial⟩ (by repeat first | with_reducible exact Sub.refl _ | refine sub_past rfl ?_ | exact Sub.refl _ | refine sub_del rfl ?_ | refine sub_insL_nil ?_) ⟨hlt, by rw [hsl, ints_app]; exact ho2, hbw⟩ (by simp only; omega)
  ·
    have hxe : x = m := by omega
    subst hxe
    refine EC.seq ?_
    refine EC.region ?_
    refine EL.val (x_lss rfl rfl (decide_eq_false (show ¬(((x : Nat) : Int) < ((x : Nat) : Int)) by omega))) rfl ?_
    refine EL.nil ?_
    refine EX.seq ?_
    refine EC.seq ?_
    refine EC.no rfl ?_
    refine EC.exit ?_
    refine EX.seq_exit ?_
    refine EX.seq_exit ?_
    refine EX.blk_here ?_
    refine EX.seq ?_
    refine EC.seq ?_
    refine EC.region ?_
    refine EL.val (x_move rfl) rfl ?_
    refine EL.val (x_assign rfl) rfl ?_
    refine EL.nil ?_
    refine EX.seq ?_
    refine EC.ret ?_
    exact EX.done (res1 rfl rfl) ⟨⟨_, rfl, ho⟩, hbw⟩
theorem EL.insSet {n : Nat} {L : List Oper} {Q : Exit → Act → World → Prop} {rest : List Oper} {σ : Sg} {w : World} {ty : Nat} {b m i : Nat} {f : Nat → Bool} {x y z : Operand} {pos : String} {af : Array Edge} (hx : evS σ x = some (.map (some b))) (hy : evS σ y = some (.int .i64 (i : Nat))) (hz : evS σ z = some (.bool true)) (hs : SetAt w b m f) (hm : m ≤ 1048576) (hi : i < 64)
    (next : ∀ w', SetAt w' b (m + 1) (putS f i) → w.grownBy w' (some b) → EL Try.prog n L Q rest σ w') : EL Try.prog n L Q (⟨none, .insert 129 x y z, ty, pos, af, none⟩ :: rest) σ w := fun a ha => by
  obtain ⟨w', hrun, h1, h2⟩ := run_putSet hs hm hi
  unfold wpList
  rw [if_pos (wanted_none rfl _)]
  left
  unfold Oper.wp
  have hr : (execOp a.eval ⟨none, .insert 129 x y z, ty, pos, af, none⟩).run Try.prog w = .ok .skip w' := by
    simp only [execOp, ha.eval hx, ha.eval hy, ha.eval hz]
    simp [hrun, Result.andThen]
  rw [hr, Oper.upon_skip]
  exact next w' h1 h2 a ha
/-- nodes from which the sink could get hulls -/
inductive Lk (L : List Arc) (s : Nat) : Nat → Prop
  | base : Lk L s s
  | step {i : Nat} : i < L.length → 0 < (arcAt L i).room → Lk L s (arcAt L i).to → Lk L s (arcAt L i).fr
def lackL (f : Nat → Bool) (k : Nat) : List Int := ((List.range k).filter f).map fun v => ((v : Nat) : Int)
theorem lackL_len (f : Nat → Bool) (k : Nat) : (lackL f k).length ≤ k := by
  rw [lackL, List.length_map]
  exact Nat.le_trans (List.length_filter_le _ _) (by simp)
/-- so many are not there -/
def cF (N : Nat) (f : Nat → Bool) : Nat := ((List.range N).filter fun v => !f v).length
theorem cF_le (N : Nat) (f : Nat → Bool) : cF N f ≤ N := Nat.le_trans (List.length_filter_le _ _) (by simp)
theorem cF_succ (N : Nat) (f : Nat → Bool) : cF (N + 1) f = cF N f + if f N = true then 0 else 1 := by
  unfold cF
  rw [List.range_succ, List.filter_append, List.length_append]
  cases h : f N <;> simp [h]
theorem cF_put {f : Nat → Bool} {i : Nat} : ∀ {N : Nat}, i < N → f i = false → cF N (putS f i) + 1 = cF N f
  | N + 1, h, hf => by
    rw [cF_succ, cF_succ]
    by_cases e : i = N
    · subst e
      have key : ∀ M, M ≤ i → cF M (putS f i) = cF M f := by
        intro M
        induction M with
        | zero => intro _; rfl
        | succ M ih =>
          intro hM
          have e3 : putS f i M = f M := by simp only [putS]; rw [if_neg (by omega)]
          rw [cF_succ, cF_succ, ih (by omega), e3]
      rw [key i (Nat.le_refl _), hf]
      simp [putS]
    · have := cF_put (N := N) (by omega) hf
      have e2 : putS f i N = f N := by simp only [putS]; rw [if_neg (Ne.symm e)]
      rw [e2]
      omega
section
variable {L : List Arc} {s : Nat} {f : Nat → Bool}
theorem lk_first (v : Nat) (h : putS (fun _ => false) s v = true) : Lk L s v := by
  simp only [putS] at h
  split at h
  · rename_i e; rw [e]; exact .base
  · cases h
theorem lk_put {i : Nat} (h : ∀ v, f v = true → Lk L s v) (hi : Lk L s i) (v : Nat) (hv : putS f i v = true) : Lk L s v := by
  simp only [putS] at hv
  split at hv
  · rename_i e; rw [e]; exact hi
  · exact h v hv
theorem lk_keep {ag : Bool} {x : Nat} (h : ag = false → ∀ j, j < x → 0 < (arcAt L j).room → f (arcAt L j).to = true → f (arcAt L j).fr = true) (hx : 0 < (arcAt L x).room → f (arcAt L x).to = true → f (arcAt L x).fr = true) : ag = false → ∀ j, j < x + 1 → 0 < (arcAt L j).room → f (arcAt L j).to = true → f (arcAt L j).fr = true := fun ha j hj => by
  by_cases e : j = x
  · rw [e]; exact hx
  · exact h ha j (by omega)
theorem lk_all (h : ∀ j, j < L.length → 0 < (arcAt L j).room → f (arcAt L j).to = true → f (arcAt L j).fr = true) (hs : f s = true) {v : Nat} (hl : Lk L s v) : f v = true := by
  induction hl with
  | base => exact hs
  | step hi hr _ ih => exact h _ hi hr ih
end
set_option maxRecDepth 100000 in
theorem lacking_any {e1 va : Value} {p : Nat} (L : List Arc) (g : Nat) (w : World) (B : Nat) (hq : Blk w g 114 #[.int .i64 (p : Nat), e1, va]) (hrL : Rd w B 4 va L.length (arcsC L)) (hB : B ≤ w.heap.size) (hp : p ≤ 60) (hL : L.length ≤ 1048576) (hA : ArcsOk L (p + 2)) :
    Calls Try.prog 49 #[.pointer (some ⟨g, 0, none⟩)] w fun e w' => (∃ v f, e = .returned v ∧ (∀ v, f v = true ↔ Lk L (p + 1) v) ∧ w'.ownsRow w.heap.size 3 1 v (lackL f p).length (ints (lackL f p))) ∧ Below w.heap.size w w' := by
  obtain ⟨AL, cL, rfl, _⟩ := hrL.shape
  have hbw := Below.refl w.heap.size w
  have hq0 := hq
  refine EC.enter 58 Try.func49 rfl rfl rfl ?_
  refine EC.seq ?_
  refine EC.region ?_
  refine EL.val (x_assign rfl) rfl ?_
  refine EL.nil ?_
  refine EX.seq ?_
  refine EC.seq ?_
  refine EC.region ?_
  refine EL.newSet rfl ?_
  intro sb w1 hs hb1 hsb
  have hsw := Nat.le_trans hbw.size hsb
  replace hq := hq.below hb1 hq.lt
  replace hbw := Below.on hbw hb1 hbw.size
  clear hb1
  refine EL.val (x_move rfl) rfl ?_
  refine EL.call (cl_67 rfl) rfl (sink_any _ _ hq (by omega)) ?_
  rintro e w2 ⟨rfl, hc2⟩
  refine ⟨_, rfl, ?_⟩
  replace hq := hq.below hc2 hq.lt
  replace hs := hs.below hc2
  replace hbw := Below.on hbw hc2 hbw.size
  clear hc2
  refine EL.insSet rfl rfl rfl hs (by omega) (by omega) ?_
  intro w3 hs2 hg3
  replace hbw := hbw.trans (below_set hg3 hsw hbw.size)
  clear hs hg3
  have hs := hs2
  clear hs2
  refine EL.val (x_move rfl) rfl ?_
  refine EL.val (x_assign rfl) rfl ?_
  refine EL.nil ?_
  refine EX.seq ?_
  refine EC.seq ?_
  refine EC.seq ?_
  refine EC.region ?_
  refine EL.val (x_assign rfl) rfl ?_
  refine EL.nil ?_
  refine EX.seq ?_
  refine EC.block ?_
  refine EC.loopD [4, 6, 12, 13, 14, 15, 16, 17, 18, 19, 20, 21, 22, 23, 24, 25, 26, 27, 28, 29, 30, 31, 32, 33, 34, 35, 36, 37, 38, 39, 40, 41] (fun x : (Nat → Bool) × Bool × Nat => [(4, .bool x.2.1)]) (fun x W => (x.2.1 = false → ∀ j, j < L.length → 0 < (arcAt L j).room → x.1 (arcAt L j).to = true → x.1 (arcAt L j).fr = true) ∧ (∀ v, x.1 v = true → Lk L (p + 1) v) ∧ x.1 (p + 1) = true ∧ x.2.2 + cF 62 x.1 ≤ 63 ∧ SetAt W sb x.2.2 x.1 ∧ Below w.heap.size w W) (fun x => 2 * cF 62 x.1 + if x.2.1 = true then 1 else 0) (putS (fun _ => false) (p + 1), true, 1) ⟨fun h => (by cases h), lk_first, by simp [putS], by have := cF_le 62 (putS (fun _ => false) (p + 1)); show 1 + cF 62 (putS (fun _ => false) (p + 1)) ≤ 63; omega, hs, hbw⟩ ⟨rfl, trivial⟩ ?_
  clear hs hbw
  rintro ⟨f, ag, m⟩ wx ⟨hcl, hlk, hsk, hcm, hs, hbw⟩
  dsimp only at hcl hlk hsk hcm hs
  cases ag
  ·
    replace hcl := hcl rfl
    refine EC.seq ?_
    refine EC.seq ?_
    refine EC.region ?_
    refine EL.val (x_move rfl) rfl ?_
    refine EL.nil ?_
    refine EX.seq ?_
    refine EC.no rfl ?_
    refine EC.exit ?_
    refine EX.seq_exit ?_
    refine EX.seq_exit ?_
    refine EX.blk_here ?_
    refine EX.seq ?_
    refine EC.seq ?_
    refine EC.seq ?_
    refine EC.region ?_
    refine EL.val (x_move rfl) rfl ?_
    refine EL.val (x_nilCheck rfl) rfl ?_
    refine EL.val (fa_114_0 rfl) rfl ?_
    refine EL.val (ld_3 rfl (below_load hbw (hq0.at (j := 0) rfl))) rfl ?_
    refine EL.val (x_move rfl) rfl ?_
    refine EL.nil ?_
    refine EX.seq ?_
    refine EC.block ?_
    refine EC.loopD [2, 7, 46, 47, 48, 49, 50, 51, 52, 53, 54, 55, 56] (fun x : Nat × Value => [(2, x.2), (46, .int .i64 (x.1 : Nat))]) (fun x W => x.1 ≤ p ∧ W.ownsRow w.heap.size 3 1 x.2 (lackL f x.1).length (ints (lackL f x.1)) ∧ SetAt W sb m f ∧ Below w.heap.size w W) (fun x => p - x.1) (0, .slice none 0 0) ⟨Nat.zero_le _, own_none, hs, hbw⟩ ⟨rfl, rfl, trivial⟩ ?_
    clear hbw hs
    rintro ⟨x, vl⟩ wx ⟨hx, ho, hs, hbw⟩
    dsimp only at hx ho
    have hll := lackL_len f x
    obtain ⟨Al, cl, rfl, _⟩ := (Rd.of_own ho).shape
    by_cases hlt : x < p
    ·
      cases hfx : f x
      ·
        have hsl : lackL f (x + 1) = lackL f x ++ [] := by simp [lackL, List.range_succ, hfx]
        refine EC.seq ?_
        refine EC.region ?_
        refine EL.val (x_lss rfl rfl (decide_eq_true (show (((x : Nat) : Int) < ((p : Nat) : Int)) by omega))) rfl ?_
        refine EL.nil ?_
        refine EX.seq ?_
        refine EC.seq ?_
        refine EC.yes rfl ?_
        refine EC.skip ?_
        refine EX.seq ?_
        refine EC.seq ?_
        refine EC.block ?_
        refine EC.seq ?_
        refine EC.region ?_
        refine EL.val (x_move rfl) rfl ?_
        refine EL.val (x_assign rfl) rfl ?_
        refine EL.nil ?_
        refine EX.seq ?_
        refine EC.seq ?_
        refine EC.region ?_
        refine EL.val (x_move rfl) rfl ?_
        refine EL.val (x_move rfl) rfl ?_
        refine EL.val (look_set (r := false) rfl rfl hs (by omega) hfx) rfl ?_
        refine EL.nil ?_
        refine EX.seq ?_
        refine EC.no rfl ?_
        refine EC.skip ?_
        refine EX.blk ?_
        refine EX.seq ?_
        refine EC.region ?_
        refine EL.val (x_add rfl rfl (c := ((x + 1 : Nat) : Int)) ((IntWalk.i64_in _ ⟨by first | omega | (simp only; omega), by first | omega | (simp only; omega)⟩).trans (by first | omega | (simp only; omega)))) rfl ?_
        refine EL.val (x_move rfl) rfl ?_
        refine EL.nil ?_
        refine EX.roundD (x + 1, _) ⟨rfl, rfl, trivial⟩ (by repeat first | with_reducible exact Sub.refl _ | refine sub_past rfl ?_ | exact Sub.refl _ | refine sub_del rfl ?_ | refine sub_insL_nil ?_) ⟨hlt, by rw [hsl, List.append_nil]; exact ho, hs, hbw⟩ (by simp only; omega)
      ·
        have hsl : lackL f (x + 1) = lackL f x ++ [((x : Nat) : Int)] := by simp [lackL, List.range_succ, hfx]
        refine EC.seq ?_
        refine EC.region ?_
        refine EL.val (x_lss rfl rfl (decide_eq_true (show (((x : Nat) : Int) < ((p : Nat) : Int)) by omega))) rfl ?_
        refine EL.nil ?_
        refine EX.seq ?_
        refine EC.seq ?_
        refine EC.yes rfl ?_
        refine EC.skip ?_
        refine EX.seq ?_
        refine EC.seq ?_
        refine EC.block ?_
        refine EC.seq ?_
        refine EC.region ?_
        refine EL.val (x_move rfl) rfl ?_
        refine EL.val (x_assign rfl) rfl ?_
        refine EL.nil ?_
        refine EX.seq ?_
        refine EC.seq ?_
        refine EC.region ?_
        refine EL.val (x_move rfl) rfl ?_
        refine EL.val (x_move rfl) rfl ?_
        refine EL.val (look_set (r := true) rfl rfl hs (by omega) hfx) rfl ?_
        refine EL.nil ?_
        refine EX.seq ?_
        refine EC.yes rfl ?_
        refine EC.region ?_
        refine EL.val (x_move rfl) rfl ?_
        refine EL.val (x_move rfl) rfl ?_
        refine EL.newS (bs_29_1 rfl) rfl ?_
        intro g4 w4 q4 hb4 hg4 hl4
        have bhbw_4 := Nat.le_trans hbw.size hg4
        replace ho := own_below ho hb4 (Nat.le_refl _)
        replace hs := hs.below hb4
        replace hbw := Below.on hbw hb4 hbw.size
        clear hb4 hg4 hl4
        refine EL.push i64_elem rfl rfl ho (rd_one (l := [.int .i64 (x : Nat)]) q4 rfl) (by intro u hu; rw [List.mem_singleton.1 hu]; rfl) (by show (lackL f x).length + 1 ≤ 1048576; omega) rfl hbw.size rfl ?_
        intro v5 w5 ho2 hgr hb_ hat
        replace hs := hs.grown ho hgr
        replace hbw := hbw.trans hb_
        clear ho hgr hb_ hat
        refine EL.val (x_assign rfl) rfl ?_
        refine EL.nil ?_
        refine EX.blk ?_
        refine EX.seq ?_
        refine EC.region ?_
        refine EL.val (x_add rfl rfl (c := ((x + 1 : Nat) : Int)) ((IntWalk.i64_in _ ⟨by first | omega | (simp only; omega), by first | omega | (simp only; omega)⟩).trans (by first | omega | (simp only; omega)))) rfl ?_
        refine EL.val (x_move rfl) rfl ?_
        refine EL.nil ?_
        refine EX.roundD (x + 1, _) ⟨rfl, rfl, trivial⟩ (by repeat first | with_reducible exact Sub.refl _ | refine sub_past rfl ?_ | exact Sub.refl _ | refine sub_del rfl ?_ | refine sub_insL_nil ?_) ⟨hlt, by rw [hsl, ints_app, List.length_append]; exact ho2, hs, hbw⟩ (by simp only; omega)
    ·
      have hxe : x = p := by omega
      subst hxe
      refine EC.seq ?_
      refine EC.region ?_
      refine EL.val (x_lss rfl rfl (decide_eq_false (show ¬(((x : Nat) : Int) < ((x : Nat) : Int)) by omega))) rfl ?_
      refine EL.nil ?_
      refine EX.seq ?_
      refine EC.seq ?_
      refine EC.no rfl ?_
      refine EC.exit ?_
      refine EX.seq_exit ?_
      refine EX.seq_exit ?_
      refine EX.blk_here ?_
      refine EX.seq ?_
      refine EC.seq ?_
      refine EC.region ?_
      refine EL.val (x_move rfl) rfl ?_
      refine EL.val (x_assign rfl) rfl ?_
      refine EL.nil ?_
      refine EX.seq ?_
      refine EC.ret ?_
      exact EX.done (res1 rfl rfl) ⟨⟨_, f, rfl, fun v => ⟨hlk v, lk_all hcl hsk⟩, ho⟩, hbw⟩
  ·
    clear hcl
    refine EC.seq ?_
    refine EC.seq ?_
    refine EC.region ?_
    refine EL.val (x_move rfl) rfl ?_
    refine EL.nil ?_
    refine EX.seq ?_
    refine EC.yes rfl ?_
    refine EC.skip ?_
    refine EX.seq ?_
    refine EC.block ?_
    refine EC.seq ?_
    refine EC.region ?_
    refine EL.val (x_assign rfl) rfl ?_
    refine EL.nil ?_
    refine EX.seq ?_
    refine EC.seq ?_
    refine EC.region ?_
    refine EL.val (x_move rfl) rfl ?_
    refine EL.val (x_nilCheck rfl) rfl ?_
    refine EL.val (fa_114_2 rfl) rfl ?_
    refine EL.val (ld_112 rfl (below_load hbw (hq0.at (j := 2) rfl))) rfl ?_
    refine EL.val (ln_112 rfl) rfl ?_
    refine EL.val (x_move rfl) rfl ?_
    refine EL.nil ?_
    refine EX.seq ?_
    refine EC.block ?_
    refine EC.loopD [4, 6, 18, 19, 20, 21, 22, 23, 24, 25, 26, 27, 28, 29, 30, 31, 32, 33, 34, 35, 36, 37, 38, 39, 40, 41] (fun x : Nat × (Nat → Bool) × Bool × Nat => [(4, .bool x.2.2.1), (18, .int .i64 (x.1 : Nat))]) (fun x W => x.1 ≤ L.length ∧ (x.2.2.1 = false → ∀ j, j < x.1 → 0 < (arcAt L j).room → x.2.1 (arcAt L j).to = true → x.2.1 (arcAt L j).fr = true) ∧ (∀ v, x.2.1 v = true → Lk L (p + 1) v) ∧ x.2.1 (p + 1) = true ∧ x.2.2.2 + cF 62 x.2.1 ≤ 63 ∧ cF 62 x.2.1 + (if x.2.2.1 = true then 1 else 0) ≤ cF 62 f ∧ SetAt W sb x.2.2.2 x.2.1 ∧ Below w.heap.size w W) (fun x => L.length - x.1) (0, f, false, m) ⟨Nat.zero_le _, fun _ j hj => absurd hj (Nat.not_lt_zero _), hlk, hsk, hcm, by simp, hs, hbw⟩ ⟨rfl, rfl, trivial⟩ ?_
    clear hs hbw hlk hsk hcm
    rintro ⟨x, f2, ag2, m2⟩ wy ⟨hx, hcl2, hlk, hsk, hcm, hdec, hs, hbw⟩
    dsimp only at hx hcl2 hlk hsk hcm hdec hs
    by_cases hlt : x < L.length
    ·
      obtain ⟨ba, oa, e_, _, ac⟩ := arcs_cells L x hlt _ _ _ _ _ hrL
      subst e_
      have hf62 := hA.fr x hlt
      have ht62 := hA.to x hlt
      have hf64 : (arcAt L x).fr < 64 := by omega
      by_cases hrm : 0 < (arcAt L x).room
      ·
        cases hto : f2 (arcAt L x).to
        ·
          refine EC.seq ?_
          refine EC.region ?_
          refine EL.val (x_lss rfl rfl (decide_eq_true (show (((x : Nat) : Int) < ((L.length : Nat) : Int)) by omega))) rfl ?_
          refine EL.nil ?_
          refine EX.seq ?_
          refine EC.seq ?_
          refine EC.yes rfl ?_
          refine EC.skip ?_
          refine EX.seq ?_
          refine EC.seq ?_
          refine EC.block ?_
          refine EC.seq ?_
          refine EC.region ?_
          refine EL.val (ix_112 rfl rfl hlt) rfl ?_
          refine EL.val (ld_122 rfl (below_load hbw ac.c0) (below_load hbw ac.c1) (below_load hbw ac.c2) (below_load hbw ac.c3)) rfl ?_
          refine EL.newP al_122 rfl ?_
          intro g6 w6 q6 hb6 hg6 hl6
          have bhbw_6 := Nat.le_trans hbw.size hg6
          replace hs := hs.below hb6
          replace hbw := Below.on hbw hb6 hbw.size
          clear hb6 hg6 hl6
          refine EL.store rfl rfl q6 sz_122 rfl rfl rfl rfl ?_
          intro w7 hq7 hg7
          replace hs := hs.type q6 hg7
          replace hbw := below_store hbw hg7 bhbw_6
          replace q6 := hq7
          clear hg7 hq7
          refine EL.nil ?_
          refine EX.seq ?_
          refine EC.seq ?_
          refine EC.region ?_
          refine EL.val (fa_122_3 rfl) rfl ?_
          refine EL.val (ld_3 rfl (q6.at (j := 3) rfl)) rfl ?_
          refine EL.val (x_gtr (r := true) rfl rfl (decide_eq_true (by omega))) rfl ?_
          refine EL.val (x_move rfl) rfl ?_
          refine EL.valg rfl rfl (x_move rfl) rfl ?_
          refine EL.valg rfl rfl (fa_122_1 rfl) rfl ?_
          refine EL.valg rfl rfl (ld_3 rfl (q6.at (j := 1) rfl)) rfl ?_
          refine EL.valg rfl rfl (look_set (r := false) rfl rfl hs (by omega) hto) rfl ?_
          refine EL.val (x_pick_t rfl rfl) rfl ?_
          refine EL.val (x_move rfl) rfl ?_
          refine EL.skip rfl rfl rfl rfl ?_
          refine EL.skip rfl rfl rfl rfl ?_
          refine EL.skip rfl rfl rfl rfl ?_
          refine EL.skip rfl rfl rfl rfl ?_
          refine EL.skip rfl rfl rfl rfl ?_
          refine EL.val (x_pick_f rfl rfl) rfl ?_
          refine EL.nil ?_
          refine EX.seq ?_
          refine EC.no rfl ?_
          refine EC.skip ?_
          refine EX.blk ?_
          refine EX.seq ?_
          refine EC.region ?_
          refine EL.val (x_add rfl rfl (c := ((x + 1 : Nat) : Int)) ((IntWalk.i64_in _ ⟨by first | omega | (simp only; omega), by first | omega | (simp only; omega)⟩).trans (by first | omega | (simp only; omega)))) rfl ?_
          refine EL.val (x_move rfl) rfl ?_
          refine EL.nil ?_
          refine EX.roundD (x + 1, f2, ag2, m2) ⟨rfl, rfl, trivial⟩ (by repeat first | with_reducible exact Sub.refl _ | refine sub_past rfl ?_ | exact Sub.refl _ | refine sub_del rfl ?_ | refine sub_insL_nil ?_) ⟨hlt, lk_keep hcl2 (fun _ h => by have h : f2 (arcAt L x).to = true := h; rw [hto] at h; cases h), hlk, hsk, hcm, hdec, hs, hbw⟩ (by simp only; omega)
        ·
          cases hfr : f2 (arcAt L x).fr
          ·
            have hcF := cF_put (N := 62) (f := f2) (by omega) hfr
            refine EC.seq ?_
            refine EC.region ?_
            refine EL.val (x_lss rfl rfl (decide_eq_true (show (((x : Nat) : Int) < ((L.length : Nat) : Int)) by omega))) rfl ?_
            refine EL.nil ?_
            refine EX.seq ?_
            refine EC.seq ?_
            refine EC.yes rfl ?_
            refine EC.skip ?_
            refine EX.seq ?_
            refine EC.seq ?_
            refine EC.block ?_
            refine EC.seq ?_
            refine EC.region ?_
            refine EL.val (ix_112 rfl rfl hlt) rfl ?_
            refine EL.val (ld_122 rfl (below_load hbw ac.c0) (below_load hbw ac.c1) (below_load hbw ac.c2) (below_load hbw ac.c3)) rfl ?_
            refine EL.newP al_122 rfl ?_
            intro g8 w8 q8 hb8 hg8 hl8
            have bhbw_8 := Nat.le_trans hbw.size hg8
            replace hs := hs.below hb8
            replace hbw := Below.on hbw hb8 hbw.size
            clear hb8 hg8 hl8
            refine EL.store rfl rfl q8 sz_122 rfl rfl rfl rfl ?_
            intro w9 hq9 hg9
            replace hs := hs.type q8 hg9
            replace hbw := below_store hbw hg9 bhbw_8
            replace q8 := hq9
            clear hg9 hq9
            refine EL.nil ?_
            refine EX.seq ?_
            refine EC.seq ?_
            refine EC.region ?_
            refine EL.val (fa_122_3 rfl) rfl ?_
            refine EL.val (ld_3 rfl (q8.at (j := 3) rfl)) rfl ?_
            refine EL.val (x_gtr (r := true) rfl rfl (decide_eq_true (by omega))) rfl ?_
            refine EL.val (x_move rfl) rfl ?_
            refine EL.valg rfl rfl (x_move rfl) rfl ?_
            refine EL.valg rfl rfl (fa_122_1 rfl) rfl ?_
            refine EL.valg rfl rfl (ld_3 rfl (q8.at (j := 1) rfl)) rfl ?_
            refine EL.valg rfl rfl (look_set (r := true) rfl rfl hs (by omega) hto) rfl ?_
            refine EL.val (x_pick_t rfl rfl) rfl ?_
            refine EL.val (x_move rfl) rfl ?_
            refine EL.valg rfl rfl (x_move rfl) rfl ?_
            refine EL.valg rfl rfl (fa_122_0 rfl) rfl ?_
            refine EL.valg rfl rfl (ld_3 rfl (q8.at (j := 0) rfl)) rfl ?_
            refine EL.valg rfl rfl (look_set (r := false) rfl rfl hs (by omega) hfr) rfl ?_
            refine EL.valg rfl rfl (x_not rfl) rfl ?_
            refine EL.val (x_pick_t rfl rfl) rfl ?_
            refine EL.nil ?_
            refine EX.seq ?_
            refine EC.yes rfl ?_
            refine EC.region ?_
            refine EL.val (x_move rfl) rfl ?_
            refine EL.val (fa_122_0 rfl) rfl ?_
            refine EL.val (ld_3 rfl (q8.at (j := 0) rfl)) rfl ?_
            refine EL.putSet rfl rfl rfl hs (by omega) hf64 ?_
            intro w10 hs2 hg10
            replace q8 := blk_set q8 hs hg10
            replace hbw := hbw.trans (below_set hg10 hsw hbw.size)
            clear hs hg10
            have hs := hs2
            clear hs2
            refine EL.val (x_assign rfl) rfl ?_
            refine EL.nil ?_
            refine EX.blk ?_
            refine EX.seq ?_
            refine EC.region ?_
            refine EL.val (x_add rfl rfl (c := ((x + 1 : Nat) : Int)) ((IntWalk.i64_in _ ⟨by first | omega | (simp only; omega), by first | omega | (simp only; omega)⟩).trans (by first | omega | (simp only; omega)))) rfl ?_
            refine EL.val (x_move rfl) rfl ?_
            refine EL.nil ?_
            refine EX.roundD (x + 1, putS f2 (arcAt L x).fr, true, m2 + 1) ⟨rfl, rfl, trivial⟩ (by repeat first | with_reducible exact Sub.refl _ | refine sub_past rfl ?_ | exact Sub.refl _ | refine sub_del rfl ?_ | refine sub_insL_nil ?_) ⟨hlt, fun h => (by cases h), lk_put hlk (.step hlt hrm (hlk _ hto)), by simp only [putS]; split <;> first | rfl | exact hsk, by show m2 + 1 + cF 62 (putS f2 (arcAt L x).fr) ≤ 63; omega, by show cF 62 (putS f2 (arcAt L x).fr) + (if true = true then 1 else 0) ≤ cF 62 f; rw [if_pos rfl]; split at hdec <;> omega, hs, hbw⟩ (by simp only; omega)
          ·
            refine EC.seq ?_
            refine EC.region ?_
            refine EL.val (x_lss rfl rfl (decide_eq_true (show (((x : Nat) : Int) < ((L.length : Nat) : Int)) by omega))) rfl ?_
            refine EL.nil ?_
            refine EX.seq ?_
            refine EC.seq ?_
            refine EC.yes rfl ?_
            refine EC.skip ?_
            refine EX.seq ?_
            refine EC.seq ?_
            refine EC.block ?_
            refine EC.seq ?_
            refine EC.region ?_
            refine EL.val (ix_112 rfl rfl hlt) rfl ?_
            refine EL.val (ld_122 rfl (below_load hbw ac.c0) (below_load hbw ac.c1) (below_load hbw ac.c2) (below_load hbw ac.c3)) rfl ?_
            refine EL.newP al_122 rfl ?_
            intro g11 w11 q11 hb11 hg11 hl11
            have bhbw_11 := Nat.le_trans hbw.size hg11
            replace hs := hs.below hb11
            replace hbw := Below.on hbw hb11 hbw.size
            clear hb11 hg11 hl11
            refine EL.store rfl rfl q11 sz_122 rfl rfl rfl rfl ?_
            intro w12 hq12 hg12
            replace hs := hs.type q11 hg12
            replace hbw := below_store hbw hg12 bhbw_11
            replace q11 := hq12
            clear hg12 hq12
            refine EL.nil ?_
            refine EX.seq ?_
            refine EC.seq ?_
            refine EC.region ?_
            refine EL.val (fa_122_3 rfl) rfl ?_
            refine EL.val (ld_3 rfl (q11.at (j := 3) rfl)) rfl ?_
            refine EL.val (x_gtr (r := true) rfl rfl (decide_eq_true (by omega))) rfl ?_
            refine EL.val (x_move rfl) rfl ?_
            refine EL.valg rfl rfl (x_move rfl) rfl ?_
            refine EL.valg rfl rfl (fa_122_1 rfl) rfl ?_
            refine EL.valg rfl rfl (ld_3 rfl (q11.at (j := 1) rfl)) rfl ?_
            refine EL.valg rfl rfl (look_set (r := true) rfl rfl hs (by omega) hto) rfl ?_
            refine EL.val (x_pick_t rfl rfl) rfl ?_
            refine EL.val (x_move rfl) rfl ?_
            refine EL.valg rfl rfl (x_move rfl) rfl ?_
            refine EL.valg rfl rfl (fa_122_0 rfl) rfl ?_
            refine EL.valg rfl rfl (ld_3 rfl (q11.at (j := 0) rfl)) rfl ?_
            refine EL.valg rfl rfl (look_set (r := true) rfl rfl hs (by omega) hfr) rfl ?_
            refine EL.valg rfl rfl (x_not rfl) rfl ?_
            refine EL.val (x_pick_t rfl rfl) rfl ?_
            refine EL.nil ?_
            refine EX.seq ?_
            refine EC.no rfl ?_
            refine EC.skip ?_
            refine EX.blk ?_
            refine EX.seq ?_
            refine EC.region ?_
            refine EL.val (x_add rfl rfl (c := ((x + 1 : Nat) : Int)) ((IntWalk.i64_in _ ⟨by first | omega | (simp only; omega), by first | omega | (simp only; omega)⟩).trans (by first | omega | (simp only; omega)))) rfl ?_
            refine EL.val (x_move rfl) rfl ?_
            refine EL.nil ?_
            refine EX.roundD (x + 1, f2, ag2, m2) ⟨rfl, rfl, trivial⟩ (by repeat first | with_reducible exact Sub.refl _ | refine sub_past rfl ?_ | exact Sub.refl _ | refine sub_del rfl ?_ | refine sub_insL_nil ?_) ⟨hlt, lk_keep hcl2 (fun _ _ => hfr), hlk, hsk, hcm, hdec, hs, hbw⟩ (by simp only; omega)
      ·
        refine EC.seq ?_
        refine EC.region ?_
        refine EL.val (x_lss rfl rfl (decide_eq_true (show (((x : Nat) : Int) < ((L.length : Nat) : Int)) by omega))) rfl ?_
        refine EL.nil ?_
        refine EX.seq ?_
        refine EC.seq ?_
        refine EC.yes rfl ?_
        refine EC.skip ?_
        refine EX.seq ?_
        refine EC.seq ?_
        refine EC.block ?_
        refine EC.seq ?_
        refine EC.region ?_
        refine EL.val (ix_112 rfl rfl hlt) rfl ?_
        refine EL.val (ld_122 rfl (below_load hbw ac.c0) (below_load hbw ac.c1) (below_load hbw ac.c2) (below_load hbw ac.c3)) rfl ?_
        refine EL.newP al_122 rfl ?_
        intro g13 w13 q13 hb13 hg13 hl13
        have bhbw_13 := Nat.le_trans hbw.size hg13
        replace hs := hs.below hb13
        replace hbw := Below.on hbw hb13 hbw.size
        clear hb13 hg13 hl13
        refine EL.store rfl rfl q13 sz_122 rfl rfl rfl rfl ?_
        intro w14 hq14 hg14
        replace hs := hs.type q13 hg14
        replace hbw := below_store hbw hg14 bhbw_13
        replace q13 := hq14
        clear hg14 hq14
        refine EL.nil ?_
        refine EX.seq ?_
        refine EC.seq ?_
        refine EC.region ?_
        refine EL.val (fa_122_3 rfl) rfl ?_
        refine EL.val (ld_3 rfl (q13.at (j := 3) rfl)) rfl ?_
        refine EL.val (x_gtr (r := false) rfl rfl (decide_eq_false (by omega))) rfl ?_
        refine EL.val (x_move rfl) rfl ?_
        refine EL.skip rfl rfl rfl rfl ?_
        refine EL.skip rfl rfl rfl rfl ?_
        refine EL.skip rfl rfl rfl rfl ?_
        refine EL.skip rfl rfl rfl rfl ?_
        refine EL.val (x_pick_f rfl rfl) rfl ?_
        refine EL.val (x_move rfl) rfl ?_
        refine EL.skip rfl rfl rfl rfl ?_
        refine EL.skip rfl rfl rfl rfl ?_
        refine EL.skip rfl rfl rfl rfl ?_
        refine EL.skip rfl rfl rfl rfl ?_
        refine EL.skip rfl rfl rfl rfl ?_
        refine EL.val (x_pick_f rfl rfl) rfl ?_
        refine EL.nil ?_
        refine EX.seq ?_
        refine EC.no rfl ?_
        refine EC.skip ?_
        refine EX.blk ?_
        refine EX.seq ?_
        refine EC.region ?_
        refine EL.val (x_add rfl rfl (c := ((x + 1 : Nat) : Int)) ((IntWalk.i64_in _ ⟨by first | omega | (simp only; omega), by first | omega | (simp only; omega)⟩).trans (by first | omega | (simp only; omega)))) rfl ?_
        refine EL.val (x_move rfl) rfl ?_
        refine EL.nil ?_
        refine EX.roundD (x + 1, f2, ag2, m2) ⟨rfl, rfl, trivial⟩ (by repeat first | with_reducible exact Sub.refl _ | refine sub_past rfl ?_ | exact Sub.refl _ | refine sub_del rfl ?_ | refine sub_insL_nil ?_) ⟨hlt, lk_keep hcl2 (fun h _ => absurd h hrm), hlk, hsk, hcm, hdec, hs, hbw⟩ (by simp only; omega)
    ·
      have hxe : x = L.length := by omega
      subst hxe
      refine EC.seq ?_
      refine EC.region ?_
      refine EL.val (x_lss rfl rfl (decide_eq_false (show ¬(((L.length : Nat) : Int) < ((L.length : Nat) : Int)) by omega))) rfl ?_
      refine EL.nil ?_
      refine EX.seq ?_
      refine EC.seq ?_
      refine EC.no rfl ?_
      refine EC.exit ?_
      refine EX.seq_exit ?_
      refine EX.seq_exit ?_
      refine EX.blk_here ?_
      refine EX.blk ?_
      refine EX.roundD (f2, ag2, m2) ⟨rfl, trivial⟩ (by repeat first | with_reducible exact Sub.refl _ | refine sub_past rfl ?_ | exact Sub.refl _ | refine sub_del rfl ?_ | refine sub_insL_nil ?_) ⟨hcl2, hlk, hsk, hcm, hs, hbw⟩ (by show 2 * cF 62 f2 + (if ag2 = true then 1 else 0) < 2 * cF 62 f + (if true = true then 1 else 0); rw [if_pos rfl]; cases ag2 <;> simp at hdec ⊢ <;> omega)
end Go.Proofs.Ytabgmnmpdjnjoaa
set_option linter.unusedVariables false
set_option linter.unusedSimpArgs false
namespace Go.Proofs.Ytabgmnmpdjnjoaa
section
variable {L : List Arc} {N : Nat} {R : Nat → Prop} {π init : Nat → Int} {s : BF}
theorem ends_ex (hA : ArcsOk L N) (hF : Feas L R π) (hinit : ∀ v, init v ≤ farI) {lo : Int} (hlo : ∀ v, v < N → R v → lo ≤ π v) : ∀ (m : Nat) (s : BF), msr lo s.l ≤ m → InvB L N R π init s → ∃ l b, EndsAt L s l b
  | m, s, hm, h => by
    rcases round_msr hA hF hinit hlo h with ⟨e, hx⟩ | ⟨h1, h2⟩
    · exact ⟨s.l, s.by_, 0, hx, rfl, rfl⟩
    · cases m with
      | zero => omega
      | succ m =>
        obtain ⟨l, b, k, hk, hl, hb⟩ := ends_ex hA hF hinit hlo m (bfRound L s) (by omega) (h.round hA hF hinit)
        have e : ∀ k, bfN L (bfRound L s) k = bfN L s (k + 1) := by
          intro k
          induction k with
          | zero => rfl
          | succ k ih => rw [bfN, ih]; rfl
        rw [e] at hk hl hb
        exact ⟨l, b, k + 1, hk, hl, hb⟩
end
/-- a lower bound of what is told of so many nodes -/
theorem min_of (f : Nat → Int) : ∀ N : Nat, ∃ lo : Int, ∀ v, v < N → lo ≤ f v
  | 0 => ⟨0, fun v h => absurd h (Nat.not_lt_zero _)⟩
  | N + 1 => by
    obtain ⟨lo, h⟩ := min_of f N
    refine ⟨min lo (f N), fun v hv => ?_⟩
    by_cases e : v = N
    · subst e; omega
    · have := h v (by omega); omega
section
variable {nt : Net} {L : List Arc}
/-- costs from everywhere: potentials with bounds -/
theorem St.pot0 (hv : netB nt = true) (h : St nt L) : ∃ d : Nat → Int, Feas L (fun _ => True) d ∧ ∀ v, v < nt.ports.length + 2 → -61000000 ≤ d v ∧ d v ≤ 0 := by
  obtain ⟨κ, hκ, hκ0⟩ := h.glob
  obtain ⟨⟨hp1, hp60⟩, _⟩ := netB_ok hv
  have hA := h.arcs hv
  obtain ⟨hi, hhi⟩ := min_of (fun v => -κ v) (nt.ports.length + 2)
  have hF : Feas L (fun v => v < nt.ports.length + 2) (fun v => κ v + hi) := ⟨fun i hiL hr _ => ⟨hA.to i hiL, by have := (hκ.step i hiL hr trivial).2; show κ _ + hi ≤ κ _ + hi + _; omega⟩⟩
  have hif : ∀ v : Nat, (fun _ : Nat => (0 : Int)) v ≤ farI := fun _ => by show (0 : Int) ≤ farI; decide
  have h0 : InvB L (nt.ports.length + 2) (fun v => v < nt.ports.length + 2) (fun v => κ v + hi) (fun _ => 0) (bf0 (nt.ports.length + 2) fun _ => 0) := inv0 (fun v hv' hR => absurd hv' hR) (fun v hv' _ => by have := hhi v hv'; show κ v + hi ≤ 0; omega)
  obtain ⟨l, b, hE⟩ := ends_ex hA hF hif (lo := hi) (fun v _ _ => by have := hκ0 v; show hi ≤ κ v + hi; omega) _ _ (Nat.le_refl _) h0
  have hI := hE.inv hA hF hif h0
  have hz : ∀ v, v < nt.ports.length + 2 → (fun _ : Nat => (0 : Int)) v < farI → (fun _ : Nat => (0 : Int)) v = 0 := fun _ _ _ => rfl
  have hle : ∀ v, v < nt.ports.length + 2 → l.getD v 0 ≤ 0 := fun v hv' => hI.le v hv'
  have hfe := hI.feas hA (by omega) hE.fixed hz
  refine ⟨fun v => l.getD v 0, ⟨fun i hiL hr _ => ⟨trivial, ?_⟩⟩, fun v hv' => ⟨?_, hle v hv'⟩⟩
  · exact (hfe.step i hiL hr (by have := hle _ (hA.fr i hiL); show l.getD _ 0 < farI; unfold farI; omega)).2
  · exact (hI.small hA (by omega) hE.fixed hz hv' (by have := hle v hv'; show l.getD v 0 < farI; unfold farI; omega)).1
/-! ### The prices -/
/-- from all ports that cannot get hulls -/
def initB (nt : Net) (l : List Int) (v : Nat) : Int := if v < nt.ports.length ∧ farI ≤ l.getD v 0 then 0 else farI
theorem initB_far {l : List Int} (v : Nat) : initB nt l v ≤ farI := by unfold initB farI; split <;> omega
theorem initB_nn {l : List Int} (v : Nat) : 0 ≤ initB nt l v := by unfold initB farI; split <;> omega
def priceOf (l l2 : List Int) (v : Nat) : Int := if farI ≤ l.getD v 0 then 2 * farI + l2.getD v 0 else l.getD v 0
def pricesL (nt : Net) (l l2 : List Int) : List Int := (List.range nt.ports.length).map (priceOf l l2)
/-- what prices are told -/
def PricesOf (nt : Net) (L : List Arc) (pr : List Int) : Prop :=
  ∃ l b l2, EndsAt L (bf0 (nt.ports.length + 2) (initS nt)) l b ∧ ((∃ v, v < nt.ports.length ∧ farI ≤ l.getD v 0) → ∃ b2, EndsAt L (bf0 (nt.ports.length + 2) (initB nt l)) l2 b2) ∧ pr = pricesL nt l l2
theorem PricesOf.one {pr pr' : List Int} (h : PricesOf nt L pr) (h' : PricesOf nt L pr') : pr = pr' := by
  obtain ⟨l, b, l2, h1, h2, rfl⟩ := h
  obtain ⟨l', b', l2', h1', h2', rfl⟩ := h'
  have e := (h1.one h1').1
  subst e
  unfold pricesL
  refine List.map_congr_left fun v hv => ?_
  have hv' := List.mem_range.1 hv
  unfold priceOf
  split
  · rename_i hf
    obtain ⟨b2, h3⟩ := h2 ⟨v, hv', hf⟩
    obtain ⟨b2', h3'⟩ := h2' ⟨v, hv', hf⟩
    rw [(h3.one h3').1]
  · rfl
end
/-- what is left of a map that is stored anew -/
def gOf (f : Nat → Option Int) (left : Nat → Bool) : Nat → Option Int := fun i => (f i).map fun c => if left i = true then c else 0
theorem gOf_start (f : Nat → Option Int) : gOf f (fun i => (f i).isSome) = f := by
  funext i
  unfold gOf
  cases h : f i with
  | none => rfl
  | some c => simp [h]
theorem gOf_some {f : Nat → Option Int} {left : Nat → Bool} {i : Nat} : (gOf f left i).isSome = (f i).isSome := by simp [gOf]
theorem gOf_put {f : Nat → Option Int} {left : Nat → Bool} {i : Nat} (h : (f i).isSome = true) : putM (gOf f left) i 0 = gOf f (fun j => left j && !Nat.beq j i) := by
  funext j
  unfold putM gOf
  by_cases e : j = i
  · subst e
    rw [if_pos rfl]
    cases h2 : f j with
    | none => rw [h2] at h; cases h
    | some c =>
      show some (0 : Int) = some (if (left j && !Nat.beq j j) = true then c else 0)
      rw [Nat.beq_refl]
      simp
  · have e2 : Nat.beq j i = false := by cases h : Nat.beq j i with | true => exact absurd (Nat.eq_of_beq_eq_true h) e | false => rfl
    rw [if_neg e]
    show _ = Option.map (fun c => if (left j && !Nat.beq j i) = true then c else 0) (f j)
    rw [e2]
    simp
/-- the costs with those of bare ports that have been laid -/
structure Laid (N : Nat) (l l2 : List Int) (f : Nat → Option Int) (left : Nat → Bool) (m : List Int) : Prop where
  len : m.length = N
  at_ : ∀ v, v < N → m.getD v 0 = if (f v).isSome = true ∧ left v = false then 2 * farI + l2.getD v 0 else l.getD v 0
theorem Laid.start {N : Nat} {l l2 : List Int} {f : Nat → Option Int} (hl : l.length = N) : Laid N l l2 f (fun i => (f i).isSome) l := ⟨hl, fun v _ => by
  split
  · rename_i h; rw [h.1] at h; cases h.2
  · rfl⟩
theorem Laid.step {N : Nat} {l l2 m : List Int} {f : Nat → Option Int} {left : Nat → Bool} {i : Nat} (h : Laid N l l2 f left m) (hi : i < N) (hf : (f i).isSome = true) : Laid N l l2 f (fun j => left j && !Nat.beq j i) (m.set i (2 * farI + l2.getD i 0)) := ⟨by rw [List.length_set]; exact h.len, fun v hv => by
  rw [getD_set (by rw [h.len]; exact hi)]
  by_cases e : v = i
  · subst e
    rw [if_pos rfl, if_pos ⟨hf, by rw [Nat.beq_refl]; simp⟩]
  · rw [if_neg e, h.at_ v hv, show Nat.beq v i = false from by cases h : Nat.beq v i with | true => exact absurd (Nat.eq_of_beq_eq_true h) e | false => rfl]
    simp⟩
end Go.Proofs.Ytabgmnmpdjnjoaa
set_option linter.unusedVariables false
set_option linter.unusedSimpArgs false
namespace Go
open Go.ChangeMaps Go.MapKept Go.WideShapes Go.WideElems
open Go.Maps (Keyed fit_store)
section
variable {H : Type} {P : Program} {k : TypeId} {R : Value → Option (DataW H × List MemPlace)} {w : World} {b r n : Nat} {D : DataW H} {left : Lit → Bool} {cnt : Nat}
/-- a store at a key that is there, into the map that is ranged over -/
theorem World.ranges.putYtabgmnmpdjnjoaa {t e : TypeId} (h : w.ranges P k R b r n D left cnt) (K : Keyed P k) (ht : P.underlying t = some (.map k e)) (hn : n < maxLen) {key val : Value} {kl : Lit} {d : DataW H} {ps : List MemPlace}
    (hkey : keyOf P k key = some kl) (hv : R val = some (d, ps)) (hhas : Maps.has D kl = true) : ∃ w', (Instr.mapUpdate t (.map (some b)) key val).run P w = .ok () w' ∧ w'.ranges P k R b r n (D.put kl d) left cnt ∧ w.grownBy w' (some b) := by
  have hne := h.ne
  obtain ⟨es, clock, since, seen, c0, hb, F, hs, rfl, hr, hold, rfl, hl1, hl2, hsc, hsk⟩ := h
  obtain ⟨es', clock', hrun, F', hput, _⟩ := fit_store (R' := R) K ht hb F (Nat.lt_of_le_of_lt hs hn) (fun _ _ _ _ hz => hz) hkey hv
  rcases K.find w hkey es.toList F.keys with ⟨h1, h2⟩ | ⟨j, e0, h1, h2, h3⟩
  · exfalso
    obtain ⟨p, hp, hpk⟩ := List.any_eq_true.1 hhas
    obtain ⟨x, hx, rfl⟩ := List.mem_map.1 (mem_sorted.1 hp)
    obtain ⟨y, hy⟩ := F.reads x hx
    have m1 := rd_key hy
    have e1 := WideAt.sameKey_eq hpk
    rw [rg_of hy] at e1
    rw [e1] at m1
    exact h2 x hx (K.inj m1 hkey)
  · have hj : es[j]? = some e0 := by simpa using h2
    have hrun2 : (Instr.mapUpdate t (.map (some b)) key val).run P w = .ok () (setBlock w b (.map (es.modify j (fun e' => { e' with key := key, val := val })) clock)) := by
      simp [Instr.mapUpdate, run_underlying ht, MapKept.run_getObj_map hb, K.check w false hkey, h1, hj, h3, K.stays w hkey, MapKept.run_setObj_map _ hb, Result.andThen, setBlock]
    have he : es' = es.modify j (fun e' => { e' with key := key, val := val }) ∧ clock' = clock := by
      rw [hrun] at hrun2
      injection hrun2 with _ e2
      have e3 := heap_setBlock_same hb (.map es' clock')
      rw [e2, heap_setBlock_same hb] at e3
      injection e3 with e3
      injection e3 with e4 e5
      exact ⟨e4.symm, e5.symm⟩
    obtain ⟨rfl, rfl⟩ := he
    have hlist : (es.modify j (fun e' => { e' with key := key, val := val })).toList = es.toList.set j { e0 with key := key, val := val } := by rw [Array.toList_modify, modify_eq_set _ _ _ _ h2]
    have hm0 : e0 ∈ es.toList := List.mem_of_getElem? h2
    have hjl : j < es.toList.length := (List.getElem?_eq_some_iff.1 h2).1
    have hk0 : (rg P k R e0).1 = kl := by
      obtain ⟨y, hy⟩ := F.reads e0 hm0
      have m1 := rd_key hy
      rw [h3, hkey] at m1
      rw [rg_of hy]
      exact (Option.some.inj m1).symm
    have hk1 : (rg P k R { e0 with key := key, val := val }).1 = kl := by rw [rg_of (rd_mk hkey hv)]
    have hborn : (es.toList.set j { e0 with key := key, val := val }).map (·.born) = es.toList.map (·.born) := by
      rw [List.map_set]
      apply List.ext_getElem?
      intro i
      rw [List.getElem?_set]
      split
      · rename_i e; subst e
        simp [h2]
        simp at hjl
        omega
      · rfl
    have hleft : ∀ a : Array MapEntry, (leftOf a seen).size = ((a.toList.map (·.born)).filter fun x => !seen.contains x).length := fun a => by
      unfold leftOf
      rw [← Array.length_toList, Array.toList_filter, List.filter_map, List.length_map]
      rfl
    refine ⟨_, hrun, ⟨_, _, since, seen, c0, heap_setBlock_same hb _, F', by simpa using hs, by rw [DataW.put_eq, hput], (heap_setBlock_other hb _ hne).trans hr, fun x hx => ?_, ?_, fun x hx => ?_, fun kl' hkl' => ?_, hsc, hsk⟩, ⟨rfl, rfl, rfl, by simp [setBlock], fun i _ hi => heap_setBlock_other hb _ (fun e => hi (by rw [e]))⟩⟩
    · rw [hlist] at hx
      rcases List.mem_or_eq_of_mem_set hx with hx | rfl
      · exact hold x hx
      · exact hold e0 hm0
    · rw [hleft, hleft, hlist, hborn]
    · rw [hlist] at hx
      rcases List.mem_or_eq_of_mem_set hx with hx | rfl
      · exact hl1 x hx
      · rw [hk1, ← hk0]; exact hl1 e0 hm0
    · obtain ⟨x, hx, hxk⟩ := hl2 kl' hkl'
      rw [hlist]
      obtain ⟨i, hi, ex⟩ := List.getElem_of_mem hx
      by_cases hij : i = j
      · subst hij
        rw [List.getElem?_eq_getElem hi, ex] at h2
        injection h2 with h2
        subst h2
        subst ex
        exact ⟨{ es.toList[i] with key := key, val := val }, List.mem_iff_getElem.2 ⟨i, by simpa using hi, by simp⟩, by rw [hk1, ← hxk, hk0]⟩
      · exact ⟨x, List.mem_iff_getElem.2 ⟨i, by simpa using hi, by rw [List.getElem_set, if_neg (fun e => hij e.symm)]; exact ex⟩, hxk⟩
end
end Go
namespace Go.Proofs.Ytabgmnmpdjnjoaa
open Go Go.RowKit Go.Maps
def agreeM (D : DataW Unit) (f : Nat → Option Int) : Prop := ∀ i : Nat, i < 64 → has D (.int .i64 i) = (f i).isSome ∧ D.atKey (.int .i64 i) (.lit (.int .i64 0)) = .lit (.int .i64 ((f i).getD 0))
def keysM (lf : Lit → Bool) : Prop := ∀ kl, lf kl = true → ∃ i : Nat, i < 64 ∧ kl = .int .i64 i
/-- block b is a map of at most n entries, all below 64, as f tells -/
def MapK (w : World) (b n : Nat) (f : Nat → Option Int) : Prop := ∃ D : DataW Unit, w.ownsMap Try.prog 3 (plainElem Try.prog 3) b n D ∧ IsMap D ∧ agreeM D f ∧ keysM (has D)
/-- the same, and block r ranges over it; left: what is still to come -/
def RangeAt (w : World) (b r n : Nat) (f : Nat → Option Int) (left : Nat → Bool) (cnt : Nat) : Prop :=
  ∃ (D : DataW Unit) (lf : Lit → Bool), w.ranges Try.prog 3 (plainElem Try.prog 3) b r n D lf cnt ∧ IsMap D ∧ agreeM D f ∧ keysM (has D) ∧ keysM lf ∧ ∀ i : Nat, i < 64 → lf (.int .i64 i) = left i
section
variable {w w' : World} {b r n cnt : Nat} {f : Nat → Option Int} {left : Nat → Bool}
theorem MapK.made (w : World) : MapK (w.alloc (.map #[] 0)) w.heap.size 0 fun _ => none :=
  ⟨.map [], World.ownsMap_made _ _ _ _, isMap_empty, fun _ _ => ⟨rfl, rfl⟩, fun kl h => by cases h⟩
theorem MapK.at_ (h : MapK w b n f) : MapAt w b n f := let ⟨D, h1, h2, h3, _⟩ := h; ⟨D, h1, h2, h3⟩
theorem MapK.kept {row : Option Nat} (h : MapK w b n f) (hg : w.grownBy w' row) (hne : some b ≠ row) : MapK w' b n f := let ⟨D, h1, h2⟩ := h; ⟨D, h1.kept hg hne, h2⟩
theorem MapK.lt (h : MapK w b n f) : b < w.heap.size := h.at_.lt
theorem MapK.below (h : MapK w b n f) (hb : Below w.heap.size w w') : MapK w' b n f :=
  h.kept (row := none) ⟨hb.os, hb.tape, hb.output, hb.size, fun k hk _ => hb.block k hk⟩ (by simp)
theorem MapK.grown {base e size m : Nat} {u : Value} {xs : List Value} (h : MapK w b n f) (hu : w.ownsRow base e size u m xs) (hg : w.grownBy w' u.ownBlock) : MapK w' b n f := h.kept hg fun e => by
  obtain ⟨es, clock, hm⟩ := h.at_.map
  obtain ⟨_, ⟨rfl, _⟩ | ⟨k, cap, cur, rfl, _, hk, _⟩⟩ := hu
  · cases e
  · have e1 : b = k := by simpa [Value.ownBlock] using e
    subst e1
    rw [hk] at hm
    cases hm
theorem RangeAt.map (h : RangeAt w b r n f left cnt) : MapK w b n f := let ⟨D, lf, h1, h2, h3, h4, _⟩ := h; ⟨D, h1.owns, h2, h3, h4⟩
theorem RangeAt.kept {row : Option Nat} (h : RangeAt w b r n f left cnt) (hg : w.grownBy w' row) (h1 : some b ≠ row) (h2 : some r ≠ row) : RangeAt w' b r n f left cnt := let ⟨D, lf, k1, k2⟩ := h; ⟨D, lf, k1.kept hg h1 h2, k2⟩
theorem RangeAt.lt (h : RangeAt w b r n f left cnt) : r < w.heap.size := let ⟨_, _, h1, _⟩ := h; h1.lt
theorem RangeAt.iter (h : RangeAt w b r n f left cnt) : ∃ m s seen c, w.heap[r]? = some (.mapIter m s seen c) := by
  obtain ⟨D, lf, ⟨es, clock, since, seen, c0, _, _, _, _, hr, _⟩, _⟩ := h
  exact ⟨_, _, _, _, hr⟩
theorem RangeAt.below (h : RangeAt w b r n f left cnt) (hb : Below w.heap.size w w') : RangeAt w' b r n f left cnt :=
  h.kept (row := none) ⟨hb.os, hb.tape, hb.output, hb.size, fun k hk _ => hb.block k hk⟩ (by simp) (by simp)
theorem RangeAt.ne_row {base e size m : Nat} {u : Value} {xs : List Value} (h : RangeAt w b r n f left cnt) (hu : w.ownsRow base e size u m xs) : some r ≠ u.ownBlock := fun e => by
  obtain ⟨m', s, seen, c, hm⟩ := h.iter
  obtain ⟨_, ⟨rfl, _⟩ | ⟨k, cap, cur, rfl, _, hk, _⟩⟩ := hu
  · cases e
  · have e1 : r = k := by simpa [Value.ownBlock] using e
    subst e1
    rw [hk] at hm
    cases hm
theorem RangeAt.grown {base e size m : Nat} {u : Value} {xs : List Value} (h : RangeAt w b r n f left cnt) (hu : w.ownsRow base e size u m xs) (hg : w.grownBy w' u.ownBlock) : RangeAt w' b r n f left cnt := h.kept hg (fun e => by
  obtain ⟨es, clock, hm⟩ := h.map.at_.map
  obtain ⟨_, ⟨rfl, _⟩ | ⟨k, cap, cur, rfl, _, hk, _⟩⟩ := hu
  · cases e
  · have e1 : b = k := by simpa [Value.ownBlock] using e
    subst e1
    rw [hk] at hm
    cases hm) (h.ne_row hu)
theorem own_iter {base e size m : Nat} {u : Value} {xs : List Value} (h : w.ownsRow base e size u m xs) (hs : RangeAt w b r n f left cnt) (hg : w.grownBy w' (some r)) : w'.ownsRow base e size u m xs := h.kept hg (by
  have := hs.ne_row h
  obtain ⟨_, ⟨rfl, _⟩ | ⟨k, cap, cur, rfl, _⟩⟩ := h
  · exact .inl rfl
  · exact .inr fun e => this e.symm)
theorem below_iter {B : Nat} (hg : w.grownBy w' (some r)) (h1 : B ≤ r) (h2 : B ≤ w.heap.size) : Below B w w' := (Below.refl _ _).grown hg h2 fun g hk => by injection hk with hk; omega
theorem MapK.len (h : MapK w b n f) : ∃ s : Nat, s ≤ n ∧ (0 < s ↔ ∃ i, i < 64 ∧ (f i).isSome = true) ∧ ∀ ty, (Builtin.len_ #[118] ty #[.map (some b)]).run Try.prog w = .ok (.int .i64 (s : Nat)) w := by
  obtain ⟨D, h1, ⟨es, rfl⟩, h3, h4⟩ := h
  refine ⟨size (.map es : DataW Unit), h1.size_le, ?_, fun ty => h1.len Try.underlying118 ty⟩
  constructor
  · intro hs
    cases es with
    | nil => exact absurd hs (Nat.lt_irrefl 0)
    | cons p es =>
      obtain ⟨es', e1, _, hk⟩ := h1.entries (int_keyed Try.underlying3)
      injection e1 with e1
      subst e1
      have hp : has (.map (p :: es) : DataW Unit) p.1 = true := by
        rw [has_eq, List.any_cons, WideAt.sameKey_self (hk p List.mem_cons_self), Bool.true_or]
      obtain ⟨i, hi, e2⟩ := h4 _ hp
      rw [e2] at hp
      exact ⟨i, hi, by rw [← (h3 i hi).1]; exact hp⟩
  · rintro ⟨i, hi, hf⟩
    rw [← (h3 i hi).1] at hf
    cases es with
    | nil => cases hf
    | cons p es => exact Nat.succ_pos _
end
section
variable {n : Nat} {L : List Oper} {Q : Exit → Act → World → Prop} {rest : List Oper} {σ : Sg} {w : World}
theorem run_putK {b m : Nat} {f : Nat → Option Int} (hs : MapK w b m f) (hm : m ≤ 1048576) {i : Nat} (hi : i < 64) {x : Int} (hx : (Lit.int .i64 x).wf = true) : ∃ w', (Instr.mapUpdate 118 (.map (some b)) (.int .i64 (i : Nat)) (.int .i64 x)).run Try.prog w = .ok () w' ∧ MapK w' b (m + 1) (putM f i x) ∧ w.grownBy w' (some b) := by
  obtain ⟨D, h1, h2, h3, h6⟩ := hs
  obtain ⟨w', hrun, h4, h5⟩ := h1.update (int_keyed Try.underlying3) Try.underlying118 (by simp only [maxLen]; omega) (keyOf_int_mk Try.underlying3 (key_wf hi)) (plainElem_int Try.underlying3 hx)
  refine ⟨w', hrun, ⟨_, h4, h2.put _ _, fun j hj => ?_, fun kl hkl => ?_⟩, h5⟩
  · by_cases hji : j = i
    · subst hji
      rw [atKey_put_same h2 (by simp [WideAt.IsKeyLit]), has_put_same h2 (by simp [WideAt.IsKeyLit]), putM, if_pos rfl]
      exact ⟨rfl, rfl⟩
    · rw [atKey_put_other (by simp; omega), has_put_other (by simp; omega), putM, if_neg hji]
      exact h3 j hj
  · by_cases hk : kl = .int .i64 i
    · exact ⟨i, hi, hk⟩
    · rw [has_put_other hk] at hkl
      exact h6 kl hkl
theorem EL.putK {ty : Nat} {b m i : Nat} {v : Int} {f : Nat → Option Int} {x y z : Operand} {pos : String} {af : Array Edge} (hx : evS σ x = some (.map (some b))) (hy : evS σ y = some (.int .i64 (i : Nat))) (hz : evS σ z = some (.int .i64 v)) (hs : MapK w b m f) (hm : m ≤ 1048576) (hi : i < 64) (hv : (Lit.int .i64 v).wf = true)
    (next : ∀ w', MapK w' b (m + 1) (putM f i v) → w.grownBy w' (some b) → EL Try.prog n L Q rest σ w') : EL Try.prog n L Q (⟨none, .mapUpdate 118 x y z, ty, pos, af, none⟩ :: rest) σ w := fun a ha => by
  obtain ⟨w', hrun, h1, h2⟩ := run_putK hs hm hi hv
  unfold wpList
  rw [if_pos (wanted_none rfl _)]
  left
  unfold Oper.wp
  have hr : (execOp a.eval ⟨none, .mapUpdate 118 x y z, ty, pos, af, none⟩).run Try.prog w = .ok .skip w' := by
    simp only [execOp, ha.eval hx, ha.eval hy, ha.eval hz]
    simp [hrun, Result.andThen]
  rw [hr, Oper.upon_skip]
  exact next w' h1 h2 a ha
theorem EL.newK {d ty : Nat} {pos : String} {af : Array Edge} (hd : Nat.blt d n = true)
    (next : ∀ b w', MapK w' b 0 (fun _ => none) → Below w.heap.size w w' → w.heap.size ≤ b → EL Try.prog n L Q rest (ins σ d (.map (some b))) w') : EL Try.prog n L Q (⟨some d, .makeMap 118 none, ty, pos, af, none⟩ :: rest) σ w := fun a ha =>
  wpL_run (wanted_none rfl _) (by simp only [execOp]; kernel_rfl) (next _ _ (MapK.made w) ((Below.refl _ _).alloc (Nat.le_refl _) _) (Nat.le_refl _) _ (ha.put hd _))
theorem x_lenK {b s : Nat} {dst : Option Tmp} {ty : TypeId} {pos : String} {af : Array Edge} {g : Option (Nat × Bool)} {x : Operand} (hx : evS σ x = some (.map (some b))) (hl : ∀ ty, (Builtin.len_ #[118] ty #[.map (some b)]).run Try.prog w = .ok (.int .i64 (s : Nat)) w) :
    Gives Try.prog n σ w ⟨dst, .call { callee := .builtin .len, args := #[x], argTypes := #[118] }, ty, pos, af, g⟩ (.int .i64 (s : Nat)) := fun a ha => by
  simp only [execOp, resolve, List.map_toArray, List.map_cons, List.map_nil, ha.eval hx]
  simp [go_sem, hl, Result.andThen]
theorem EL.rangeK {d ty b m : Nat} {f : Nat → Option Int} {x : Operand} {pos : String} {af : Array Edge} (hx : evS σ x = some (.map (some b))) (hd : Nat.blt d n = true) (hs : MapK w b m f)
    (next : ∀ r w' cnt, RangeAt w' b r m f (fun i => (f i).isSome) cnt → Below w.heap.size w w' → w.heap.size ≤ r → EL Try.prog n L Q rest (ins σ d (.pointer (some ⟨r, 0, none⟩))) w') : EL Try.prog n L Q (⟨some d, .range 118 x, ty, pos, af, none⟩ :: rest) σ w := fun a ha => by
  obtain ⟨D, h1, h2, h3, h4⟩ := hs
  obtain ⟨w', hrun, r1, r2, r3⟩ := h1.range (int_keyed Try.underlying3) Try.underlying118
  refine wpL_run (wanted_none rfl _) (v := .pointer (some ⟨w.heap.size, 0, none⟩)) (w' := w') ?_ (next _ w' _ ⟨D, _, r1, h2, h3, h4, h4, fun i hi => (h3 i hi).1⟩ ⟨r2.os, r2.tape, r2.output, r2.size, fun k hk => r2.block k hk (by simp)⟩ (Nat.le_refl _) _ (ha.put hd _))
  simp only [execOp, ha.eval hx]
  simp [hrun, Result.andThen]
theorem EL.nextK {d ty b r m cnt : Nat} {f : Nat → Option Int} {left : Nat → Bool} {x : Operand} {pos : String} {af : Array Edge} (hx : evS σ x = some (.pointer (some ⟨r, 0, none⟩))) (hd : Nat.blt d n = true) (hs : RangeAt w b r m f left cnt)
    (hdone : (∀ i, i < 64 → left i = false) → EL Try.prog n L Q rest (ins σ d (.tuple #[.bool false])) w)
    (hmore : ∀ (i : Nat) (c : Int) (w' : World) (cnt' : Nat), i < 64 → left i = true → f i = some c → RangeAt w' b r m f (fun j => left j && !Nat.beq j i) cnt' → cnt' < cnt → w.grownBy w' (some r) → w'.heap.size = w.heap.size → (Instr.entry (.pointer (some ⟨r, 0, none⟩))).run Try.prog w' = .ok (.tuple #[.int .i64 (i : Nat), .int .i64 c]) w' → EL Try.prog n L Q rest (ins σ d (.tuple #[.bool true, .int .i64 (i : Nat), .int .i64 c])) w') :
    EL Try.prog n L Q (⟨some d, .next x false, ty, pos, af, none⟩ :: rest) σ w := fun a ha => by
  obtain ⟨D, lf, h1, h2, h3, h4, h5, h6⟩ := hs
  rcases h1.next (int_keyed Try.underlying3) ty with ⟨h0, hl, hrun⟩ | ⟨key, v, kl, y, w', cnt', hkey, hlk, hv, hat, hrun, hrg, hlt, hgr, hsz, hen⟩
  · refine wpL_run (wanted_none rfl _) (v := .tuple #[.bool false]) (w' := w) ?_ (hdone (fun i hi => by rw [← h6 i hi]; exact hl _) _ (ha.put hd _))
    simp only [execOp, ha.eval hx]
    simp [hrun, Result.andThen]
  · obtain ⟨i, hi, rfl⟩ := h5 kl hlk
    obtain ⟨x', rfl, ex, _⟩ := Maps.keyOf_int_inv Try.underlying3 hkey
    injection ex with _ ex
    subst ex
    obtain ⟨c, rfl, rfl, hwc⟩ := plainElem_int_inv Try.underlying3 hv
    have hfi : f i = some c := by
      have h7 := (h3 i hi).1
      have h8 := (h3 i hi).2
      have h9 : has D (.int .i64 (i : Nat)) = true := by
        obtain ⟨es, clock, since, seen, c0, hb, F, hs, hD, hr, hold, hc, hl1, hl2, _⟩ := h1
        obtain ⟨x, hxm, hxk⟩ := hl2 _ hlk
        rw [hD]
        obtain ⟨y, hy⟩ := F.reads x hxm
        exact List.any_eq_true.2 ⟨_, mem_sorted.2 (List.mem_map.2 ⟨x, hxm, rfl⟩), by rw [hxk]; exact WideAt.sameKey_self (by simp [WideAt.IsKeyLit])⟩
      rw [hat] at h8
      rw [h9] at h7
      cases hf : f i with
      | none => rw [hf] at h7; cases h7
      | some c' =>
        rw [hf] at h8
        simp at h8
        rw [h8]
    refine wpL_run (wanted_none rfl _) (v := .tuple #[.bool true, .int .i64 (i : Nat), .int .i64 c]) (w' := w') ?_ (hmore i c w' cnt' hi (by rw [← h6 i hi]; exact hlk) hfi ⟨D, _, hrg, h2, h3, h4, fun kl hkl => h5 kl (by simp at hkl; exact hkl.1), fun j hj => ?_⟩ hlt hgr hsz hen _ (ha.put hd _))
    · simp only [execOp, ha.eval hx]
      simp [hrun, Result.andThen]
    · show (lf _ && !Lit.sameKey _ _) = _
      rw [h6 j hj]
      by_cases e : j = i
      · subst e; rw [WideAt.sameKey_self (by simp [WideAt.IsKeyLit])]; show _ = (left j && !Nat.beq j j); rw [Nat.beq_refl]
      · rw [sameKey_ne (by simp; omega)]; show _ = (left j && !Nat.beq j i); rw [show Nat.beq j i = false from by cases h : Nat.beq j i with | true => exact absurd (Nat.eq_of_beq_eq_true h) e | false => rfl]
theorem x_entry {r : Nat} {v : Value} {dst : Option Tmp} {ty : TypeId} {pos : String} {af : Array Edge} {g : Option (Nat × Bool)} {x : Operand} (hx : evS σ x = some (.pointer (some ⟨r, 0, none⟩))) (hen : (Instr.entry (.pointer (some ⟨r, 0, none⟩))).run Try.prog w = .ok v w) : Gives Try.prog n σ w ⟨dst, .entry x, ty, pos, af, g⟩ v := fun a ha => by
  simp only [execOp, ha.eval hx]
  simp [hen, Result.andThen]
theorem EL.putR {ty : Nat} {b r m i cnt : Nat} {v : Int} {f : Nat → Option Int} {left : Nat → Bool} {x y z : Operand} {pos : String} {af : Array Edge} (hx : evS σ x = some (.map (some b))) (hy : evS σ y = some (.int .i64 (i : Nat))) (hz : evS σ z = some (.int .i64 v)) (hs : RangeAt w b r m f left cnt) (hm : m ≤ 1048576) (hi : i < 64) (hf : (f i).isSome = true) (hv : (Lit.int .i64 v).wf = true)
    (next : ∀ w', RangeAt w' b r m (putM f i v) left cnt → w.grownBy w' (some b) → EL Try.prog n L Q rest σ w') : EL Try.prog n L Q (⟨none, .mapUpdate 118 x y z, ty, pos, af, none⟩ :: rest) σ w := fun a ha => by
  obtain ⟨D, lf, h1, h2, h3, h4, h5, h6⟩ := hs
  obtain ⟨w', hrun, k1, k2⟩ := h1.putYtabgmnmpdjnjoaa (int_keyed Try.underlying3) Try.underlying118 (by simp only [maxLen]; omega) (keyOf_int_mk Try.underlying3 (key_wf hi)) (plainElem_int Try.underlying3 hv) (by rw [(h3 i hi).1]; exact hf)
  unfold wpList
  rw [if_pos (wanted_none rfl _)]
  left
  unfold Oper.wp
  have hr : (execOp a.eval ⟨none, .mapUpdate 118 x y z, ty, pos, af, none⟩).run Try.prog w = .ok .skip w' := by
    simp only [execOp, ha.eval hx, ha.eval hy, ha.eval hz]
    simp [hrun, Result.andThen]
  rw [hr, Oper.upon_skip]
  refine next w' ⟨_, lf, k1, h2.put _ _, fun j hj => ?_, fun kl hkl => ?_, h5, h6⟩ k2 a ha
  · by_cases hji : j = i
    · subst hji
      rw [atKey_put_same h2 (by simp [WideAt.IsKeyLit]), has_put_same h2 (by simp [WideAt.IsKeyLit]), putM, if_pos rfl]
      exact ⟨rfl, rfl⟩
    · rw [atKey_put_other (by simp; omega), has_put_other (by simp; omega), putM, if_neg hji]
      exact h3 j hj
  · by_cases hk : kl = .int .i64 i
    · exact ⟨i, hi, hk⟩
    · rw [has_put_other hk] at hkl
      exact h4 kl hkl
end
end Go.Proofs.Ytabgmnmpdjnjoaa
set_option linter.unusedVariables false
set_option linter.unusedSimpArgs false
namespace Go.Proofs.Ytabgmnmpdjnjoaa
open Go Go.RowKit
section
variable {n : Nat} {σ : Sg} {w : World} {dst : Option Tmp} {ty : TypeId} {pos : String} {af : Array Edge} {g : Option (Nat × Bool)} {x y z : Operand} {at' : Array TypeId}
theorem slh_29 {b o m c hi : Nat} (hx : evS σ x = some (.slice (some ⟨b, o, none⟩) m c)) (hh : evS σ y = some (.int .i64 (hi : Int))) (h2 : hi ≤ c) : Gives Try.prog n σ w ⟨dst, .slice 29 x none (some y) none, ty, pos, af, g⟩ (.slice (some ⟨b, o, none⟩) hi c) := fun a ha => by
  have k1 : (0 : Int) ≤ (hi : Int) := Int.natCast_nonneg _
  have k3 : (hi : Int) ≤ (c : Int) := by omega
  simp only [execOp, Option.map_some, Option.map_none, ha.eval hx, ha.eval hh]
  by_cases e : c = 0
  · subst e; obtain rfl : hi = 0 := by omega
    simp [go_sem]
  · simp [go_sem, k1, k3, h2, e]
end
end Go.Proofs.Ytabgmnmpdjnjoaa
set_option linter.unusedVariables false
set_option linter.unusedSimpArgs false
namespace Go.Proofs.Ytabgmnmpdjnjoaa
open Go Go.RowKit
theorem bare_put {l : List Int} {x : Nat} (hf : farI ≤ l.getD x 0) : putM (fun i => if i < x ∧ farI ≤ l.getD i 0 then some farI else none) x farI = (fun i => if i < x + 1 ∧ farI ≤ l.getD i 0 then some farI else none) := funext fun i => by
  unfold putM
  by_cases e : i = x
  · subst e
    rw [if_pos rfl, if_pos ⟨by omega, hf⟩]
  · rw [if_neg e]
    by_cases e2 : i < x ∧ farI ≤ l.getD i 0
    · show ite _ _ _ = ite _ _ _; rw [if_pos e2, if_pos ⟨by omega, e2.2⟩]
    · show ite _ _ _ = ite _ _ _; rw [if_neg e2, if_neg (fun e3 => e2 ⟨by omega, e3.2⟩)]
theorem bare_keep {l : List Int} {x : Nat} (hf : ¬farI ≤ l.getD x 0) : (fun i => if i < x ∧ farI ≤ l.getD i 0 then some farI else none) = (fun i => if i < x + 1 ∧ farI ≤ l.getD i 0 then some farI else none) := funext fun i => by
  by_cases e : i = x
  · subst e
    show ite _ _ _ = ite _ _ _
    rw [if_neg (fun h => hf h.2), if_neg (fun h => hf h.2)]
  · by_cases e2 : i < x ∧ farI ≤ l.getD i 0
    · show ite _ _ _ = ite _ _ _; rw [if_pos e2, if_pos ⟨by omega, e2.2⟩]
    · show ite _ _ _ = ite _ _ _; rw [if_neg e2, if_neg (fun e3 => e2 ⟨by omega, e3.2⟩)]
section
variable {nt : Net} {l l2 m : List Int} {bf fz : Nat → Option Int} {lf lf2 : Nat → Bool}
theorem bare_some {v : Nat} (ebf : bf = (fun i => if i < nt.ports.length ∧ farI ≤ l.getD i 0 then some farI else none)) (h1 : v < nt.ports.length) (h2 : farI ≤ l.getD v 0) (hp : nt.ports.length ≤ 60) : ∃ i, i < 64 ∧ (bf i).isSome = true := ⟨v, by omega, by rw [ebf]; show Option.isSome (if _ then _ else _) = true; rw [if_pos ⟨h1, h2⟩]; rfl⟩
theorem bare_init (ebf : bf = (fun i => if i < nt.ports.length ∧ farI ≤ l.getD i 0 then some farI else none)) (hn : ∀ i, i < 64 → lf i = false) (hp : nt.ports.length ≤ 60) (v : Nat) : initB nt l v = (gOf bf lf v).getD farI := by
  subst ebf
  unfold initB gOf
  by_cases e : v < nt.ports.length ∧ farI ≤ l.getD v 0
  · simp only [if_pos e, Option.map_some, Option.getD_some]
    rw [hn v (by omega)]
    rfl
  · simp only [if_neg e, Option.map_none, Option.getD_none]
theorem prices_none (hl : l.length = nt.ports.length + 2) (h : ∀ v, v < nt.ports.length → farI ≤ l.getD v 0 → False) : l.take nt.ports.length = pricesL nt l l2 := by
  apply List.ext_getElem?
  intro i
  unfold pricesL
  rw [List.getElem?_take, List.getElem?_map]
  by_cases e : i < nt.ports.length
  · rw [if_pos e, List.getElem?_range e]
    show l[i]? = some (priceOf l l2 i)
    unfold priceOf
    rw [if_neg (h i e)]
    simp [List.getD, show i < l.length by omega]
  · rw [if_neg e, List.getElem?_eq_none (by simp; omega)]
    rfl
theorem prices_laid (h : Laid (nt.ports.length + 2) l l2 fz lf2 m) (hn : ∀ i, i < 64 → lf2 i = false) (hp : nt.ports.length ≤ 60) (hf : ∀ v, v < nt.ports.length → ((fz v).isSome = true ↔ farI ≤ l.getD v 0)) : m.take nt.ports.length = pricesL nt l l2 := by
  apply List.ext_getElem?
  intro i
  unfold pricesL
  rw [List.getElem?_take, List.getElem?_map]
  by_cases e : i < nt.ports.length
  · rw [if_pos e, List.getElem?_range e]
    have h1 := h.at_ i (by omega)
    have h2 : m[i]? = some (m.getD i 0) := by simp [List.getD, show i < m.length by rw [h.len]; omega]
    rw [h2, h1]
    show some _ = some (priceOf l l2 i)
    unfold priceOf
    rw [hn i (by omega)]
    by_cases e2 : farI ≤ l.getD i 0
    · rw [if_pos ⟨(hf i e).2 e2, rfl⟩, if_pos e2]
    · rw [if_neg (fun h => e2 ((hf i e).1 h.1)), if_neg e2]
  · rw [if_neg e, List.getElem?_eq_none (by simp; omega)]
    rfl
theorem bare_iff (ebf : bf = (fun i => if i < nt.ports.length ∧ farI ≤ l.getD i 0 then some farI else none)) (efz : fz = gOf bf lf) (v : Nat) (hv : v < nt.ports.length) : (fz v).isSome = true ↔ farI ≤ l.getD v 0 := by
  subst efz
  subst ebf
  rw [gOf_some]
  show Option.isSome (if _ then _ else _) = true ↔ _
  by_cases e : farI ≤ l.getD v 0
  · rw [if_pos ⟨hv, e⟩]; exact ⟨fun _ => e, fun _ => rfl⟩
  · rw [if_neg (fun h => e h.2)]; exact ⟨fun h => (by cases h), fun h => absurd h e⟩
theorem bare_lt {i : Nat} {c : Int} (ebf : bf = (fun i => if i < nt.ports.length ∧ farI ≤ l.getD i 0 then some farI else none)) (efz : fz = gOf bf lf) (h : fz i = some c) : i < nt.ports.length := by
  subst efz
  subst ebf
  rcases Nat.lt_or_ge i nt.ports.length with h1 | h1
  · exact h1
  · unfold gOf at h
    have h : Option.map _ (ite _ _ _) = _ := h
    rw [if_neg (fun h => by omega)] at h
    cases h
theorem gOf_back {i : Nat} {c : Int} (h : gOf bf lf i = some c) : (bf i).isSome = true := by
  rw [← gOf_some (left := lf), h]
  rfl
theorem take_ints {k : Nat} : (ints l).take k = ints (l.take k) := by simp [ints, List.map_take]
theorem rd_prefix {w : World} {B n m c : Nat} {A : Option Addr} {xs : List Value} (h : Rd w B 1 (.slice A n c) n xs) (hm : m ≤ n) : Rd w B 1 (.slice A m c) m (xs.take m) := by
  obtain ⟨hl, A', c', e, hc, hk⟩ := h
  cases e
  refine ⟨by rw [List.length_take]; omega, A, c, rfl, by omega, fun h0 => ?_⟩
  obtain ⟨b, off, h1, h2, h3⟩ := hk (by omega)
  refine ⟨b, off, h1, h2, fun j u hj => h3 j u ?_⟩
  rw [List.getElem?_take] at hj
  split at hj
  · exact hj
  · cases hj
end
set_option maxHeartbeats 1000000 in
theorem prices_any {nt : Net} {e1 va : Value} (hv : netB nt = true) (L : List Arc) (g : Nat) (w : World) (B : Nat) (hst : St nt L) (hq : Blk w g 114 #[.int .i64 (nt.ports.length : Nat), e1, va]) (hrL : Rd w B 4 va L.length (arcsC L)) (hB : B ≤ w.heap.size) :
    Calls Try.prog 41 #[.pointer (some ⟨g, 0, none⟩)] w fun e w' => (∃ v pr, e = .returned v ∧ PricesOf nt L pr ∧ Rd w' w'.heap.size 1 v nt.ports.length (ints pr)) ∧ Below w.heap.size w w' := by
  obtain ⟨⟨hp1, hp60⟩, hw300, hvp, hvw⟩ := netB_ok hv
  have hA := hst.arcs hv
  obtain ⟨R, π, hF, hRs, hπ0, hbd⟩ := hst.pot
  have hL : L.length ≤ 1048576 := by rw [hst.good.len, openL_len]; omega
  have hbw := Below.refl w.heap.size w
  refine EC.enter 71 Try.func41 rfl rfl rfl ?_
  refine EC.seq ?_
  refine EC.region ?_
  refine EL.val (x_assign rfl) rfl ?_
  refine EL.nil ?_
  refine EX.seq ?_
  refine EC.seq ?_
  refine EC.region ?_
  refine EL.val (x_move rfl) rfl ?_
  refine EL.newMap rfl ?_
  intro mb w1 hm1 hb1 hmb
  have hmw := Nat.le_trans hbw.size hmb
  replace hbw := Below.on hbw hb1 hbw.size
  clear hb1
  refine EL.val (x_move rfl) rfl ?_
  refine EL.call (cl_66 rfl) rfl (source_any _ _ (hq.below hbw hq.lt) (by omega)) ?_
  rintro e w2 ⟨rfl, hc2⟩
  refine ⟨_, rfl, ?_⟩
  replace hm1 := hm1.below hc2
  replace hbw := Below.on hbw hc2 hbw.size
  clear hc2
  refine EL.insMap rfl rfl rfl hm1 (by omega) (by omega) (by decide) ?_
  intro w3 hm2 hg3
  replace hbw := hbw.trans (below_set hg3 hmw hbw.size)
  clear hm1 hg3
  refine EL.val (x_move rfl) rfl ?_
  refine EL.call (cl_68 rfl rfl) rfl (costs_any (lo := 0) (init := initS nt) L g _ _ (hq.below hbw hq.lt) (hrL.below (hbw.mono hB)) hp60 hL hA hF hm2 initS_map initS_far (fun v _ hR => initS_out hRs hR) (fun v _ hR => initS_low hπ0 (hbd v hR).2) (fun v _ hR => (hbd v hR).1) (by omega)) ?_
  rintro e w4 ⟨⟨vl, vb, l, bb, rfl, hE, hI, hol, _, _⟩, hc4⟩
  refine ⟨_, rfl, ?_⟩
  replace hol := own_less hol hbw.size
  replace hbw := Below.on hbw hc4 hbw.size
  clear hm2
  clear hc4
  obtain ⟨Al, cl, rfl, _⟩ := (Rd.of_own hol).shape
  obtain ⟨gl, rfl⟩ := own_ptr hol (by omega)
  have hgl : w.heap.size ≤ gl := (hol.lt gl rfl).1
  have hll : l.length = nt.ports.length + 2 := hI.ll
  refine EL.val (x_move rfl) rfl ?_
  refine EL.val (x_extract rfl rfl) rfl ?_
  refine EL.val (x_extract rfl rfl) rfl ?_
  refine EL.val (x_assign rfl) rfl ?_
  refine EL.nil ?_
  refine EX.seq ?_
  refine EC.seq ?_
  refine EC.region ?_
  refine EL.newK rfl ?_
  intro kb w5 hK hb5 hkb
  have hkw := Nat.le_trans hbw.size hkb
  replace hol := own_below hol hb5 (Nat.le_refl _)
  replace hbw := Below.on hbw hb5 hbw.size
  clear hb5
  refine EL.val (x_assign rfl) rfl ?_
  refine EL.nil ?_
  refine EX.seq ?_
  refine EC.seq ?_
  refine EC.seq ?_
  refine EC.region ?_
  refine EL.val (x_move rfl) rfl ?_
  refine EL.val (x_nilCheck rfl) rfl ?_
  refine EL.val (fa_114_0 rfl) rfl ?_
  refine EL.val (ld_3 rfl (below_load hbw (hq.at (j := 0) rfl))) rfl ?_
  refine EL.val (x_move rfl) rfl ?_
  refine EL.nil ?_
  refine EX.seq ?_
  refine EC.block ?_
  refine EC.loopD [4, 23, 24, 25, 26, 27, 28, 29, 30, 31, 32, 33] (fun x : Nat × Nat => [(23, .int .i64 (x.1 : Nat))]) (fun x W => x.1 ≤ nt.ports.length ∧ x.2 ≤ x.1 ∧ MapK W kb x.2 (fun i => if i < x.1 ∧ farI ≤ l.getD i 0 then some farI else none) ∧ W.ownsRow w.heap.size 3 1 (.slice (some ⟨gl, 0, none⟩) (nt.ports.length + 2) cl) (nt.ports.length + 2) (ints l) ∧ Below w.heap.size w W) (fun x => nt.ports.length - x.1) (0, 0) ⟨Nat.zero_le _, Nat.le_refl _, by rw [show (fun i => if i < 0 ∧ farI ≤ l.getD i 0 then some farI else none) = fun _ => none from funext fun i => if_neg (by omega)]; exact hK, hol, hbw⟩ ⟨rfl, trivial⟩ ?_
  clear hK hol hbw
  rintro ⟨x, m⟩ wx ⟨hx, hm, hK, hol, hbw⟩
  dsimp only at hx hm hK
  by_cases hlt : x < nt.ports.length
  ·
    have cl_ := own_int_cell hol (k := x) (by omega)
    by_cases hf : farI ≤ l.getD x 0
    ·
      have hfx : putM (fun i => if i < x ∧ farI ≤ l.getD i 0 then some farI else none) x farI = (fun i => if i < x + 1 ∧ farI ≤ l.getD i 0 then some farI else none) := bare_put hf
      refine EC.seq ?_
      refine EC.region ?_
      refine EL.val (x_lss rfl rfl (decide_eq_true (show (((x : Nat) : Int) < ((nt.ports.length : Nat) : Int)) by omega))) rfl ?_
      refine EL.nil ?_
      refine EX.seq ?_
      refine EC.seq ?_
      refine EC.yes rfl ?_
      refine EC.skip ?_
      refine EX.seq ?_
      refine EC.seq ?_
      refine EC.block ?_
      refine EC.seq ?_
      refine EC.region ?_
      refine EL.val (x_move rfl) rfl ?_
      refine EL.val (x_assign rfl) rfl ?_
      refine EL.nil ?_
      refine EX.seq ?_
      refine EC.seq ?_
      refine EC.region ?_
      refine EL.val (x_move rfl) rfl ?_
      refine EL.val (x_move rfl) rfl ?_
      refine EL.val (ix_29 rfl rfl (show x < nt.ports.length + 2 by omega)) rfl ?_
      refine EL.val (ld_3 rfl cl_) rfl ?_
      refine EL.val (x_geq (r := true) rfl rfl (decide_eq_true hf)) rfl ?_
      refine EL.nil ?_
      refine EX.seq ?_
      refine EC.yes rfl ?_
      refine EC.region ?_
      refine EL.val (x_move rfl) rfl ?_
      refine EL.val (x_move rfl) rfl ?_
      refine EL.putK rfl rfl rfl hK (by omega) (by omega) (by decide) ?_
      intro w6 hK2 hg6
      replace hol := own_map hol hK.at_ hg6
      replace hbw := hbw.trans (below_set hg6 hkw hbw.size)
      clear hK hg6
      refine EL.nil ?_
      refine EX.blk ?_
      refine EX.seq ?_
      refine EC.region ?_
      refine EL.val (x_add rfl rfl (c := ((x + 1 : Nat) : Int)) ((IntWalk.i64_in _ ⟨by first | omega | (simp only; omega), by first | omega | (simp only; omega)⟩).trans (by first | omega | (simp only; omega)))) rfl ?_
      refine EL.val (x_move rfl) rfl ?_
      refine EL.nil ?_
      refine EX.roundD (x + 1, m + 1) ⟨rfl, trivial⟩ (by repeat first | with_reducible exact Sub.refl _ | refine sub_past rfl ?_ | exact Sub.refl _ | refine sub_del rfl ?_ | refine sub_insL_nil ?_) ⟨hlt, by show m + 1 ≤ x + 1; omega, by show MapK _ _ _ (fun i => if i < x + 1 ∧ farI ≤ l.getD i 0 then some farI else none); rw [← hfx]; exact hK2, hol, hbw⟩ (by simp only; omega)
    ·
      have hfx : (fun i => if i < x ∧ farI ≤ l.getD i 0 then some farI else none) = (fun i => if i < x + 1 ∧ farI ≤ l.getD i 0 then some farI else none) := bare_keep hf
      refine EC.seq ?_
      refine EC.region ?_
      refine EL.val (x_lss rfl rfl (decide_eq_true (show (((x : Nat) : Int) < ((nt.ports.length : Nat) : Int)) by omega))) rfl ?_
      refine EL.nil ?_
      refine EX.seq ?_
      refine EC.seq ?_
      refine EC.yes rfl ?_
      refine EC.skip ?_
      refine EX.seq ?_
      refine EC.seq ?_
      refine EC.block ?_
      refine EC.seq ?_
      refine EC.region ?_
      refine EL.val (x_move rfl) rfl ?_
      refine EL.val (x_assign rfl) rfl ?_
      refine EL.nil ?_
      refine EX.seq ?_
      refine EC.seq ?_
      refine EC.region ?_
      refine EL.val (x_move rfl) rfl ?_
      refine EL.val (x_move rfl) rfl ?_
      refine EL.val (ix_29 rfl rfl (show x < nt.ports.length + 2 by omega)) rfl ?_
      refine EL.val (ld_3 rfl cl_) rfl ?_
      refine EL.val (x_geq (r := false) rfl rfl (decide_eq_false hf)) rfl ?_
      refine EL.nil ?_
      refine EX.seq ?_
      refine EC.no rfl ?_
      refine EC.skip ?_
      refine EX.blk ?_
      refine EX.seq ?_
      refine EC.region ?_
      refine EL.val (x_add rfl rfl (c := ((x + 1 : Nat) : Int)) ((IntWalk.i64_in _ ⟨by first | omega | (simp only; omega), by first | omega | (simp only; omega)⟩).trans (by first | omega | (simp only; omega)))) rfl ?_
      refine EL.val (x_move rfl) rfl ?_
      refine EL.nil ?_
      refine EX.roundD (x + 1, m) ⟨rfl, trivial⟩ (by repeat first | with_reducible exact Sub.refl _ | refine sub_past rfl ?_ | exact Sub.refl _ | refine sub_del rfl ?_ | refine sub_insL_nil ?_) ⟨hlt, by show m ≤ x + 1; omega, by show MapK _ _ _ (fun i => if i < x + 1 ∧ farI ≤ l.getD i 0 then some farI else none); rw [← hfx]; exact hK, hol, hbw⟩ (by simp only; omega)
  ·
    have hxe : x = nt.ports.length := by omega
    subst hxe
    obtain ⟨bf, ebf⟩ : ∃ z, z = (fun i => if i < nt.ports.length ∧ farI ≤ l.getD i 0 then some farI else none) := ⟨_, rfl⟩
    rw [← ebf] at hK
    refine EC.seq ?_
    refine EC.region ?_
    refine EL.val (x_lss rfl rfl (decide_eq_false (show ¬(((nt.ports.length : Nat) : Int) < ((nt.ports.length : Nat) : Int)) by omega))) rfl ?_
    refine EL.nil ?_
    refine EX.seq ?_
    refine EC.seq ?_
    refine EC.no rfl ?_
    refine EC.exit ?_
    refine EX.seq_exit ?_
    refine EX.seq_exit ?_
    refine EX.blk_here ?_
    refine EX.seq ?_
    refine EC.seq ?_
    refine EC.seq ?_
    refine EC.region ?_
    refine EL.val (x_move rfl) rfl ?_
    obtain ⟨sz, hszm, hsz, hlen⟩ := hK.len
    refine EL.val (x_lenK rfl hlen) rfl ?_
    by_cases hs0 : 0 < sz
    ·
      have hbare := hsz.1 hs0
      refine EL.val (x_gtr (r := true) rfl rfl (decide_eq_true (by omega))) rfl ?_
      refine EL.nil ?_
      refine EX.seq ?_
      refine EC.yes rfl ?_
      refine EC.seq ?_
      refine EC.seq ?_
      refine EC.region ?_
      refine EL.val (x_move rfl) rfl ?_
      refine EL.rangeK rfl rfl hK ?_
      intro r1 w7 cnt0 hR hb7 hr7
      have hrw := Nat.le_trans hbw.size hr7
      clear hK
      replace hol := own_below hol hb7 (Nat.le_refl _)
      replace hbw := Below.on hbw hb7 hbw.size
      clear hb7 hr7
      refine EL.nil ?_
      refine EX.seq ?_
      refine EC.block ?_
      refine EC.loopD [5, 39, 40, 41, 42, 43, 44] (fun x : (Nat → Bool) × Nat => []) (fun x W => RangeAt W kb r1 m (gOf bf x.1) x.1 x.2 ∧ (∀ i, i < 64 → x.1 i = true → (bf i).isSome = true) ∧ W.ownsRow w.heap.size 3 1 (.slice (some ⟨gl, 0, none⟩) (nt.ports.length + 2) cl) (nt.ports.length + 2) (ints l) ∧ Below w.heap.size w W) (fun x => x.2) (fun i => (bf i).isSome, cnt0) ⟨by rw [gOf_start]; exact hR, fun _ _ h => h, hol, hbw⟩ trivial ?_
      clear hR hol hbw
      rintro ⟨lf, cnt⟩ wx ⟨hR, hlf, hol, hbw⟩
      dsimp only at hR hlf
      refine EC.seq ?_
      refine EC.region ?_
      refine EL.nextK rfl rfl hR ?_ ?_
      ·
        intro hnone
        refine EL.val (x_extract rfl rfl) rfl ?_
        refine EL.nil ?_
        refine EX.seq ?_
        refine EC.seq ?_
        refine EC.no rfl ?_
        refine EC.exit ?_
        refine EX.seq_exit ?_
        refine EX.seq_exit ?_
        refine EX.blk_here ?_
        refine EX.seq ?_
        refine EC.seq ?_
        refine EC.region ?_
        refine EL.val (x_move rfl) rfl ?_
        refine EL.val (x_move rfl) rfl ?_
        have hK := hR.map
        obtain ⟨d0, hd0, hdb⟩ := hst.pot0 hv
        have hglt := (hol.lt gl rfl).2
        refine EL.call (cl_68 rfl rfl) rfl (costs_any (R := fun v => v < nt.ports.length + 2) (π := d0) (lo := -61000000) (init := initB nt l) L g _ _ (hq.below hbw hq.lt) (hrL.below (hbw.mono hB)) hp60 hL hA ⟨fun i hi hr _ => ⟨hA.to i hi, (hd0.step i hi hr trivial).2⟩⟩ hK.at_ (bare_init ebf hnone hp60) initB_far (fun v hv' hR => absurd hv' hR) (fun v hv' _ => by have := (hdb v hv').2; have := initB_nn (nt := nt) (l := l) v; omega) (fun v hv' _ => (hdb v hv').1) (by omega)) ?_
        rintro e w9 ⟨⟨vl2, vb2, l2, bb2, rfl, hE2, hI2, hos, _, _⟩, hc9⟩
        refine ⟨_, rfl, ?_⟩
        clear hR
        obtain ⟨As, cs, rfl, _⟩ := (Rd.of_own hos).shape
        obtain ⟨gs, rfl⟩ := own_ptr hos (by omega)
        have hgs : gs ≠ gl := Nat.ne_of_gt (Nat.lt_of_lt_of_le hglt (hos.lt gs rfl).1)
        replace hos := own_less hos hbw.size
        replace hK := hK.below hc9
        replace hol := own_below hol hc9 (Nat.le_refl _)
        replace hbw := Below.on hbw hc9 hbw.size
        clear hc9 hglt
        have hl2 : l2.length = nt.ports.length + 2 := hI2.ll
        have hsm : ∀ v, v < nt.ports.length → -61000000 ≤ l2.getD v 0 ∧ l2.getD v 0 ≤ 120000000 := fun v hv' => ⟨Int.le_trans (hdb v (by omega)).1 (hI2.low v (by omega) (by omega)), Int.le_trans (hI2.le v (by omega)) (initB_far v)⟩
        obtain ⟨fz, efz⟩ : ∃ z, z = gOf bf lf := ⟨_, rfl⟩
        have hK0 := hK
        rw [← efz] at hK0
        clear hK
        refine EL.val (x_move rfl) rfl ?_
        refine EL.val (x_extract rfl rfl) rfl ?_
        refine EL.val (x_extract rfl rfl) rfl ?_
        refine EL.val (x_assign rfl) rfl ?_
        refine EL.val (x_assign rfl) rfl ?_
        refine EL.nil ?_
        refine EX.seq ?_
        refine EC.seq ?_
        refine EC.region ?_
        refine EL.val (x_move rfl) rfl ?_
        refine EL.rangeK rfl rfl hK0 ?_
        intro r2 w10 cnt0 hR hb10 hr10
        have hrw := Nat.le_trans hbw.size hr10
        clear hK0
        replace hol := own_below hol hb10 (Nat.le_refl _)
        replace hos := own_below hos hb10 (Nat.le_refl _)
        replace hbw := Below.on hbw hb10 hbw.size
        clear hb10 hr10
        refine EL.nil ?_
        refine EX.seq ?_
        refine EC.block ?_
        refine EC.loopD [8, 53, 54, 55, 56, 57, 58, 59, 60, 61, 62, 63, 64] (fun x : (Nat → Bool) × Nat × List Int => []) (fun x W => RangeAt W kb r2 m fz x.1 x.2.1 ∧ Laid (nt.ports.length + 2) l l2 fz x.1 x.2.2 ∧ W.ownsRow w.heap.size 3 1 (.slice (some ⟨gl, 0, none⟩) (nt.ports.length + 2) cl) (nt.ports.length + 2) (ints x.2.2) ∧ W.ownsRow w.heap.size 3 1 (.slice (some ⟨gs, 0, none⟩) (nt.ports.length + 2) cs) (nt.ports.length + 2) (ints l2) ∧ Below w.heap.size w W) (fun x => x.2.1) (fun i => (fz i).isSome, cnt0, l) ⟨hR, Laid.start hll, hol, hos, hbw⟩ trivial ?_
        clear hR hol hos hbw
        rintro ⟨lf2, cnt, lm⟩ wx ⟨hR, hlay, hol, hos, hbw⟩
        dsimp only at hR hlay hol
        have hlm := hlay.len
        refine EC.seq ?_
        refine EC.region ?_
        refine EL.nextK rfl rfl hR ?_ ?_
        ·
          intro hnone
          refine EL.val (x_extract rfl rfl) rfl ?_
          refine EL.nil ?_
          refine EX.seq ?_
          refine EC.seq ?_
          refine EC.no rfl ?_
          refine EC.exit ?_
          refine EX.seq_exit ?_
          refine EX.seq_exit ?_
          refine EX.blk_here ?_
          refine EX.seq ?_
          refine EC.seq ?_
          refine EC.region ?_
          refine EL.val (x_move rfl) rfl ?_
          refine EL.val (x_move rfl) rfl ?_
          refine EL.val (x_nilCheck rfl) rfl ?_
          refine EL.val (fa_114_0 rfl) rfl ?_
          refine EL.val (ld_3 rfl (below_load hbw (hq.at (j := 0) rfl))) rfl ?_
          have hpo : PricesOf nt L (pricesL nt l l2) := ⟨l, bb, l2, hE, fun _ => ⟨bb2, hE2⟩, rfl⟩
          have hlay : ints (lm.take nt.ports.length) = ints (pricesL nt l l2) := by rw [prices_laid hlay hnone hp60 (bare_iff ebf efz)]
          obtain ⟨_, _, e1_, hcap_⟩ := (Rd.of_own hol).shape
          cases e1_
          have hrd := rd_prefix (m := nt.ports.length) (Rd.of_own hol) (by omega)
          rw [take_ints, hlay] at hrd
          refine EL.val (slh_29 rfl rfl (by omega)) rfl ?_
          refine EL.val (x_assign rfl) rfl ?_
          refine EL.nil ?_
          refine EX.seq ?_
          refine EC.ret ?_
          exact EX.done (res1 rfl rfl) ⟨⟨_, _, rfl, hpo, hrd⟩, hbw⟩
        ·
          intro i c0 w11 cnt2 hi64 hli hfi0 hR2 hcnt hg11 hsz11 hen
          replace hol := own_iter hol hR hg11
          replace hos := own_iter hos hR hg11
          replace hbw := hbw.trans (below_iter hg11 hrw hbw.size)
          clear hR hg11 hsz11
          have hR := hR2
          clear hR2
          have hip := bare_lt ebf efz hfi0
          have hsi := hsm i hip
          refine EL.val (x_extract rfl rfl) rfl ?_
          refine EL.nil ?_
          refine EX.seq ?_
          refine EC.seq ?_
          refine EC.yes rfl ?_
          refine EC.skip ?_
          refine EX.seq ?_
          refine EC.block ?_
          refine EC.seq ?_
          refine EC.region ?_
          refine EL.val (x_entry rfl hen) rfl ?_
          refine EL.val (x_extract rfl rfl) rfl ?_
          refine EL.val (x_assign rfl) rfl ?_
          refine EL.nil ?_
          refine EX.seq ?_
          refine EC.region ?_
          refine EL.val (x_move rfl) rfl ?_
          refine EL.val (x_move rfl) rfl ?_
          refine EL.val (x_move rfl) rfl ?_
          refine EL.val (x_move rfl) rfl ?_
          refine EL.val (ix_29 rfl rfl (show i < (nt.ports.length + 2) by omega)) rfl ?_
          refine EL.val (ld_3 rfl (own_int_cell hos (k := i) (by omega))) rfl ?_
          refine EL.val (x_add rfl rfl (c := 2 * farI + l2.getD i 0) ((IntWalk.i64_in _ ⟨by omega, by omega⟩).trans (by unfold farI; omega))) rfl ?_
          refine EL.val (ix_29 rfl rfl (show i < (nt.ports.length + 2) by omega)) rfl ?_
          refine EL.storeRow (l' := [.int .i64 (2 * farI + l2.getD i 0)]) rfl rfl hol sz_3 rfl rfl (by rw [ints_len, Nat.zero_add]; omega) rfl ?_
          intro w12 hol2 hgr
          rw [Nat.zero_add, spl_ints (by omega)] at hol2
          replace hR := hR.grown hol hgr
          replace hos := own_ne hos hgr hgs
          replace hbw := hbw.trans (below_row hol hgr hbw.size)
          clear hol hgr
          have hol := hol2
          clear hol2
          refine EL.nil ?_
          refine EX.blk ?_
          refine EX.roundD (fun j => lf2 j && !Nat.beq j i, cnt2, lm.set i (2 * farI + l2.getD i 0)) trivial (by repeat first | with_reducible exact Sub.refl _ | refine sub_past rfl ?_ | exact Sub.refl _ | refine sub_del rfl ?_ | refine sub_insL_nil ?_) ⟨hR, hlay.step (by omega) (by rw [hfi0]; rfl), hol, hos, hbw⟩ hcnt
      ·
        intro i c0 w8 cnt2 hi64 hli hfi0 hR2 hcnt hg8 hsz8 hen
        replace hol := own_iter hol hR hg8
        replace hbw := hbw.trans (below_iter hg8 hrw hbw.size)
        clear hR hg8 hsz8
        have hR := hR2
        clear hR2
        have hfi := gOf_back hfi0
        refine EL.val (x_extract rfl rfl) rfl ?_
        refine EL.nil ?_
        refine EX.seq ?_
        refine EC.seq ?_
        refine EC.yes rfl ?_
        refine EC.skip ?_
        refine EX.seq ?_
        refine EC.block ?_
        refine EC.seq ?_
        refine EC.region ?_
        refine EL.val (x_entry rfl hen) rfl ?_
        refine EL.val (x_extract rfl rfl) rfl ?_
        refine EL.val (x_assign rfl) rfl ?_
        refine EL.nil ?_
        refine EX.seq ?_
        refine EC.region ?_
        refine EL.val (x_move rfl) rfl ?_
        refine EL.val (x_move rfl) rfl ?_
        refine EL.putR rfl rfl rfl hR (by omega) hi64 (by rw [gOf_some]; exact hfi) (by decide) ?_
        intro w13 hR2 hg13
        replace hol := own_map hol hR.map.at_ hg13
        replace hbw := hbw.trans (below_set hg13 hkw hbw.size)
        clear hR hg13
        refine EL.nil ?_
        refine EX.blk ?_
        refine EX.roundD (fun j => lf j && !Nat.beq j i, cnt2) trivial (by repeat first | with_reducible exact Sub.refl _ | refine sub_past rfl ?_ | exact Sub.refl _ | refine sub_del rfl ?_ | refine sub_insL_nil ?_) ⟨by show RangeAt _ _ _ _ (gOf bf fun j => lf j && !Nat.beq j i) _ _; rw [← gOf_put hfi]; exact hR2, fun j hj h => hlf j hj (by simp at h; exact h.1), hol, hbw⟩ hcnt
    ·
      have hbare := fun h => hs0 (hsz.2 h)
      obtain ⟨l2, el2⟩ : ∃ z : List Int, z = l := ⟨_, rfl⟩
      have hpo : PricesOf nt L (pricesL nt l l2) := ⟨l, bb, l2, hE, fun ⟨v, h1, h2⟩ => absurd (bare_some ebf h1 h2 hp60) hbare, rfl⟩
      have hlay : ints (l.take nt.ports.length) = ints (pricesL nt l l2) := congrArg ints (prices_none hll (fun v h1 h2 => hbare (bare_some ebf h1 h2 hp60)))
      clear hK
      refine EL.val (x_gtr (r := false) rfl rfl (decide_eq_false (by omega))) rfl ?_
      refine EL.nil ?_
      refine EX.seq ?_
      refine EC.no rfl ?_
      refine EC.skip ?_
      refine EX.seq ?_
      refine EC.seq ?_
      refine EC.region ?_
      refine EL.val (x_move rfl) rfl ?_
      refine EL.val (x_move rfl) rfl ?_
      refine EL.val (x_nilCheck rfl) rfl ?_
      refine EL.val (fa_114_0 rfl) rfl ?_
      refine EL.val (ld_3 rfl (below_load hbw (hq.at (j := 0) rfl))) rfl ?_
      obtain ⟨_, _, e1_, hcap_⟩ := (Rd.of_own hol).shape
      cases e1_
      have hrd := rd_prefix (m := nt.ports.length) (Rd.of_own hol) (by omega)
      rw [take_ints, hlay] at hrd
      refine EL.val (slh_29 rfl rfl (by omega)) rfl ?_
      refine EL.val (x_assign rfl) rfl ?_
      refine EL.nil ?_
      refine EX.seq ?_
      refine EC.ret ?_
      exact EX.done (res1 rfl rfl) ⟨⟨_, _, rfl, hpo, hrd⟩, hbw⟩
end Go.Proofs.Ytabgmnmpdjnjoaa
set_option linter.unusedVariables false
set_option linter.unusedSimpArgs false
namespace Go.Proofs.Ytabgmnmpdjnjoaa
section
variable (nt : Net) (mv : List Int)
def ext0 (k : Nat) : List Int := (List.range k).map fun i => (nt.ports.getD i prt0).has - (nt.ports.getD i prt0).wants
def extStep (l : List Int) (x : Way) (m : Int) : List Int := (l.set x.fr.toNat (l.getD x.fr.toNat 0 - m)).set x.to.toNat ((l.set x.fr.toNat (l.getD x.fr.toNat 0 - m)).getD x.to.toNat 0 + m)
/-- what each port has more than it wants, after so many moves -/
def extTo : Nat → List Int
  | 0 => ext0 nt nt.ports.length
  | k + 1 => extStep (extTo k) (nt.ways.getD k way0) (mv.getD k 0)
def extL : List Int := extTo nt mv nt.ways.length
def costTo : Nat → Int
  | 0 => 0
  | k + 1 => costTo k + mv.getD k 0 * (nt.ways.getD k way0).cost
def costL : Int := costTo nt mv nt.ways.length
def okMv (i : Nat) : Bool := inB 0 (nt.ways.getD i way0).room (mv.getD i 0)
def okTo (k : Nat) : Bool := (List.range k).all (okMv nt mv)
/-- what moves are told -/
def aftErr : Int := if mv.length ≠ nt.ways.length then 4 else if okTo nt mv nt.ways.length = false then 3 else if (extL nt mv).any (fun x => decide (x < 0)) = true then 9 else 0
end
section
variable {nt : Net} {mv : List Int}
theorem okTo_less : ∀ {k n : Nat}, k ≤ n → okTo nt mv n = true → okTo nt mv k = true := fun {k n} h hn => by
  rw [okTo, List.all_eq_true] at hn ⊢
  exact fun i hi => hn i (List.mem_range.2 (Nat.lt_of_lt_of_le (List.mem_range.1 hi) h))
theorem okTo_at {k i : Nat} (h : okTo nt mv k = true) (hi : i < k) : 0 ≤ mv.getD i 0 ∧ mv.getD i 0 ≤ (nt.ways.getD i way0).room := by
  have := List.all_eq_true.1 h i (List.mem_range.2 hi)
  exact inB_iff.1 this
theorem ext0_len (k : Nat) : (ext0 nt k).length = k := by simp [ext0]
theorem extStep_len {l : List Int} {x : Way} {m : Int} : (extStep l x m).length = l.length := by simp [extStep]
theorem extTo_len : ∀ k, (extTo nt mv k).length = nt.ports.length
  | 0 => ext0_len _
  | k + 1 => by rw [extTo, extStep_len, extTo_len k]
theorem getD_set0 {l : List Int} {v i : Nat} {x : Int} (hi : i < l.length) : (l.set i x).getD v 0 = if v = i then x else l.getD v 0 := by
  by_cases h : v = i
  · subst h; rw [if_pos rfl]; simp [List.getD, hi]
  · rw [if_neg h]; simp [List.getD, List.getElem?_set, Ne.symm h]
/-- one move on -/
theorem extStep_at {l : List Int} {x : Way} {m : Int} (hf : x.fr.toNat < l.length) (ht : x.to.toNat < l.length) (v : Nat) : (extStep l x m).getD v 0 = l.getD v 0 + (if v = x.to.toNat then m else 0) - (if v = x.fr.toNat then m else 0) := by
  unfold extStep
  rw [getD_set0 (by rw [List.length_set]; exact ht), getD_set0 hf, getD_set0 hf]
  by_cases h1 : v = x.to.toNat
  · rw [if_pos h1, if_pos h1]
    rw [h1]
    by_cases h2 : x.to.toNat = x.fr.toNat
    · rw [if_pos h2, if_pos h2, h2]; omega
    · rw [if_neg h2, if_neg h2]; omega
  · rw [if_neg h1, if_neg h1]
    by_cases h2 : v = x.fr.toNat
    · rw [if_pos h2, if_pos h2, h2]; omega
    · rw [if_neg h2, if_neg h2]; omega
theorem ext_bd (hv : netB nt = true) : ∀ k, k ≤ nt.ways.length → okTo nt mv k = true → ∀ v, -(1000 + 1000 * (k : Int)) ≤ (extTo nt mv k).getD v 0 ∧ (extTo nt mv k).getD v 0 ≤ 1000 + 1000 * (k : Int)
  | 0, _, _, v => by
    obtain ⟨_, _, hvp, _⟩ := netB_ok hv
    by_cases h : v < nt.ports.length
    · have e : (extTo nt mv 0).getD v 0 = (nt.ports.getD v prt0).has - (nt.ports.getD v prt0).wants := by
        have := List.getElem?_range h
        simp [extTo, ext0, List.getD, this]
      have := hvp v h
      omega
    · have e : (extTo nt mv 0).getD v 0 = 0 := by
        rw [List.getD, List.getElem?_eq_none (by rw [extTo_len]; omega)]; rfl
      omega
  | k + 1, hk, ho, v => by
    obtain ⟨_, _, _, hvw⟩ := netB_ok hv
    have hw := hvw k (by omega)
    have h1 := ext_bd hv k (by omega) (okTo_less (Nat.le_succ k) ho) v
    have h2 := okTo_at ho (Nat.lt_succ_self k)
    have hl := extTo_len (nt := nt) (mv := mv) k
    rw [extTo, extStep_at (by omega) (by omega)]
    split <;> split <;> omega
theorem aft_ok (h : ¬mv.length ≠ nt.ways.length) (ho : okTo nt mv nt.ways.length = true) (ha : ¬(extL nt mv).any (fun x => decide (x < 0)) = true) : aftErr nt mv = 0 := by rw [aftErr, if_neg h, if_neg (by rw [ho]; decide), if_neg ha]
end
/-! ### Prices -/
section
variable (nt : Net) (pr : List Int)
def prErr : Int := if pr.length ≠ nt.ports.length then 4 else if pr.all (inB 0 1000000000) = true then 0 else 3
def gainW (x : Way) : Int := pr.getD x.to.toNat 0 - pr.getD x.fr.toNat 0 - x.cost
def bnd1 : Nat → Int
  | 0 => 0
  | k + 1 => bnd1 k + pr.getD k 0 * ((nt.ports.getD k prt0).wants - (nt.ports.getD k prt0).has)
def bnd2 : Nat → Int
  | 0 => bnd1 nt pr nt.ports.length
  | k + 1 => bnd2 k - (nt.ways.getD k way0).room * max 0 (gainW pr (nt.ways.getD k way0))
def bndL : Int := bnd2 nt pr nt.ways.length
variable (mv : List Int)
/-- prices prove the moves on a way; what a port has too many costs nothing -/
def wayP (i : Nat) : Bool := !(decide (gainW pr (nt.ways.getD i way0) < 0) && decide (0 < mv.getD i 0)) && !(decide (0 < gainW pr (nt.ways.getD i way0)) && decide (mv.getD i 0 < (nt.ways.getD i way0).room))
def prtP (i : Nat) : Bool := !(decide (0 < pr.getD i 0) && decide (0 < (extL nt mv).getD i 0))
def provesB : Bool := (List.range nt.ways.length).all (wayP nt pr mv) && (List.range nt.ports.length).all (prtP nt pr mv)
end
section
variable {nt : Net} {pr mv : List Int}
theorem pr_at (h : pr.all (inB 0 1000000000) = true) (i : Nat) : 0 ≤ pr.getD i 0 ∧ pr.getD i 0 ≤ 1000000000 := by
  by_cases hi : i < pr.length
  · have := List.all_eq_true.1 h _ (List.getElem_mem hi)
    rw [show pr.getD i 0 = pr[i] by simp [List.getD, hi]]
    exact inB_iff.1 this
  · rw [List.getD, List.getElem?_eq_none (by omega)]
    exact ⟨Int.le_refl _, by show (0 : Int) ≤ _; omega⟩
theorem mul_bd {a b A B : Int} (ha : 0 ≤ a) (hA : a ≤ A) (hb : -B ≤ b) (hB : b ≤ B) (h0 : 0 ≤ B) : -(A * B) ≤ a * b ∧ a * b ≤ A * B := by
  constructor
  · have h1 : a * B ≤ A * B := Int.mul_le_mul_of_nonneg_right hA h0
    have h2 : a * (-B) ≤ a * b := Int.mul_le_mul_of_nonneg_left hb ha
    rw [Int.mul_neg] at h2
    omega
  · exact Int.le_trans (Int.mul_le_mul_of_nonneg_left hB ha) (Int.mul_le_mul_of_nonneg_right hA h0)
theorem bnd1_bd (hv : netB nt = true) (hp : pr.all (inB 0 1000000000) = true) : ∀ k, k ≤ nt.ports.length → -(1000000000000 * (k : Int)) ≤ bnd1 nt pr k ∧ bnd1 nt pr k ≤ 1000000000000 * (k : Int)
  | 0, _ => by show _ ≤ (0 : Int) ∧ (0 : Int) ≤ _; omega
  | k + 1, hk => by
    obtain ⟨_, _, hvp, _⟩ := netB_ok hv
    have h1 := bnd1_bd hv hp k (by omega)
    have h2 := hvp k (by omega)
    have h3 := pr_at hp k
    have h4 := mul_bd (B := 1000) h3.1 h3.2 (b := (nt.ports.getD k prt0).wants - (nt.ports.getD k prt0).has) (by omega) (by omega) (by omega)
    rw [bnd1]
    omega
theorem gain_bd (hv : netB nt = true) (hp : pr.all (inB 0 1000000000) = true) {k : Nat} (hk : k < nt.ways.length) : -2000000000 ≤ gainW pr (nt.ways.getD k way0) ∧ gainW pr (nt.ways.getD k way0) ≤ 1000000000 := by
  obtain ⟨_, _, _, hvw⟩ := netB_ok hv
  have h1 := hvw k hk
  have h2 := pr_at hp (nt.ways.getD k way0).to.toNat
  have h3 := pr_at hp (nt.ways.getD k way0).fr.toNat
  unfold gainW
  omega
theorem bnd2_bd (hv : netB nt = true) (hp : pr.all (inB 0 1000000000) = true) : ∀ k, k ≤ nt.ways.length → -(60000000000000 + 1000000000000 * (k : Int)) ≤ bnd2 nt pr k ∧ bnd2 nt pr k ≤ 60000000000000
  | 0, _ => by
    have h1 := bnd1_bd hv hp nt.ports.length (Nat.le_refl _)
    obtain ⟨⟨_, hp60⟩, _⟩ := netB_ok hv
    rw [bnd2]
    omega
  | k + 1, hk => by
    obtain ⟨_, _, _, hvw⟩ := netB_ok hv
    have h1 := bnd2_bd hv hp k (by omega)
    have h2 := hvw k (by omega)
    have h3 := gain_bd hv hp (k := k) (by omega)
    have h4 : 0 ≤ (nt.ways.getD k way0).room * max 0 (gainW pr (nt.ways.getD k way0)) := Int.mul_nonneg h2.2.2.2.2.1 (by omega)
    have h5 : (nt.ways.getD k way0).room * max 0 (gainW pr (nt.ways.getD k way0)) ≤ 1000 * 1000000000 := Int.mul_le_mul h2.2.2.2.2.2 (by omega) (by omega) (by omega)
    rw [bnd2]
    omega
theorem pr_len (h : pr.length ≠ nt.ports.length) : prErr nt pr = 4 := by rw [prErr, if_pos h]
theorem pr_ok (h : ¬pr.length ≠ nt.ports.length) (ho : pr.all (inB 0 1000000000) = true) : prErr nt pr = 0 := by rw [prErr, if_neg h, if_pos ho]
theorem pr_no (h : ¬pr.length ≠ nt.ports.length) (ho : pr.all (inB 0 1000000000) = false) : prErr nt pr = 3 := by rw [prErr, if_neg h, if_neg (by rw [ho]; decide)]
theorem pr_zero (h : prErr nt pr = 0) : pr.length = nt.ports.length ∧ pr.all (inB 0 1000000000) = true := by
  unfold prErr at h
  split at h
  · cases h
  · rename_i h1
    split at h
    · rename_i h2; exact ⟨by omega, h2⟩
    · cases h
end
end Go.Proofs.Ytabgmnmpdjnjoaa
set_option linter.unusedVariables false
set_option linter.unusedSimpArgs false
namespace Go.Proofs.Ytabgmnmpdjnjoaa
open Go Go.RowKit
section
variable {n : Nat} {σ : Sg} {w : World} {dst : Option Tmp} {ty : TypeId} {pos : String} {af : Array Edge} {g : Option (Nat × Bool)} {x y z : Operand} {at' : Array TypeId}
theorem ld_25 {b o : Nat} {v0 v1 : Value} (hx : evS σ x = some (.pointer (some ⟨b, o, none⟩))) (c0 : w.cell? ⟨b, o, none⟩ = some v0) (c1 : w.cell? ⟨b, o + 1, none⟩ = some v1) : Gives Try.prog n σ w ⟨dst, .load 25 x, ty, pos, af, g⟩ (.agg #[v0, v1]) := fun a ha => by
  simp only [execOp, ha.eval hx]
  simp [go_sem, c0, c1]
end
end Go.Proofs.Ytabgmnmpdjnjoaa
set_option linter.unusedVariables false
set_option linter.unusedSimpArgs false
namespace Go.Proofs.Ytabgmnmpdjnjoaa
open Go Go.RowKit
section
variable {n : Nat} {σ : Sg} {w : World} {dst : Option Tmp} {ty : TypeId} {pos : String} {af : Array Edge} {g : Option (Nat × Bool)} {x y z : Operand} {at' : Array TypeId}
theorem cl_27 {x0 : Operand} {v0 : Value} (h0 : evS σ x0 = some v0) (a : Act) (ha : Env n σ a) : (execOp a.eval ⟨dst, .call { callee := .value (.func 27), args := #[x0], argTypes := at' }, ty, pos, af, g⟩).run Try.prog w = .ok (.enter 27 #[v0]) w := by
  simp only [execOp, resolve, List.map_toArray, List.map_cons, List.map_nil, ha.eval h0]
  simp [go_sem, Act.eval]
theorem bx_104 {v0 v1 v2 : Value} (hx : evS σ x = some (.agg #[v0, v1, v2])) (a : Act) (ha : Env n σ a) : (execOp a.eval ⟨dst, .box 104 x, ty, pos, af, g⟩).run Try.prog w = .ok (.value (.pointer (some ⟨w.heap.size, 0, none⟩))) (w.alloc (.cells #[v0, v1, v2] 104)) := by
  simp only [execOp, ha.eval hx]
  simp [go_sem]
theorem fa_104_1 {b o : Nat} (hx : evS σ x = some (.pointer (some ⟨b, o, none⟩))) : Gives Try.prog n σ w ⟨dst, .fieldAddr 104 x 1, ty, pos, af, g⟩ (.pointer (some ⟨b, o + 2, none⟩)) := fun a ha => by
  simp only [execOp, ha.eval hx]
  simp [go_sem]
theorem cl_57 {x0 x1 : Operand} {v0 v1 : Value} (h0 : evS σ x0 = some v0) (h1 : evS σ x1 = some v1) (a : Act) (ha : Env n σ a) : (execOp a.eval ⟨dst, .call { callee := .value (.func 57), args := #[x0, x1], argTypes := at' }, ty, pos, af, g⟩).run Try.prog w = .ok (.enter 57 #[v0, v1]) w := by
  simp only [execOp, resolve, List.map_toArray, List.map_cons, List.map_nil, ha.eval h0, ha.eval h1]
  simp [go_sem, Act.eval]
theorem bd_104_0_1 {x0 x1 : Operand} {v0_0 : Value} {v0_1 : Value} {A1 : Option Addr} {m1 : Nat} {c1 : Nat} (h0 : evS σ x0 = some (.agg #[v0_0, v0_1])) (h1 : evS σ x1 = some (.slice A1 m1 c1)) : Gives Try.prog n σ w ⟨dst, .build 104 #[(0, x0), (1, x1)], ty, pos, af, g⟩ (.agg #[v0_0, v0_1, .slice A1 m1 c1]) := fun a ha => by
  simp only [execOp, List.map_toArray, List.map_cons, List.map_nil, ha.eval h0, ha.eval h1]
  go_simp
theorem al_104 (a : Act) (_ : Env n σ a) : (execOp a.eval ⟨dst, .alloc 104, ty, pos, af, g⟩).run Try.prog w = .ok (.value (.pointer (some ⟨w.heap.size, 0, none⟩))) (w.alloc (.cells #[.slice none 0 0, .slice none 0 0, .slice none 0 0] 104)) := by
  simp only [execOp]
  simp [go_sem]
theorem sz_104 : (Try.prog.info? 104).map (·.size) = some 3 := by kernel_rfl
theorem mm_max {p q r : Int} (hx : evS σ x = some (.int .i64 p)) (hy : evS σ y = some (.int .i64 q)) (hr : max p q = r) : Gives Try.prog n σ w ⟨dst, .call { callee := .builtin .max, args := #[x, y], argTypes := at' }, ty, pos, af, g⟩ (.int .i64 r) := fun a ha => by
  simp only [execOp, resolve, List.map_toArray, List.map_cons, List.map_nil, ha.eval hx, ha.eval hy]
  subst hr
  simp [go_sem, Int.max_def]
  split <;> split <;> omega
theorem ld_104 {b o : Nat} {v0 v1 v2 : Value} (hx : evS σ x = some (.pointer (some ⟨b, o, none⟩))) (c0 : w.cell? ⟨b, o, none⟩ = some v0) (c1 : w.cell? ⟨b, o + 1, none⟩ = some v1) (c2 : w.cell? ⟨b, o + 2, none⟩ = some v2) : Gives Try.prog n σ w ⟨dst, .load 104 x, ty, pos, af, g⟩ (.agg #[v0, v1, v2]) := fun a ha => by
  simp only [execOp, ha.eval hx]
  simp [go_sem, c0, c1, c2]
theorem cl_58 {x0 x1 : Operand} {v0 v1 : Value} (h0 : evS σ x0 = some v0) (h1 : evS σ x1 = some v1) (a : Act) (ha : Env n σ a) : (execOp a.eval ⟨dst, .call { callee := .value (.func 58), args := #[x0, x1], argTypes := at' }, ty, pos, af, g⟩).run Try.prog w = .ok (.enter 58 #[v0, v1]) w := by
  simp only [execOp, resolve, List.map_toArray, List.map_cons, List.map_nil, ha.eval h0, ha.eval h1]
  simp [go_sem, Act.eval]
end
end Go.Proofs.Ytabgmnmpdjnjoaa
set_option linter.unusedVariables false
set_option linter.unusedSimpArgs false
namespace Go.Proofs.Ytabgmnmpdjnjoaa
open Go Go.RowKit
theorem prices_err (nt : Net) (vp vw : Value) (w : World) (B : Nat) (hr : RdNet w B vp vw nt) (hB : B ≤ w.heap.size) (hn1 : nt.ports.length ≤ 1073741824) (hn2 : nt.ways.length ≤ 1073741824) (pr : List Int) (vr : Value) (hrp : Rd w B 1 vr pr.length (ints pr)) (hn : pr.length ≤ 1073741824) :
    Calls Try.prog 57 #[.agg #[vp, vw], vr] w fun e w' => e = .returned (.int .i64 (prErr nt pr)) ∧ Below w.heap.size w w' := by
  obtain ⟨Ap, cp_, rfl, _⟩ := hr.ports.shape
  obtain ⟨Aw, cw_, rfl, _⟩ := hr.ways.shape
  obtain ⟨Ar, cr_, rfl, _⟩ := hrp.shape
  have hbw := Below.refl w.heap.size w
  refine EC.enter 16 Try.func57 rfl rfl rfl ?_
  refine EC.seq ?_
  refine EC.region ?_
  refine EL.newP (bx_25 rfl) rfl ?_
  intro g1 w1 q1 hb1 hg1 hl1
  have bhbw_1 := Nat.le_trans hbw.size hg1
  replace hbw := Below.on hbw hb1 hbw.size
  clear hb1 hg1 hl1
  refine EL.val (x_assign rfl) rfl ?_
  refine EL.nil ?_
  refine EX.seq ?_
  refine EC.seq ?_
  refine EC.block ?_
  refine EC.seq ?_
  refine EC.region ?_
  refine EL.val (x_move rfl) rfl ?_
  refine EL.val (ln_29 rfl) rfl ?_
  refine EL.val (fa_25_0 rfl) rfl ?_
  refine EL.val (ld_22 rfl (q1.at (j := 0) rfl)) rfl ?_
  refine EL.val (ln_22 rfl) rfl ?_
  by_cases hlen : pr.length ≠ nt.ports.length
  ·
    refine EL.val (x_neq (r := true) rfl rfl (decide_eq_true (by omega))) rfl ?_
    refine EL.val (x_assign rfl) rfl ?_
    refine EL.nil ?_
    refine EX.seq ?_
    refine EC.yes rfl ?_
    refine EC.seq ?_
    refine EC.region ?_
    refine EL.val (x_assign rfl) rfl ?_
    refine EL.nil ?_
    refine EX.seq ?_
    refine EC.ret ?_
    refine EX.blk_ret ?_
    refine EX.seq_ret ?_
    exact EX.done (res1 rfl rfl) ⟨by rw [pr_len hlen], hbw⟩
  ·
    refine EL.val (x_neq (r := false) rfl rfl (decide_eq_false (by omega))) rfl ?_
    refine EL.val (x_assign rfl) rfl ?_
    refine EL.nil ?_
    refine EX.seq ?_
    refine EC.no rfl ?_
    refine EC.seq ?_
    refine EC.region ?_
    refine EL.val (x_move rfl) rfl ?_
    cases hall : pr.all (inB 0 1000000000)
    ·
      refine EL.call (cl_52 rfl rfl rfl) rfl (within_to (b := false) hall _ _ B (hrp.below (hbw.mono hB)) (Nat.le_trans hB hbw.size) (by omega)) ?_
      rintro e w2 ⟨rfl, hc2⟩
      refine ⟨_, rfl, ?_⟩
      replace q1 := q1.below hc2 q1.lt
      replace hbw := Below.on hbw hc2 hbw.size
      clear hc2
      refine EL.val (x_not rfl) rfl ?_
      refine EL.val (x_assign rfl) rfl ?_
      refine EL.nil ?_
      refine EX.seq ?_
      refine EC.yes rfl ?_
      refine EC.seq ?_
      refine EC.region ?_
      refine EL.val (x_assign rfl) rfl ?_
      refine EL.nil ?_
      refine EX.seq ?_
      refine EC.ret ?_
      refine EX.blk_ret ?_
      refine EX.seq_ret ?_
      exact EX.done (res1 rfl rfl) ⟨by rw [pr_no hlen hall], hbw⟩
    ·
      refine EL.call (cl_52 rfl rfl rfl) rfl (within_to (b := true) hall _ _ B (hrp.below (hbw.mono hB)) (Nat.le_trans hB hbw.size) (by omega)) ?_
      rintro e w3 ⟨rfl, hc3⟩
      refine ⟨_, rfl, ?_⟩
      replace q1 := q1.below hc3 q1.lt
      replace hbw := Below.on hbw hc3 hbw.size
      clear hc3
      refine EL.val (x_not rfl) rfl ?_
      refine EL.val (x_assign rfl) rfl ?_
      refine EL.nil ?_
      refine EX.seq ?_
      refine EC.no rfl ?_
      refine EC.skip ?_
      refine EX.blk ?_
      refine EX.seq ?_
      refine EC.seq ?_
      refine EC.region ?_
      refine EL.val (x_assign rfl) rfl ?_
      refine EL.nil ?_
      refine EX.seq ?_
      refine EC.ret ?_
      exact EX.done (res1 rfl rfl) ⟨by rw [pr_ok hlen hall], hbw⟩
theorem gain_any (pr : List Int) (y : Way) (va vb vr : Value) (w : World) (B : Nat) (hrp : Rd w B 1 vr pr.length (ints pr)) (hB : B ≤ w.heap.size) (hf0 : 0 ≤ y.fr ∧ y.fr < pr.length) (ht0 : 0 ≤ y.to ∧ y.to < pr.length) (hc0 : 0 ≤ y.cost ∧ y.cost ≤ 1000000) (hn : pr.length ≤ 1073741824) (hall : pr.all (inB 0 1000000000) = true) :
    Calls Try.prog 58 #[.agg #[va, vb, vr], .agg #[.int .i64 y.fr, .int .i64 y.to, .int .i64 y.cost, .int .i64 y.room]] w fun e w' => e = .returned (.int .i64 (gainW pr y)) ∧ Below w.heap.size w w' := by
  obtain ⟨Ar, cr_, rfl, _⟩ := hrp.shape
  have hbw := Below.refl w.heap.size w
  refine EC.enter 21 Try.func58 rfl rfl rfl ?_
  skip
  have ef : y.fr = ((y.fr.toNat : Nat) : Int) := by omega
  have et : y.to = ((y.to.toNat : Nat) : Int) := by omega
  obtain ⟨bt, ot, e_, _, ct⟩ := ints_cells pr y.to.toNat (by omega) _ _ _ _ _ hrp
  subst e_
  obtain ⟨bf, of_, e_, _, cf⟩ := ints_cells pr y.fr.toNat (by omega) _ _ _ _ _ hrp
  injection e_ with e_
  injection e_ with e1_ e2_
  subst e1_
  subst e2_
  have ht := pr_at hall y.to.toNat
  have hf := pr_at hall y.fr.toNat
  refine EC.seq ?_
  refine EC.region ?_
  refine EL.newP (bx_104 rfl) rfl ?_
  intro g1 w1 q1 hb1 hg1 hl1
  have bhbw_1 := Nat.le_trans hbw.size hg1
  replace hbw := Below.on hbw hb1 hbw.size
  clear hb1 hg1 hl1
  refine EL.newP (bx_56 rfl) rfl ?_
  intro g2 w2 q2 hb2 hg2 hl2
  have n1_2 : g1 ≠ g2 := Nat.ne_of_lt (Nat.lt_of_lt_of_le q1.lt hg2)
  have bhbw_2 := Nat.le_trans hbw.size hg2
  replace q1 := q1.below hb2 q1.lt
  replace hbw := Below.on hbw hb2 hbw.size
  clear hb2 hg2 hl2
  refine EL.val (x_assign rfl) rfl ?_
  refine EL.nil ?_
  refine EX.seq ?_
  refine EC.seq ?_
  refine EC.regionQ (by kernel_rfl) (by kernel_rfl) ?_
  refine EQ.val (fun _ hw => (fa_104_1 rfl)) rfl ?_
  refine EQ.val (fun _ hw => (ld_29 rfl (below_load hw (q1.at (j := 2) rfl)))) rfl ?_
  refine EQ.val (fun _ hw => (fa_56_1 rfl)) rfl ?_
  refine EQ.val (fun _ hw => (ld_3 rfl (below_load hw (q2.at (j := 1) rfl)))) rfl ?_
  refine EQ.val (fun _ hw => (ix_29 rfl (by rw [← et]; rfl) (show y.to.toNat < pr.length by omega))) rfl ?_
  refine EQ.val (fun _ hw => (ld_3 rfl (below_load hw (below_load hbw ct)))) rfl ?_
  refine EQ.val (fun _ hw => (fa_104_1 rfl)) rfl ?_
  refine EQ.val (fun _ hw => (ld_29 rfl (below_load hw (q1.at (j := 2) rfl)))) rfl ?_
  refine EQ.val (fun _ hw => (fa_56_0 rfl)) rfl ?_
  refine EQ.val (fun _ hw => (ld_3 rfl (below_load hw (q2.at (j := 0) rfl)))) rfl ?_
  refine EQ.val (fun _ hw => (ix_29 rfl (by rw [← ef]; rfl) (show y.fr.toNat < pr.length by omega))) rfl ?_
  refine EQ.val (fun _ hw => (ld_3 rfl (below_load hw (below_load hbw cf)))) rfl ?_
  refine EQ.val (fun _ hw => (x_sub rfl rfl (IntWalk.i64_in _ ⟨by omega, by omega⟩))) rfl ?_
  refine EQ.val (fun _ hw => (fa_56_2 rfl)) rfl ?_
  refine EQ.val (fun _ hw => (ld_3 rfl (below_load hw (q2.at (j := 2) rfl)))) rfl ?_
  refine EQ.val (fun _ hw => (x_sub rfl rfl (IntWalk.i64_in _ ⟨by omega, by omega⟩))) rfl ?_
  refine EQ.val (fun _ hw => (x_assign rfl)) rfl ?_
  refine EQ.fin (fun w3 hw_ => ?_)
  replace q1 := q1.below hw_ q1.lt
  replace q2 := q2.below hw_ q2.lt
  replace hbw := Below.on hbw hw_ hbw.size
  clear hw_
  refine EX.seq ?_
  refine EC.ret ?_
  exact EX.done (res1 rfl rfl) ⟨rfl, hbw⟩
def bndE (nt : Net) (pr : List Int) : Int := if netB nt = true then prErr nt pr else 2
def bndV (nt : Net) (pr : List Int) : Int := if bndE nt pr = 0 then bndL nt pr else 0
set_option maxHeartbeats 1000000 in
theorem bound_any (nt : Net) (vp vw : Value) (w : World) (B : Nat) (hr : RdNet w B vp vw nt) (hB : B ≤ w.heap.size) (hn1 : nt.ports.length ≤ 1073741824) (hn2 : nt.ways.length ≤ 1073741824) (pr : List Int) (vr : Value) (hrp : Rd w B 1 vr pr.length (ints pr)) (hnp : pr.length ≤ 1073741824) :
    Calls Try.prog 32 #[.agg #[vp, vw], vr] w fun e w' => e = .returned (.tuple #[.int .i64 (bndV nt pr), .int .i64 (bndE nt pr)]) ∧ Below w.heap.size w w' := by
  obtain ⟨Ap, cp_, rfl, _⟩ := hr.ports.shape
  obtain ⟨Aw, cw_, rfl, _⟩ := hr.ways.shape
  obtain ⟨Ar, cr_, rfl, _⟩ := hrp.shape
  have hbw := Below.refl w.heap.size w
  refine EC.enter 66 Try.func32 rfl rfl rfl ?_
  refine EC.seq ?_
  refine EC.region ?_
  refine EL.newP (bx_25 rfl) rfl ?_
  intro g1 w1 q1 hb1 hg1 hl1
  have bhbw_1 := Nat.le_trans hbw.size hg1
  replace hbw := Below.on hbw hb1 hbw.size
  clear hb1 hg1 hl1
  refine EL.val (x_assign rfl) rfl ?_
  refine EL.val (x_assign rfl) rfl ?_
  refine EL.nil ?_
  refine EX.seq ?_
  refine EC.seq ?_
  refine EC.seq ?_
  refine EC.region ?_
  refine EL.val (ld_25 rfl (q1.at (j := 0) rfl) (q1.at (j := 1) rfl)) rfl ?_
  by_cases hv : netB nt = true
  ·
    obtain ⟨⟨hp1, hp60⟩, hw300, hvp, hvw⟩ := netB_ok hv
    refine EL.call (cl_27 rfl) rfl (check_to (e0 := 0) (by rw [netE, if_pos hv]) _ _ _ B (hr.below (hbw.mono hB)) (Nat.le_trans hB hbw.size) hn1 hn2) ?_
    rintro e w2 ⟨rfl, hc2⟩
    refine ⟨_, rfl, ?_⟩
    replace q1 := q1.below hc2 q1.lt
    replace hbw := Below.on hbw hc2 hbw.size
    clear hc2
    refine EL.val (x_assign rfl) rfl ?_
    refine EL.nil ?_
    refine EX.seq ?_
    refine EC.seq ?_
    refine EC.region ?_
    refine EL.val (x_move rfl) rfl ?_
    refine EL.val (x_neq (r := false) rfl rfl (by decide)) rfl ?_
    refine EL.nil ?_
    refine EX.seq ?_
    refine EC.no rfl ?_
    refine EC.skip ?_
    refine EX.seq ?_
    refine EC.seq ?_
    refine EC.seq ?_
    refine EC.region ?_
    refine EL.val (ld_25 rfl (q1.at (j := 0) rfl) (q1.at (j := 1) rfl)) rfl ?_
    refine EL.val (x_move rfl) rfl ?_
    by_cases hp0 : prErr nt pr = 0
    ·
      obtain ⟨hpl, hall⟩ := pr_zero hp0
      refine EL.call (cl_57 rfl rfl) rfl (prices_err nt _ _ _ B (hr.below (hbw.mono hB)) (Nat.le_trans hB hbw.size) hn1 hn2 pr _ (hrp.below (hbw.mono hB)) hnp) ?_
      rintro e w3 ⟨rfl, hc3⟩
      refine ⟨_, rfl, ?_⟩
      replace q1 := q1.below hc3 q1.lt
      replace hbw := Below.on hbw hc3 hbw.size
      clear hc3
      refine EL.val (x_assign rfl) rfl ?_
      refine EL.nil ?_
      refine EX.seq ?_
      refine EC.seq ?_
      refine EC.region ?_
      refine EL.val (x_move rfl) rfl ?_
      refine EL.val (x_neq (r := false) rfl rfl (decide_eq_false (by rw [hp0]; exact fun h => h rfl))) rfl ?_
      refine EL.nil ?_
      refine EX.seq ?_
      refine EC.no rfl ?_
      refine EC.skip ?_
      refine EX.seq ?_
      refine EC.seq ?_
      refine EC.region ?_
      refine EL.val (ld_25 rfl (q1.at (j := 0) rfl) (q1.at (j := 1) rfl)) rfl ?_
      refine EL.val (x_move rfl) rfl ?_
      refine EL.val (bd_104_0_1 rfl rfl) rfl ?_
      refine EL.newP al_104 rfl ?_
      intro g4 w4 q4 hb4 hg4 hl4
      have n1_4 : g1 ≠ g4 := Nat.ne_of_lt (Nat.lt_of_lt_of_le q1.lt hg4)
      have bhbw_4 := Nat.le_trans hbw.size hg4
      replace q1 := q1.below hb4 q1.lt
      replace hbw := Below.on hbw hb4 hbw.size
      clear hb4 hg4 hl4
      refine EL.store rfl rfl q4 sz_104 rfl rfl rfl rfl ?_
      intro w5 hq5 hg5
      replace q1 := q1.grown hg5 (fun h => n1_4 (Option.some.inj h))
      replace hbw := below_store hbw hg5 bhbw_4
      replace q4 := hq5
      clear hg5 hq5
      refine EL.nil ?_
      refine EX.seq ?_
      refine EC.seq ?_
      refine EC.seq ?_
      refine EC.region ?_
      refine EL.val (fa_25_0 rfl) rfl ?_
      refine EL.val (ld_22 rfl (q1.at (j := 0) rfl)) rfl ?_
      refine EL.val (ln_22 rfl) rfl ?_
      refine EL.val (x_move rfl) rfl ?_
      refine EL.nil ?_
      refine EX.seq ?_
      refine EC.block ?_
      refine EC.loopD [4, 9, 10, 30, 31, 32, 33, 34, 35, 36, 37, 38, 39, 40, 41, 42, 43, 44, 45, 46, 47] (fun x : Nat => [(4, .int .i64 (bnd1 nt pr x)), (30, .int .i64 (x : Nat))]) (fun x W => x ≤ nt.ports.length ∧ Blk W g1 25 #[.slice Ap nt.ports.length cp_, .slice Aw nt.ways.length cw_] ∧ Blk W g4 104 #[.slice Ap nt.ports.length cp_, .slice Aw nt.ways.length cw_, .slice Ar pr.length cr_] ∧ Below w.heap.size w W) (fun x => nt.ports.length - x) 0 ⟨Nat.zero_le _, q1, q4, hbw⟩ ⟨rfl, rfl, trivial⟩ ?_
      clear q1 q4 hbw
      rintro x wx ⟨hx, q2x, q8x, hbw⟩
      by_cases hlt : x < nt.ports.length
      ·
        obtain ⟨bp, op, e_, _, pc0, pc1⟩ := prts_cells nt.ports x hlt _ _ _ _ _ hr.ports
        subst e_
        obtain ⟨br, orr, e_, _, rc⟩ := ints_cells pr x (by omega) _ _ _ _ _ hrp
        subst e_
        obtain ⟨⟨ph0, ph1⟩, pw0, pw1⟩ := hvp x hlt
        have hb1 := bnd1_bd hv hall x hx
        have hb2 := bnd1_bd hv hall (x + 1) hlt
        have hpx := pr_at hall x
        have hbn : bnd1 nt pr (x + 1) = bnd1 nt pr x + pr.getD x 0 * ((nt.ports.getD x prt0).wants - (nt.ports.getD x prt0).has) := rfl
        have hmb := mul_bd (B := 1000) hpx.1 hpx.2 (b := (nt.ports.getD x prt0).wants - (nt.ports.getD x prt0).has) (by omega) (by omega) (by omega)
        rw [hbn] at hb2
        obtain ⟨y, ey⟩ : ∃ z, z = nt.ports.getD x prt0 := ⟨_, rfl⟩
        rw [← ey] at pc0 pc1 ph0 ph1 pw0 pw1 hbn hmb hb2
        obtain ⟨bb, ebb⟩ : ∃ z, z = bnd1 nt pr x := ⟨_, rfl⟩
        rw [← ebb] at hb1 hb2 hbn
        refine EC.seq ?_
        refine EC.region ?_
        refine EL.val (x_lss rfl rfl (decide_eq_true (show (((x : Nat) : Int) < ((nt.ports.length : Nat) : Int)) by omega))) rfl ?_
        refine EL.nil ?_
        refine EX.seq ?_
        refine EC.seq ?_
        refine EC.yes rfl ?_
        refine EC.skip ?_
        refine EX.seq ?_
        refine EC.seq ?_
        refine EC.block ?_
        refine EC.seq ?_
        refine EC.region ?_
        refine EL.val (x_move rfl) rfl ?_
        refine EL.val (ix_22 rfl rfl hlt) rfl ?_
        refine EL.val (ld_47 rfl (below_load hbw pc0) (below_load hbw pc1)) rfl ?_
        refine EL.newP al_47 rfl ?_
        intro g6 w6 q6 hb6 hg6 hl6
        have n1_6 : g1 ≠ g6 := Nat.ne_of_lt (Nat.lt_of_lt_of_le q2x.lt hg6)
        have n4_6 : g4 ≠ g6 := Nat.ne_of_lt (Nat.lt_of_lt_of_le q8x.lt hg6)
        have bhbw_6 := Nat.le_trans hbw.size hg6
        replace q2x := q2x.below hb6 q2x.lt
        replace q8x := q8x.below hb6 q8x.lt
        replace hbw := Below.on hbw hb6 hbw.size
        clear hb6 hg6 hl6
        refine EL.val (x_assign rfl) rfl ?_
        refine EL.store rfl rfl q6 sz_47 rfl rfl rfl rfl ?_
        intro w7 hq7 hg7
        replace q2x := q2x.grown hg7 (fun h => n1_6 (Option.some.inj h))
        replace q8x := q8x.grown hg7 (fun h => n4_6 (Option.some.inj h))
        replace hbw := below_store hbw hg7 bhbw_6
        replace q6 := hq7
        clear hg7 hq7
        refine EL.nil ?_
        refine EX.seq ?_
        refine EC.regionQ (by kernel_rfl) (by kernel_rfl) ?_
        refine EQ.val (fun _ hw => (x_move rfl)) rfl ?_
        refine EQ.val (fun _ hw => (x_move rfl)) rfl ?_
        refine EQ.val (fun _ hw => (x_move rfl)) rfl ?_
        refine EQ.val (fun _ hw => (ix_29 rfl rfl (show x < pr.length by omega))) rfl ?_
        refine EQ.val (fun _ hw => (ld_3 rfl (below_load hw (below_load hbw rc)))) rfl ?_
        refine EQ.val (fun _ hw => (fa_47_1 rfl)) rfl ?_
        refine EQ.val (fun _ hw => (ld_3 rfl (below_load hw (q6.at (j := 1) rfl)))) rfl ?_
        refine EQ.val (fun _ hw => (fa_47_0 rfl)) rfl ?_
        refine EQ.val (fun _ hw => (ld_3 rfl (below_load hw (q6.at (j := 0) rfl)))) rfl ?_
        refine EQ.val (fun _ hw => (x_sub rfl rfl (IntWalk.i64_in _ ⟨by omega, by omega⟩))) rfl ?_
        refine EQ.val (fun _ hw => (x_mul rfl rfl (IntWalk.i64_in _ ⟨by omega, by omega⟩))) rfl ?_
        refine EQ.val (fun _ hw => (x_add rfl rfl (IntWalk.i64_in _ ⟨by omega, by omega⟩))) rfl ?_
        refine EQ.val (fun _ hw => (x_assign rfl)) rfl ?_
        refine EQ.fin (fun w8 hw_ => ?_)
        replace q2x := q2x.below hw_ q2x.lt
        replace q8x := q8x.below hw_ q8x.lt
        replace q6 := q6.below hw_ q6.lt
        replace hbw := Below.on hbw hw_ hbw.size
        clear hw_
        refine EX.blk ?_
        refine EX.seq ?_
        refine EC.region ?_
        refine EL.val (x_add rfl rfl (c := ((x + 1 : Nat) : Int)) ((IntWalk.i64_in _ ⟨by first | omega | (simp only; omega), by first | omega | (simp only; omega)⟩).trans (by first | omega | (simp only; omega)))) rfl ?_
        refine EL.val (x_move rfl) rfl ?_
        refine EL.nil ?_
        refine EX.roundD (x + 1) ⟨agree_of (by rw [hbn, ebb]) rfl, rfl, trivial⟩ (by repeat first | with_reducible exact Sub.refl _ | refine sub_past rfl ?_ | exact Sub.refl _ | refine sub_del rfl ?_ | refine sub_insL_nil ?_) ⟨hlt, q2x, q8x, hbw⟩ (by omega)
      ·
        have hxe : x = nt.ports.length := by omega
        subst hxe
        refine EC.seq ?_
        refine EC.region ?_
        refine EL.val (x_lss rfl rfl (decide_eq_false (show ¬(((nt.ports.length : Nat) : Int) < ((nt.ports.length : Nat) : Int)) by omega))) rfl ?_
        refine EL.nil ?_
        refine EX.seq ?_
        refine EC.seq ?_
        refine EC.no rfl ?_
        refine EC.exit ?_
        refine EX.seq_exit ?_
        refine EX.seq_exit ?_
        refine EX.blk_here ?_
        refine EX.seq ?_
        refine EC.seq ?_
        refine EC.seq ?_
        refine EC.region ?_
        refine EL.val (fa_25_1 rfl) rfl ?_
        refine EL.val (ld_23 rfl (q2x.at (j := 1) rfl)) rfl ?_
        refine EL.val (ln_23 rfl) rfl ?_
        refine EL.val (x_move rfl) rfl ?_
        refine EL.nil ?_
        refine EX.seq ?_
        refine EC.block ?_
        refine EC.loopD [4, 12, 51, 52, 53, 54, 55, 56, 57, 58, 59, 60, 61, 62, 63, 64] (fun x : Nat => [(4, .int .i64 (bnd2 nt pr x)), (51, .int .i64 (x : Nat))]) (fun x W => x ≤ nt.ways.length ∧ Blk W g1 25 #[.slice Ap nt.ports.length cp_, .slice Aw nt.ways.length cw_] ∧ Blk W g4 104 #[.slice Ap nt.ports.length cp_, .slice Aw nt.ways.length cw_, .slice Ar pr.length cr_] ∧ Below w.heap.size w W) (fun x => nt.ways.length - x) 0 ⟨Nat.zero_le _, q2x, q8x, hbw⟩ ⟨rfl, rfl, trivial⟩ ?_
        clear q2x q8x hbw
        rintro x wx ⟨hx, q2x, q8x, hbw⟩
        by_cases hlt : x < nt.ways.length
        ·
          obtain ⟨bw, ow, e_, _, wc⟩ := ways_cells nt.ways x hlt _ _ _ _ _ hr.ways
          subst e_
          obtain ⟨⟨wf0, wf1⟩, ⟨wt0, wt1⟩, wne, ⟨wc0, wc1⟩, wr0, wr1⟩ := hvw x hlt
          have hb1 := bnd2_bd hv hall x hx
          have hb2 := bnd2_bd hv hall (x + 1) hlt
          have hga := gain_bd hv hall hlt
          have hbn : bnd2 nt pr (x + 1) = bnd2 nt pr x - (nt.ways.getD x way0).room * max 0 (gainW pr (nt.ways.getD x way0)) := rfl
          rw [hbn] at hb2
          obtain ⟨y, ey⟩ : ∃ z, z = nt.ways.getD x way0 := ⟨_, rfl⟩
          rw [← ey] at wc wf0 wf1 wt0 wt1 wne wc0 wc1 wr0 wr1 hga hbn hb2
          obtain ⟨bb, ebb⟩ : ∃ z, z = bnd2 nt pr x := ⟨_, rfl⟩
          rw [← ebb] at hb1 hb2 hbn
          obtain ⟨gm, egm⟩ : ∃ z, z = max 0 (gainW pr y) := ⟨_, rfl⟩
          rw [← egm] at hb2 hbn
          have hg0 : 0 ≤ gm ∧ gm ≤ 1000000000 := by omega
          have hm0 : 0 ≤ y.room * gm := Int.mul_nonneg wr0 hg0.1
          have hm1 : y.room * gm ≤ 1000 * 1000000000 := Int.mul_le_mul wr1 hg0.2 hg0.1 (by omega)
          refine EC.seq ?_
          refine EC.region ?_
          refine EL.val (x_lss rfl rfl (decide_eq_true (show (((x : Nat) : Int) < ((nt.ways.length : Nat) : Int)) by omega))) rfl ?_
          refine EL.nil ?_
          refine EX.seq ?_
          refine EC.seq ?_
          refine EC.yes rfl ?_
          refine EC.skip ?_
          refine EX.seq ?_
          refine EC.seq ?_
          refine EC.block ?_
          refine EC.seq ?_
          refine EC.region ?_
          refine EL.val (ix_23 rfl rfl hlt) rfl ?_
          refine EL.val (ld_56 rfl (below_load hbw wc.c0) (below_load hbw wc.c1) (below_load hbw wc.c2) (below_load hbw wc.c3)) rfl ?_
          refine EL.newP al_56 rfl ?_
          intro g9 w9 q9 hb9 hg9 hl9
          have n1_9 : g1 ≠ g9 := Nat.ne_of_lt (Nat.lt_of_lt_of_le q2x.lt hg9)
          have n4_9 : g4 ≠ g9 := Nat.ne_of_lt (Nat.lt_of_lt_of_le q8x.lt hg9)
          have bhbw_9 := Nat.le_trans hbw.size hg9
          replace q2x := q2x.below hb9 q2x.lt
          replace q8x := q8x.below hb9 q8x.lt
          replace hbw := Below.on hbw hb9 hbw.size
          clear hb9 hg9 hl9
          refine EL.store rfl rfl q9 sz_56 rfl rfl rfl rfl ?_
          intro w10 hq10 hg10
          replace q2x := q2x.grown hg10 (fun h => n1_9 (Option.some.inj h))
          replace q8x := q8x.grown hg10 (fun h => n4_9 (Option.some.inj h))
          replace hbw := below_store hbw hg10 bhbw_9
          replace q9 := hq10
          clear hg10 hq10
          refine EL.nil ?_
          refine EX.seq ?_
          refine EC.regionQ (by kernel_rfl) (by kernel_rfl) ?_
          refine EQ.val (fun _ hw => (x_move rfl)) rfl ?_
          refine EQ.val (fun _ hw => (fa_56_3 rfl)) rfl ?_
          refine EQ.val (fun _ hw => (ld_3 rfl (below_load hw (q9.at (j := 3) rfl)))) rfl ?_
          refine EQ.val (fun _ hw => (ld_104 rfl (below_load hw (q8x.at (j := 0) rfl)) (below_load hw (q8x.at (j := 1) rfl)) (below_load hw (q8x.at (j := 2) rfl)))) rfl ?_
          refine EQ.val (fun _ hw => (ld_56 rfl (below_load hw (q9.at (j := 0) rfl)) (below_load hw (q9.at (j := 1) rfl)) (below_load hw (q9.at (j := 2) rfl)) (below_load hw (q9.at (j := 3) rfl)))) rfl ?_
          refine EQ.call (fun _ _ _ ha => cl_58 rfl rfl _ ha) rfl (fun W hw => (gain_any pr y _ _ _ W B (hrp.below ((hbw.trans (hw.mono hbw.size)).mono hB)) (Nat.le_trans (Nat.le_trans hB hbw.size) hw.size) ⟨wf0, by omega⟩ ⟨wt0, by omega⟩ ⟨wc0, wc1⟩ hnp hall).mono fun e w' h => ⟨h.1, hw.trans (h.2.mono hw.size)⟩) ?_
          refine EQ.val (fun _ hw => (mm_max rfl rfl egm.symm)) rfl ?_
          refine EQ.val (fun _ hw => (x_mul rfl rfl (IntWalk.i64_in _ ⟨by omega, by omega⟩))) rfl ?_
          refine EQ.val (fun _ hw => (x_sub rfl rfl (IntWalk.i64_in _ ⟨by omega, by omega⟩))) rfl ?_
          refine EQ.val (fun _ hw => (x_assign rfl)) rfl ?_
          refine EQ.fin (fun w11 hw_ => ?_)
          replace q2x := q2x.below hw_ q2x.lt
          replace q8x := q8x.below hw_ q8x.lt
          replace q9 := q9.below hw_ q9.lt
          replace hbw := Below.on hbw hw_ hbw.size
          clear hw_
          refine EX.blk ?_
          refine EX.seq ?_
          refine EC.region ?_
          refine EL.val (x_add rfl rfl (c := ((x + 1 : Nat) : Int)) ((IntWalk.i64_in _ ⟨by first | omega | (simp only; omega), by first | omega | (simp only; omega)⟩).trans (by first | omega | (simp only; omega)))) rfl ?_
          refine EL.val (x_move rfl) rfl ?_
          refine EL.nil ?_
          refine EX.roundD (x + 1) ⟨agree_of (by rw [hbn, ebb]) rfl, rfl, trivial⟩ (by repeat first | with_reducible exact Sub.refl _ | refine sub_past rfl ?_ | exact Sub.refl _ | refine sub_del rfl ?_ | refine sub_insL_nil ?_) ⟨hlt, q2x, q8x, hbw⟩ (by omega)
        ·
          have hxe : x = nt.ways.length := by omega
          subst hxe
          refine EC.seq ?_
          refine EC.region ?_
          refine EL.val (x_lss rfl rfl (decide_eq_false (show ¬(((nt.ways.length : Nat) : Int) < ((nt.ways.length : Nat) : Int)) by omega))) rfl ?_
          refine EL.nil ?_
          refine EX.seq ?_
          refine EC.seq ?_
          refine EC.no rfl ?_
          refine EC.exit ?_
          refine EX.seq_exit ?_
          refine EX.seq_exit ?_
          refine EX.blk_here ?_
          refine EX.seq ?_
          refine EC.seq ?_
          refine EC.region ?_
          refine EL.val (x_move rfl) rfl ?_
          refine EL.val (x_assign rfl) rfl ?_
          refine EL.val (x_assign rfl) rfl ?_
          refine EL.nil ?_
          refine EX.seq ?_
          refine EC.ret ?_
          exact EX.done (res2 rfl rfl rfl) ⟨by rw [bndV, bndE, if_pos hv, hp0]; rfl, hbw⟩
    ·
      refine EL.call (cl_57 rfl rfl) rfl (prices_err nt _ _ _ B (hr.below (hbw.mono hB)) (Nat.le_trans hB hbw.size) hn1 hn2 pr _ (hrp.below (hbw.mono hB)) hnp) ?_
      rintro e w12 ⟨rfl, hc12⟩
      refine ⟨_, rfl, ?_⟩
      replace q1 := q1.below hc12 q1.lt
      replace hbw := Below.on hbw hc12 hbw.size
      clear hc12
      refine EL.val (x_assign rfl) rfl ?_
      refine EL.nil ?_
      refine EX.seq ?_
      refine EC.seq ?_
      refine EC.region ?_
      refine EL.val (x_move rfl) rfl ?_
      refine EL.val (x_neq (r := true) rfl rfl (decide_eq_true hp0)) rfl ?_
      refine EL.nil ?_
      refine EX.seq ?_
      refine EC.yes rfl ?_
      refine EC.seq ?_
      refine EC.region ?_
      refine EL.val (x_move rfl) rfl ?_
      refine EL.val (x_assign rfl) rfl ?_
      refine EL.val (x_assign rfl) rfl ?_
      refine EL.nil ?_
      refine EX.seq ?_
      refine EC.ret ?_
      refine EX.seq_ret ?_
      exact EX.done (res2 rfl rfl rfl) ⟨by rw [bndV, bndE, if_pos hv, if_neg hp0], hbw⟩
  ·
    refine EL.call (cl_27 rfl) rfl (check_to (e0 := 2) (by rw [netE, if_neg hv]) _ _ _ B (hr.below (hbw.mono hB)) (Nat.le_trans hB hbw.size) hn1 hn2) ?_
    rintro e w13 ⟨rfl, hc13⟩
    refine ⟨_, rfl, ?_⟩
    replace q1 := q1.below hc13 q1.lt
    replace hbw := Below.on hbw hc13 hbw.size
    clear hc13
    refine EL.val (x_assign rfl) rfl ?_
    refine EL.nil ?_
    refine EX.seq ?_
    refine EC.seq ?_
    refine EC.region ?_
    refine EL.val (x_move rfl) rfl ?_
    refine EL.val (x_neq (r := true) rfl rfl (by decide)) rfl ?_
    refine EL.nil ?_
    refine EX.seq ?_
    refine EC.yes rfl ?_
    refine EC.seq ?_
    refine EC.region ?_
    refine EL.val (x_move rfl) rfl ?_
    refine EL.val (x_assign rfl) rfl ?_
    refine EL.val (x_assign rfl) rfl ?_
    refine EL.nil ?_
    refine EX.seq ?_
    refine EC.ret ?_
    refine EX.seq_ret ?_
    exact EX.done (res2 rfl rfl rfl) ⟨by rw [bndV, bndE, if_neg hv]; rfl, hbw⟩
end Go.Proofs.Ytabgmnmpdjnjoaa
set_option linter.unusedVariables false
set_option linter.unusedSimpArgs false
namespace Go.Proofs.Ytabgmnmpdjnjoaa
/-- what Move answers -/
def MoveR (nt : Net) (ml : List Int) (cost : Int) (pr : List Int) (err : Int) : Prop :=
  (netB nt = false ∧ err = 2 ∧ cost = 0 ∧ ml = [] ∧ pr = []) ∨
  (netB nt = true ∧ ∃ L, FillTo nt (openL nt) L ∧ St nt L ∧ ((fullB nt L = false ∧ err = 7 ∧ cost = 0 ∧ ml = [] ∧ pr = []) ∨ (fullB nt L = true ∧ err = 0 ∧ ml = movesL L nt.ways.length ∧ cost = costTo nt ml nt.ways.length ∧ PricesOf nt L pr)))
theorem MoveR.one {nt : Net} {ml pr ml' pr' : List Int} {cost cost' err err' : Int} (h : MoveR nt ml cost pr err) (h' : MoveR nt ml' cost' pr' err') : ml = ml' ∧ cost = cost' ∧ pr = pr' ∧ err = err' := by
  rcases h with ⟨h1, h2, h3, h4, h5⟩ | ⟨hv, L, hf, _, h⟩
  · rcases h' with ⟨_, g2, g3, g4, g5⟩ | ⟨hv, _⟩
    · exact ⟨by rw [h4, g4], by rw [h3, g3], by rw [h5, g5], by rw [h2, g2]⟩
    · rw [h1] at hv; cases hv
  · rcases h' with ⟨g1, _⟩ | ⟨_, L', hf', _, h'⟩
    · rw [g1] at hv; cases hv
    · have e := hf.one hf'
      subst e
      rcases h with ⟨h1, h2, h3, h4, h5⟩ | ⟨h1, h2, h3, h4, h5⟩
      · rcases h' with ⟨_, g2, g3, g4, g5⟩ | ⟨g1, _⟩
        · exact ⟨by rw [h4, g4], by rw [h3, g3], by rw [h5, g5], by rw [h2, g2]⟩
        · rw [g1] at h1; cases h1
      · rcases h' with ⟨g1, _⟩ | ⟨_, g2, g3, g4, g5⟩
        · rw [g1] at h1; cases h1
        · exact ⟨by rw [h3, g3], by rw [h4, g4, h3, g3], h5.one g5, by rw [h2, g2]⟩
theorem moves_len (L : List Arc) (k : Nat) : (movesL L k).length = k := by simp [movesL]
theorem moves_at (L : List Arc) {k i : Nat} (h : i < k) : (movesL L k).getD i 0 = (arcAt L (2 * i + 1)).room := by simp [movesL, List.getD, h]
theorem pricesL_len (nt : Net) (l l2 : List Int) : (pricesL nt l l2).length = nt.ports.length := by simp [pricesL]
theorem PricesOf.len {nt : Net} {L : List Arc} {pr : List Int} (h : PricesOf nt L pr) : pr.length = nt.ports.length := by
  obtain ⟨l, b, l2, _, _, rfl⟩ := h
  exact pricesL_len nt l l2
/-- what hulls cost that are moved -/
theorem cost_moves {nt : Net} {L : List Arc} (hv : netB nt = true) (hst : St nt L) : ∀ k, k ≤ nt.ways.length → -(1000000000 * (k : Int)) ≤ costTo nt (movesL L nt.ways.length) k ∧ costTo nt (movesL L nt.ways.length) k ≤ 1000000000 * (k : Int)
  | 0, _ => by show _ ≤ (0 : Int) ∧ (0 : Int) ≤ _; omega
  | k + 1, hk => by
    obtain ⟨_, _, _, hvw⟩ := netB_ok hv
    have hw := hvw k (by omega)
    have h1 := cost_moves hv hst k (by omega)
    have h2 := hst.rooms hv (2 * k + 1)
    have h3 := mul_bd (a := (nt.ways.getD k way0).cost) (b := (arcAt L (2 * k + 1)).room) (A := 1000000) (B := 1000) hw.2.2.2.1.1 hw.2.2.2.1.2 h2.1 h2.2 (by omega)
    rw [costTo, moves_at L (by omega), Int.mul_comm (arcAt L (2 * k + 1)).room]
    omega
/-! ### Lacks -/
section
variable (nt : Net)
def lk1 (ls : List Int) : Nat → Int
  | 0 => 0
  | k + 1 => lk1 ls k + ((nt.ports.getD (ls.getD k 0).toNat prt0).wants - (nt.ports.getD (ls.getD k 0).toNat prt0).has)
def lkB (f : Nat → Bool) (i : Nat) : Bool := f (nt.ways.getD i way0).to.toNat && !f (nt.ways.getD i way0).fr.toNat
def lk2 (f : Nat → Bool) : Nat → Int
  | 0 => lk1 nt (lackL f nt.ports.length) (lackL f nt.ports.length).length
  | k + 1 => if lkB nt f k = true then lk2 f k - (nt.ways.getD k way0).room else lk2 f k
end
/-- what Lacks answers -/
def LacksR (nt : Net) (ls : List Int) (lack err : Int) : Prop :=
  (netB nt = false ∧ err = 2 ∧ lack = 0 ∧ ls = []) ∨
  (netB nt = true ∧ err = 0 ∧ ∃ L f, FillTo nt (openL nt) L ∧ St nt L ∧ (∀ v, f v = true ↔ Lk L (nt.ports.length + 1) v) ∧ ls = lackL f nt.ports.length ∧ lack = lk2 nt f nt.ways.length)
theorem lackL_mem {f : Nat → Bool} {n : Nat} {x : Int} : x ∈ lackL f n ↔ ∃ v, v < n ∧ f v = true ∧ x = ((v : Nat) : Int) := by
  unfold lackL
  rw [List.mem_map]
  constructor
  · rintro ⟨v, hv, rfl⟩
    have := List.mem_filter.1 hv
    exact ⟨v, List.mem_range.1 this.1, this.2, rfl⟩
  · rintro ⟨v, h1, h2, rfl⟩
    exact ⟨v, List.mem_filter.2 ⟨List.mem_range.2 h1, h2⟩, rfl⟩
theorem lackL_at {f : Nat → Bool} {n k : Nat} (h : k < (lackL f n).length) : ∃ v, v < n ∧ f v = true ∧ (lackL f n).getD k 0 = ((v : Nat) : Int) := by
  have hm : (lackL f n).getD k 0 ∈ lackL f n := by rw [show (lackL f n).getD k 0 = (lackL f n)[k] by simp [List.getD, h]]; exact List.getElem_mem h
  obtain ⟨v, h1, h2, h3⟩ := lackL_mem.1 hm
  exact ⟨v, h1, h2, h3⟩
theorem lackL_any {f : Nat → Bool} {n : Nat} {v : Int} (h0 : 0 ≤ v) (h1 : v < n) : (lackL f n).any (fun y => decide (v = y)) = f v.toNat := by
  cases e : f v.toNat with
  | true =>
    rw [List.any_eq_true]
    exact ⟨v, lackL_mem.2 ⟨v.toNat, by omega, e, by omega⟩, by simp⟩
  | false =>
    rw [List.any_eq_false]
    intro y hy
    obtain ⟨u, h2, h3, rfl⟩ := lackL_mem.1 hy
    intro h4
    have h4 := of_decide_eq_true h4
    rw [h4, Int.toNat_natCast, h3] at e
    cases e
theorem lk1_bd {nt : Net} (hv : netB nt = true) (f : Nat → Bool) : ∀ k, k ≤ (lackL f nt.ports.length).length → -(1000 * (k : Int)) ≤ lk1 nt (lackL f nt.ports.length) k ∧ lk1 nt (lackL f nt.ports.length) k ≤ 1000 * (k : Int)
  | 0, _ => by show _ ≤ (0 : Int) ∧ (0 : Int) ≤ _; omega
  | k + 1, hk => by
    obtain ⟨_, _, hvp, _⟩ := netB_ok hv
    have h1 := lk1_bd hv f k (by omega)
    obtain ⟨v, h2, _, h3⟩ := lackL_at (f := f) (n := nt.ports.length) (k := k) (by omega)
    have h4 := hvp v h2
    rw [lk1, h3, Int.toNat_natCast]
    omega
theorem lk2_bd {nt : Net} (hv : netB nt = true) (f : Nat → Bool) : ∀ k, k ≤ nt.ways.length → -(60000 + 1000 * (k : Int)) ≤ lk2 nt f k ∧ lk2 nt f k ≤ 60000
  | 0, _ => by
    obtain ⟨⟨_, h60⟩, _⟩ := netB_ok hv
    have h1 := lk1_bd hv f _ (Nat.le_refl _)
    have h2 := lackL_len f nt.ports.length
    rw [lk2]
    omega
  | k + 1, hk => by
    obtain ⟨_, _, _, hvw⟩ := netB_ok hv
    have h1 := lk2_bd hv f k (by omega)
    have h2 := hvw k (by omega)
    rw [lk2]
    split <;> omega
/-! ### More -/
def moreP (p : Prt) : Prt := ⟨p.has + 1, p.wants⟩
def moreN (nt : Net) (i : Nat) : Net := ⟨nt.ports.set i (moreP (nt.ports.getD i prt0)), nt.ways⟩
/-- what More answers -/
def MoreR (nt : Net) (port m err : Int) : Prop :=
  (netB nt = false ∧ m = 0 ∧ err = 2) ∨ (netB nt = true ∧
    ((¬(0 ≤ port ∧ port < nt.ports.length) ∧ m = 0 ∧ err = 7) ∨ ((0 ≤ port ∧ port < nt.ports.length) ∧
      (((nt.ports.getD port.toNat prt0).has = 1000 ∧ m = 0 ∧ err = 8) ∨ ((nt.ports.getD port.toNat prt0).has ≠ 1000 ∧ ∃ ml c pr e, MoveR nt ml c pr e ∧
        ((e ≠ 0 ∧ m = 0 ∧ err = 9) ∨ (e = 0 ∧ err = 0 ∧ ∃ ml2 c2 pr2 e2, MoveR (moreN nt port.toNat) ml2 c2 pr2 e2 ∧ m = c - c2)))))))
theorem MoreR.one {nt : Net} {port m err m' err' : Int} (h : MoreR nt port m err) (h' : MoreR nt port m' err') : m = m' ∧ err = err' := by
  rcases h with ⟨h1, h2, h3⟩ | ⟨hv, h⟩ <;> rcases h' with ⟨g1, g2, g3⟩ | ⟨gv, h'⟩
  · exact ⟨by omega, by omega⟩
  · rw [h1] at gv; cases gv
  · rw [g1] at hv; cases hv
  · rcases h with ⟨h1, h2, h3⟩ | ⟨hp, h⟩ <;> rcases h' with ⟨g1, g2, g3⟩ | ⟨gp, h'⟩
    · exact ⟨by omega, by omega⟩
    · exact absurd gp h1
    · exact absurd hp g1
    · rcases h with ⟨h1, h2, h3⟩ | ⟨hh, ml, c, pr, e, hm, h⟩ <;> rcases h' with ⟨g1, g2, g3⟩ | ⟨gh, ml', c', pr', e', gm, h'⟩
      · exact ⟨by omega, by omega⟩
      · exact absurd h1 gh
      · exact absurd g1 hh
      · obtain ⟨_, e1, _, e2⟩ := hm.one gm
        rcases h with ⟨h1, h2, h3⟩ | ⟨h1, h2, ml2, c2, pr2, e3, hm2, h3⟩ <;> rcases h' with ⟨g1, g2, g3⟩ | ⟨g1, g2, ml2', c2', pr2', e3', gm2, g3⟩
        · exact ⟨by omega, by omega⟩
        · exact absurd (e2.trans g1) h1
        · exact absurd (e2.symm.trans h1) g1
        · have := (hm2.one gm2).2.1
          exact ⟨by omega, by omega⟩
theorem move_bd {nt : Net} {ml pr : List Int} {c e : Int} (h : MoveR nt ml c pr e) : -1000000000000 ≤ c ∧ c ≤ 1000000000000 := by
  rcases h with ⟨_, _, h3, _⟩ | ⟨hv, L, hf, hst, ⟨_, _, h3, _⟩ | ⟨_, _, h3, h4, _⟩⟩
  · omega
  · omega
  · obtain ⟨_, hw, _⟩ := netB_ok hv
    have := cost_moves hv hst nt.ways.length (Nat.le_refl _)
    rw [← h3, ← h4] at this
    omega
end Go.Proofs.Ytabgmnmpdjnjoaa
set_option linter.unusedVariables false
set_option linter.unusedSimpArgs false
namespace Go.Proofs.Ytabgmnmpdjnjoaa
open Go Go.RowKit
section
variable {n : Nat} {σ : Sg} {w : World} {dst : Option Tmp} {ty : TypeId} {pos : String} {af : Array Edge} {g : Option (Nat × Bool)} {x y z : Operand} {at' : Array TypeId}
theorem cl_72 {x0 x1 : Operand} {v0 v1 : Value} (h0 : evS σ x0 = some v0) (h1 : evS σ x1 = some v1) (a : Act) (ha : Env n σ a) : (execOp a.eval ⟨dst, .call { callee := .value (.func 72), args := #[x0, x1], argTypes := at' }, ty, pos, af, g⟩).run Try.prog w = .ok (.enter 72 #[v0, v1]) w := by
  simp only [execOp, resolve, List.map_toArray, List.map_cons, List.map_nil, ha.eval h0, ha.eval h1]
  simp [go_sem, Act.eval]
theorem cl_38 {x0 : Operand} {v0 : Value} (h0 : evS σ x0 = some v0) (a : Act) (ha : Env n σ a) : (execOp a.eval ⟨dst, .call { callee := .value (.func 38), args := #[x0], argTypes := at' }, ty, pos, af, g⟩).run Try.prog w = .ok (.enter 38 #[v0]) w := by
  simp only [execOp, resolve, List.map_toArray, List.map_cons, List.map_nil, ha.eval h0]
  simp [go_sem, Act.eval]
theorem cl_39 {x0 : Operand} {v0 : Value} (h0 : evS σ x0 = some v0) (a : Act) (ha : Env n σ a) : (execOp a.eval ⟨dst, .call { callee := .value (.func 39), args := #[x0], argTypes := at' }, ty, pos, af, g⟩).run Try.prog w = .ok (.enter 39 #[v0]) w := by
  simp only [execOp, resolve, List.map_toArray, List.map_cons, List.map_nil, ha.eval h0]
  simp [go_sem, Act.eval]
theorem cl_40 {x0 : Operand} {v0 : Value} (h0 : evS σ x0 = some v0) (a : Act) (ha : Env n σ a) : (execOp a.eval ⟨dst, .call { callee := .value (.func 40), args := #[x0], argTypes := at' }, ty, pos, af, g⟩).run Try.prog w = .ok (.enter 40 #[v0]) w := by
  simp only [execOp, resolve, List.map_toArray, List.map_cons, List.map_nil, ha.eval h0]
  simp [go_sem, Act.eval]
theorem cl_41 {x0 : Operand} {v0 : Value} (h0 : evS σ x0 = some v0) (a : Act) (ha : Env n σ a) : (execOp a.eval ⟨dst, .call { callee := .value (.func 41), args := #[x0], argTypes := at' }, ty, pos, af, g⟩).run Try.prog w = .ok (.enter 41 #[v0]) w := by
  simp only [execOp, resolve, List.map_toArray, List.map_cons, List.map_nil, ha.eval h0]
  simp [go_sem, Act.eval]
theorem cl_49 {x0 : Operand} {v0 : Value} (h0 : evS σ x0 = some v0) (a : Act) (ha : Env n σ a) : (execOp a.eval ⟨dst, .call { callee := .value (.func 49), args := #[x0], argTypes := at' }, ty, pos, af, g⟩).run Try.prog w = .ok (.enter 49 #[v0]) w := by
  simp only [execOp, resolve, List.map_toArray, List.map_cons, List.map_nil, ha.eval h0]
  simp [go_sem, Act.eval]
theorem cl_50 {x0 x1 : Operand} {v0 v1 : Value} (h0 : evS σ x0 = some v0) (h1 : evS σ x1 = some v1) (a : Act) (ha : Env n σ a) : (execOp a.eval ⟨dst, .call { callee := .value (.func 50), args := #[x0, x1], argTypes := at' }, ty, pos, af, g⟩).run Try.prog w = .ok (.enter 50 #[v0, v1]) w := by
  simp only [execOp, resolve, List.map_toArray, List.map_cons, List.map_nil, ha.eval h0, ha.eval h1]
  simp [go_sem, Act.eval]
end
end Go.Proofs.Ytabgmnmpdjnjoaa
set_option linter.unusedVariables false
set_option linter.unusedSimpArgs false
namespace Go.Proofs.Ytabgmnmpdjnjoaa
open Go Go.RowKit
theorem index_eq (l : List Int) (v : Int) (vs : Value) (w : World) (B : Nat) (hr : Rd w B 1 vs l.length (ints l)) (hB : B ≤ w.heap.size) (hn : l.length ≤ 1073741824) :
    Calls Try.prog 72 #[vs, .int .i64 v] w fun e w' => (∃ r : Int, e = .returned (.int .i64 r) ∧ decide (0 ≤ r) = l.any (fun y => decide (v = y))) ∧ Below w.heap.size w w' := by
  obtain ⟨A, c, rfl, _⟩ := hr.shape
  have hbw := Below.refl w.heap.size w
  refine EC.enter 19 Try.func72 rfl rfl rfl ?_
  refine EC.seq ?_
  refine EC.region ?_
  refine EL.val (x_assign rfl) rfl ?_
  refine EL.nil ?_
  refine EX.seq ?_
  refine EC.seq ?_
  refine EC.seq ?_
  refine EC.region ?_
  refine EL.val (x_move rfl) rfl ?_
  refine EL.val (ln_29 rfl) rfl ?_
  refine EL.val (x_move rfl) rfl ?_
  refine EL.nil ?_
  refine EX.seq ?_
  refine EC.block ?_
  refine EC.loopD [4, 5, 8, 9, 10, 11, 12, 13, 14, 15, 16, 17, 18] (fun x : Nat => [(8, .int .i64 (x : Nat))]) (fun x W => x ≤ l.length ∧ (l.take x).any (fun y => decide (v = y)) = false ∧ Below w.heap.size w W) (fun x => l.length - x) 0 ⟨Nat.zero_le _, rfl, hbw⟩ ⟨rfl, trivial⟩ ?_
  clear hbw
  rintro x wx ⟨hx, hno, hbw⟩
  by_cases hlt : x < l.length
  ·
    obtain ⟨b1, o1, e_, _, c1_⟩ := ints_cells l x hlt _ _ _ _ _ hr
    subst e_
    have htk := any_take (p := fun y => decide (v = y)) (d := 0) hlt
    rw [hno, Bool.false_or] at htk
    by_cases heq : v = l.getD x 0
    ·
      refine EC.seq ?_
      refine EC.region ?_
      refine EL.val (x_lss rfl rfl (decide_eq_true (show (((x : Nat) : Int) < ((l.length : Nat) : Int)) by omega))) rfl ?_
      refine EL.nil ?_
      refine EX.seq ?_
      refine EC.seq ?_
      refine EC.yes rfl ?_
      refine EC.skip ?_
      refine EX.seq ?_
      refine EC.seq ?_
      refine EC.block ?_
      refine EC.seq ?_
      refine EC.region ?_
      refine EL.val (x_move rfl) rfl ?_
      refine EL.val (x_assign rfl) rfl ?_
      refine EL.nil ?_
      refine EX.seq ?_
      refine EC.seq ?_
      refine EC.region ?_
      refine EL.val (x_move rfl) rfl ?_
      refine EL.val (x_move rfl) rfl ?_
      refine EL.val (x_move rfl) rfl ?_
      refine EL.val (ix_29 rfl rfl hlt) rfl ?_
      refine EL.val (ld_3 rfl (below_load hbw c1_)) rfl ?_
      refine EL.val (x_eql (r := true) rfl rfl (decide_eq_true heq)) rfl ?_
      refine EL.nil ?_
      refine EX.seq ?_
      refine EC.yes rfl ?_
      refine EC.seq ?_
      refine EC.region ?_
      refine EL.val (x_move rfl) rfl ?_
      refine EL.val (x_assign rfl) rfl ?_
      refine EL.nil ?_
      refine EX.seq ?_
      refine EC.ret ?_
      refine EX.blk_ret ?_
      refine EX.seq_ret ?_
      refine EX.seq_ret ?_
      refine EX.blk_ret ?_
      refine EX.seq_ret ?_
      exact EX.done (res1 rfl rfl) ⟨⟨_, rfl, by rw [any_at (d := 0) hlt (decide_eq_true heq), decide_eq_true (by omega)]⟩, hbw⟩
    ·
      refine EC.seq ?_
      refine EC.region ?_
      refine EL.val (x_lss rfl rfl (decide_eq_true (show (((x : Nat) : Int) < ((l.length : Nat) : Int)) by omega))) rfl ?_
      refine EL.nil ?_
      refine EX.seq ?_
      refine EC.seq ?_
      refine EC.yes rfl ?_
      refine EC.skip ?_
      refine EX.seq ?_
      refine EC.seq ?_
      refine EC.block ?_
      refine EC.seq ?_
      refine EC.region ?_
      refine EL.val (x_move rfl) rfl ?_
      refine EL.val (x_assign rfl) rfl ?_
      refine EL.nil ?_
      refine EX.seq ?_
      refine EC.seq ?_
      refine EC.region ?_
      refine EL.val (x_move rfl) rfl ?_
      refine EL.val (x_move rfl) rfl ?_
      refine EL.val (x_move rfl) rfl ?_
      refine EL.val (ix_29 rfl rfl hlt) rfl ?_
      refine EL.val (ld_3 rfl (below_load hbw c1_)) rfl ?_
      refine EL.val (x_eql (r := false) rfl rfl (decide_eq_false heq)) rfl ?_
      refine EL.nil ?_
      refine EX.seq ?_
      refine EC.no rfl ?_
      refine EC.skip ?_
      refine EX.blk ?_
      refine EX.seq ?_
      refine EC.region ?_
      refine EL.val (x_add rfl rfl (c := ((x + 1 : Nat) : Int)) ((IntWalk.i64_in _ ⟨by first | omega | (simp only; omega), by first | omega | (simp only; omega)⟩).trans (by first | omega | (simp only; omega)))) rfl ?_
      refine EL.val (x_move rfl) rfl ?_
      refine EL.nil ?_
      refine EX.roundD (x + 1) ⟨rfl, trivial⟩ (by repeat first | with_reducible exact Sub.refl _ | refine sub_past rfl ?_ | exact Sub.refl _ | refine sub_del rfl ?_ | refine sub_insL_nil ?_) ⟨hlt, htk.trans (decide_eq_false heq), hbw⟩ (by omega)
  ·
    have hxe : x = l.length := by omega
    subst hxe
    rw [List.take_length] at hno
    refine EC.seq ?_
    refine EC.region ?_
    refine EL.val (x_lss rfl rfl (decide_eq_false (show ¬(((l.length : Nat) : Int) < ((l.length : Nat) : Int)) by omega))) rfl ?_
    refine EL.nil ?_
    refine EX.seq ?_
    refine EC.seq ?_
    refine EC.no rfl ?_
    refine EC.exit ?_
    refine EX.seq_exit ?_
    refine EX.seq_exit ?_
    refine EX.blk_here ?_
    refine EX.seq ?_
    refine EC.seq ?_
    refine EC.region ?_
    refine EL.val (x_assign rfl) rfl ?_
    refine EL.nil ?_
    refine EX.seq ?_
    refine EC.ret ?_
    exact EX.done (res1 rfl rfl) ⟨⟨_, rfl, by rw [hno]; rfl⟩, hbw⟩
theorem contains_eq (l : List Int) (v : Int) (vs : Value) (w : World) (B : Nat) (hr : Rd w B 1 vs l.length (ints l)) (hB : B ≤ w.heap.size) (hn : l.length ≤ 1073741824) :
    Calls Try.prog 50 #[vs, .int .i64 v] w fun e w' => e = .returned (.bool (l.any (fun y => decide (v = y)))) ∧ Below w.heap.size w w' := by
  obtain ⟨A, c, rfl, _⟩ := hr.shape
  have hbw := Below.refl w.heap.size w
  refine EC.enter 9 Try.func50 rfl rfl rfl ?_
  refine EC.seq ?_
  refine EC.region ?_
  refine EL.val (x_assign rfl) rfl ?_
  refine EL.nil ?_
  refine EX.seq ?_
  refine EC.seq ?_
  refine EC.region ?_
  refine EL.val (x_move rfl) rfl ?_
  refine EL.val (x_move rfl) rfl ?_
  refine EL.call (cl_72 rfl rfl) rfl (index_eq l v _ _ B (hr.below (hbw.mono hB)) (Nat.le_trans hB hbw.size) hn) ?_
  rintro e w1 ⟨⟨ri, rfl, hri⟩, hc1⟩
  refine ⟨_, rfl, ?_⟩
  replace hbw := Below.on hbw hc1 hbw.size
  clear hc1
  refine EL.val (x_geq (r := l.any (fun y => decide (v = y))) rfl rfl hri) rfl ?_
  refine EL.val (x_assign rfl) rfl ?_
  refine EL.nil ?_
  refine EX.seq ?_
  refine EC.ret ?_
  exact EX.done (res1 rfl rfl) ⟨rfl, hbw⟩
theorem contains_to {l : List Int} {v : Int} {b : Bool} (h : l.any (fun y => decide (v = y)) = b) (vs : Value) (w : World) (B : Nat) (hr : Rd w B 1 vs l.length (ints l)) (hB : B ≤ w.heap.size) (hn : l.length ≤ 1073741824) :
    Calls Try.prog 50 #[vs, .int .i64 v] w fun e w' => e = .returned (.bool b) ∧ Below w.heap.size w w' := h ▸ contains_eq l v vs w B hr hB hn
theorem res4 {P : Program} {n : Nat} {σ : Sg} {w : World} {fn : Func} {t s r q : Tmp} {v u x y : Value} (h : fn.results = #[.tmp t, .tmp s, .tmp r, .tmp q]) (ht : σ t = some v) (hs : σ s = some u) (hx : σ r = some x) (hy : σ q = some y) (a : Act) (ha : Env n σ a) : (results fn a.tmps).run P w = .ok (.tuple #[v, u, x, y]) w := by
  have h1 : a.tmps.getD t undef = v := ha.eval (x := .tmp t) ht
  have h2 : a.tmps.getD s undef = u := ha.eval (x := .tmp s) hs
  have h3 : a.tmps.getD r undef = x := ha.eval (x := .tmp r) hx
  have h4 : a.tmps.getD q undef = y := ha.eval (x := .tmp q) hy
  simp [results, h]
  rw [Array.getD_eq_getD_getElem?] at h1 h2 h3 h4
  simp [h1, h2, h3, h4]
set_option maxHeartbeats 1000000 in
theorem move_any (nt : Net) (vp vw : Value) (w : World) (B : Nat) (hr : RdNet w B vp vw nt) (hB : B ≤ w.heap.size) (hn1 : nt.ports.length ≤ 1073741824) (hn2 : nt.ways.length ≤ 1073741824) :
    Calls Try.prog 15 #[.agg #[vp, vw]] w fun e w' => (∃ vm vr ml cost pr err, e = .returned (.tuple #[vm, .int .i64 cost, vr, .int .i64 err]) ∧ MoveR nt ml cost pr err ∧ Rd w' w'.heap.size 1 vm ml.length (ints ml) ∧ Rd w' w'.heap.size 1 vr pr.length (ints pr)) ∧ Below w.heap.size w w' := by
  obtain ⟨Ap, cp_, rfl, _⟩ := hr.ports.shape
  obtain ⟨Aw, cw_, rfl, _⟩ := hr.ways.shape
  have hbw := Below.refl w.heap.size w
  refine EC.enter 44 Try.func15 rfl rfl rfl ?_
  refine EC.seq ?_
  refine EC.region ?_
  refine EL.newP (bx_25 rfl) rfl ?_
  intro g1 w1 q1 hb1 hg1 hl1
  have bhbw_1 := Nat.le_trans hbw.size hg1
  replace hbw := Below.on hbw hb1 hbw.size
  clear hb1 hg1 hl1
  refine EL.val (x_assign rfl) rfl ?_
  refine EL.val (x_assign rfl) rfl ?_
  refine EL.val (x_assign rfl) rfl ?_
  refine EL.val (x_assign rfl) rfl ?_
  refine EL.nil ?_
  refine EX.seq ?_
  refine EC.seq ?_
  refine EC.seq ?_
  refine EC.region ?_
  refine EL.val (ld_25 rfl (q1.at (j := 0) rfl) (q1.at (j := 1) rfl)) rfl ?_
  by_cases hv : netB nt = true
  ·
    obtain ⟨⟨hp1, hp60⟩, hw300, hvp, hvw⟩ := netB_ok hv
    have hN : (openL nt).length = nt.ways.length * 2 + nt.ports.length * 4 := openL_len nt
    refine EL.call (cl_27 rfl) rfl (check_to (e0 := 0) (by rw [netE, if_pos hv]) _ _ _ B (hr.below (hbw.mono hB)) (Nat.le_trans hB hbw.size) hn1 hn2) ?_
    rintro e w2 ⟨rfl, hc2⟩
    refine ⟨_, rfl, ?_⟩
    replace q1 := q1.below hc2 q1.lt
    replace hbw := Below.on hbw hc2 hbw.size
    clear hc2
    refine EL.val (x_assign rfl) rfl ?_
    refine EL.nil ?_
    refine EX.seq ?_
    refine EC.seq ?_
    refine EC.region ?_
    refine EL.val (x_move rfl) rfl ?_
    refine EL.val (x_neq (r := false) rfl rfl (by decide)) rfl ?_
    refine EL.nil ?_
    refine EX.seq ?_
    refine EC.no rfl ?_
    refine EC.skip ?_
    refine EX.seq ?_
    refine EC.seq ?_
    refine EC.region ?_
    refine EL.val (ld_25 rfl (q1.at (j := 0) rfl) (q1.at (j := 1) rfl)) rfl ?_
    obtain ⟨wO, ewO⟩ : ∃ z, z = w2 := ⟨_, rfl⟩
    have hlt1 := q1.lt
    have hszO := hbw.size
    refine EL.call (cl_38 rfl) rfl (open_any nt _ _ _ B (hr.below (hbw.mono hB)) (Nat.le_trans hB hbw.size) hn1 hn2 hv) ?_
    rintro e w3 ⟨⟨g, va, rfl, hq, ho, hgO⟩, hc3⟩
    refine ⟨_, rfl, ?_⟩
    have hup : UpTo wO.heap.size wO w3 := by rw [ewO]; exact ⟨hc3, hc3.size⟩
    rw [← ewO] at hgO ho hlt1 hszO
    replace q1 := q1.below hc3 q1.lt
    replace hbw := Below.on hbw hc3 hbw.size
    clear hc3
    refine EL.val (x_assign rfl) rfl ?_
    refine EL.nil ?_
    refine EX.seq ?_
    refine EC.seq ?_
    refine EC.seq ?_
    refine EC.region ?_
    refine EL.val (x_move rfl) rfl ?_
    refine EL.call (cl_39 rfl) rfl (fill_any hv (openL nt) wO.heap.size g _ (open_st hv) hq ho hgO hup.size) ?_
    rintro e w4 ⟨⟨L, hfill, hst, rfl, hq2, ho2⟩, hup2⟩
    refine ⟨_, rfl, ?_⟩
    replace q1 := q1.below hup2.low hlt1
    replace hbw := hbw.trans (hup2.low.mono hszO)
    replace hup := hup.trans hup2
    clear hq ho hup2
    have hq := hq2
    have ho := ho2
    clear hq2 ho2
    have hLl := hst.good.len
    cases hfb : fullB nt L
    ·
      refine EL.val (x_not rfl) rfl ?_
      refine EL.nil ?_
      refine EX.seq ?_
      refine EC.yes rfl ?_
      refine EC.seq ?_
      refine EC.region ?_
      refine EL.val (x_assign rfl) rfl ?_
      refine EL.val (x_assign rfl) rfl ?_
      refine EL.val (x_assign rfl) rfl ?_
      refine EL.val (x_assign rfl) rfl ?_
      refine EL.nil ?_
      refine EX.seq ?_
      refine EC.ret ?_
      refine EX.seq_ret ?_
      exact EX.done (res4 rfl rfl rfl rfl rfl) ⟨⟨_, _, [], 0, [], 7, rfl, .inr ⟨hv, L, hfill, hst, .inl ⟨hfb, rfl, rfl, rfl, rfl⟩⟩, Rd.nil_ _ _ _, Rd.nil_ _ _ _⟩, hbw⟩
    ·
      refine EL.val (x_not rfl) rfl ?_
      refine EL.nil ?_
      refine EX.seq ?_
      refine EC.no rfl ?_
      refine EC.skip ?_
      refine EX.seq ?_
      refine EC.seq ?_
      refine EC.region ?_
      refine EL.val (x_move rfl) rfl ?_
      obtain ⟨A9, c9, rfl, _⟩ := (Rd.of_own ho).shape
      refine EL.call (cl_40 rfl) rfl (moves_any L g _ _ hq (by rw [hst.good.len]; exact Rd.of_own ho) (Nat.le_refl _) (by omega) (by omega)) ?_
      rintro e w5 ⟨⟨vm, rfl, hml⟩, hc5⟩
      refine ⟨_, rfl, ?_⟩
      replace hml := own_less hml (Nat.zero_le _)
      replace q1 := q1.below hc5 q1.lt
      replace hq := hq.below hc5 hq.lt
      replace ho := own_below ho hc5 (Nat.le_refl _)
      replace hup := hup.below hc5
      replace hbw := Below.on hbw hc5 hbw.size
      clear hc5
      obtain ⟨Am, cm_, rfl, _⟩ := (Rd.of_own hml).shape
      refine EL.val (x_assign rfl) rfl ?_
      refine EL.nil ?_
      refine EX.seq ?_
      refine EC.seq ?_
      refine EC.seq ?_
      refine EC.region ?_
      refine EL.val (fa_25_1 rfl) rfl ?_
      refine EL.val (ld_23 rfl (q1.at (j := 1) rfl)) rfl ?_
      refine EL.val (ln_23 rfl) rfl ?_
      refine EL.val (x_move rfl) rfl ?_
      refine EL.nil ?_
      refine EX.seq ?_
      refine EC.block ?_
      refine EC.loopD [3, 8, 9, 25, 26, 27, 28, 29, 30, 31, 32, 33, 34, 35, 36, 37, 38, 39] (fun x : Nat => [(3, .int .i64 (costTo nt (movesL L nt.ways.length) x)), (25, .int .i64 (x : Nat))]) (fun x W => x ≤ nt.ways.length ∧ Blk W g1 25 #[.slice Ap nt.ports.length cp_, .slice Aw nt.ways.length cw_] ∧ Blk W g 114 #[.int .i64 (nt.ports.length : Nat), .int .i64 (nt.ways.length : Nat), .slice A9 (openL nt).length c9] ∧ W.ownsRow wO.heap.size 122 4 (.slice A9 (openL nt).length c9) (openL nt).length (arcsC L) ∧ W.ownsRow 0 3 1 (.slice Am nt.ways.length cm_) nt.ways.length (ints (movesL L nt.ways.length)) ∧ Below w.heap.size w W) (fun x => nt.ways.length - x) 0 ⟨Nat.zero_le _, q1, hq, ho, hml, hbw⟩ ⟨rfl, rfl, trivial⟩ ?_
      clear q1 hq ho hml hbw
      rintro x wx ⟨hx, q1x, hq, ho, hml, hbw⟩
      by_cases hlt : x < nt.ways.length
      ·
        obtain ⟨bw, ow, e_, _, wc⟩ := ways_cells nt.ways x hlt _ _ _ _ _ hr.ways
        subst e_
        have hmle := moves_len L nt.ways.length
        obtain ⟨bm, om, e_, _, mc⟩ := ints_cells (movesL L nt.ways.length) x (by omega) _ _ _ _ _ (Rd.of_own hml)
        subst e_
        obtain ⟨⟨wf0, wf1⟩, ⟨wt0, wt1⟩, wne, ⟨wc0, wc1⟩, wr0, wr1⟩ := hvw x hlt
        have hb1 := cost_moves hv hst x hx
        have hb2 := cost_moves hv hst (x + 1) hlt
        have hcn : (costTo nt (movesL L nt.ways.length) (x + 1)) = (costTo nt (movesL L nt.ways.length) x) + (movesL L nt.ways.length).getD x 0 * (nt.ways.getD x way0).cost := rfl
        have hrm := hst.rooms hv (2 * x + 1)
        rw [← moves_at L hlt] at hrm
        have hmb := mul_bd (a := (nt.ways.getD x way0).cost) (b := (movesL L nt.ways.length).getD x 0) (A := 1000000) (B := 1000) wc0 wc1 hrm.1 hrm.2 (by omega)
        rw [Int.mul_comm] at hmb
        rw [hcn] at hb2
        obtain ⟨y, ey⟩ : ∃ z, z = nt.ways.getD x way0 := ⟨_, rfl⟩
        rw [← ey] at wc hcn hmb hb2 wc0 wc1
        obtain ⟨m, em⟩ : ∃ z, z = (movesL L nt.ways.length).getD x 0 := ⟨_, rfl⟩
        rw [← em] at mc hcn hmb hb2 hrm
        obtain ⟨cc, ecc⟩ : ∃ z, z = (costTo nt (movesL L nt.ways.length) x) := ⟨_, rfl⟩
        rw [← ecc] at hcn hb1 hb2
        refine EC.seq ?_
        refine EC.region ?_
        refine EL.val (x_lss rfl rfl (decide_eq_true (show (((x : Nat) : Int) < ((nt.ways.length : Nat) : Int)) by omega))) rfl ?_
        refine EL.nil ?_
        refine EX.seq ?_
        refine EC.seq ?_
        refine EC.yes rfl ?_
        refine EC.skip ?_
        refine EX.seq ?_
        refine EC.seq ?_
        refine EC.block ?_
        refine EC.seq ?_
        refine EC.region ?_
        refine EL.val (x_move rfl) rfl ?_
        refine EL.val (ix_23 rfl rfl hlt) rfl ?_
        refine EL.val (ld_56 rfl (below_load hbw wc.c0) (below_load hbw wc.c1) (below_load hbw wc.c2) (below_load hbw wc.c3)) rfl ?_
        refine EL.newP al_56 rfl ?_
        intro g6 w6 q6 hb6 hg6 hl6
        have n1_6 : g1 ≠ g6 := Nat.ne_of_lt (Nat.lt_of_lt_of_le q1x.lt hg6)
        have bhbw_6 := Nat.le_trans hbw.size hg6
        replace q1x := q1x.below hb6 q1x.lt
        replace hq := hq.below hb6 hq.lt
        replace ho := own_below ho hb6 (Nat.le_refl _)
        replace hml := own_below hml hb6 (Nat.le_refl _)
        replace hbw := Below.on hbw hb6 hbw.size
        clear hb6 hg6 hl6
        refine EL.val (x_assign rfl) rfl ?_
        refine EL.store rfl rfl q6 sz_56 rfl rfl rfl rfl ?_
        intro w7 hq7 hg7
        replace q1x := q1x.grown hg7 (fun h => n1_6 (Option.some.inj h))
        replace hq := blk_type hq q6 rfl hg7
        replace ho := own_type ho q6 rfl hg7
        replace hml := own_type hml q6 rfl hg7
        replace hbw := below_store hbw hg7 bhbw_6
        replace q6 := hq7
        clear hg7 hq7
        refine EL.nil ?_
        refine EX.seq ?_
        obtain ⟨bm2, om2, e2_, _, mc2⟩ := ints_cells (movesL L nt.ways.length) x (by omega) _ _ _ _ _ (Rd.of_own hml)
        injection e2_ with e2_
        injection e2_ with e3_ e4_
        subst e3_
        subst e4_
        rw [← em] at mc2
        refine EC.regionQ (by kernel_rfl) (by kernel_rfl) ?_
        refine EQ.val (fun _ hw => (x_move rfl)) rfl ?_
        refine EQ.val (fun _ hw => (x_move rfl)) rfl ?_
        refine EQ.val (fun _ hw => (x_move rfl)) rfl ?_
        refine EQ.val (fun _ hw => (ix_29 rfl rfl hlt)) rfl ?_
        refine EQ.val (fun _ hw => (ld_3 rfl (below_load hw mc2))) rfl ?_
        refine EQ.val (fun _ hw => (fa_56_2 rfl)) rfl ?_
        refine EQ.val (fun _ hw => (ld_3 rfl (below_load hw (q6.at (j := 2) rfl)))) rfl ?_
        refine EQ.val (fun _ hw => (x_mul rfl rfl (IntWalk.i64_in _ ⟨by omega, by omega⟩))) rfl ?_
        refine EQ.val (fun _ hw => (x_add rfl rfl (IntWalk.i64_in _ ⟨by omega, by omega⟩))) rfl ?_
        refine EQ.val (fun _ hw => (x_assign rfl)) rfl ?_
        refine EQ.fin (fun w8 hw_ => ?_)
        replace q1x := q1x.below hw_ q1x.lt
        replace q6 := q6.below hw_ q6.lt
        replace hq := hq.below hw_ hq.lt
        replace ho := own_below ho hw_ (Nat.le_refl _)
        replace hml := own_below hml hw_ (Nat.le_refl _)
        replace hbw := Below.on hbw hw_ hbw.size
        clear hw_
        refine EX.blk ?_
        refine EX.seq ?_
        refine EC.region ?_
        refine EL.val (x_add rfl rfl (c := ((x + 1 : Nat) : Int)) ((IntWalk.i64_in _ ⟨by first | omega | (simp only; omega), by first | omega | (simp only; omega)⟩).trans (by first | omega | (simp only; omega)))) rfl ?_
        refine EL.val (x_move rfl) rfl ?_
        refine EL.nil ?_
        refine EX.roundD (x + 1) ⟨agree_of (by rw [hcn, ecc]) rfl, rfl, trivial⟩ (by repeat first | with_reducible exact Sub.refl _ | refine sub_past rfl ?_ | exact Sub.refl _ | refine sub_del rfl ?_ | refine sub_insL_nil ?_) ⟨hlt, q1x, hq, ho, hml, hbw⟩ (by omega)
      ·
        have hxe : x = nt.ways.length := by omega
        subst hxe
        refine EC.seq ?_
        refine EC.region ?_
        refine EL.val (x_lss rfl rfl (decide_eq_false (show ¬(((nt.ways.length : Nat) : Int) < ((nt.ways.length : Nat) : Int)) by omega))) rfl ?_
        refine EL.nil ?_
        refine EX.seq ?_
        refine EC.seq ?_
        refine EC.no rfl ?_
        refine EC.exit ?_
        refine EX.seq_exit ?_
        refine EX.seq_exit ?_
        refine EX.blk_here ?_
        refine EX.seq ?_
        refine EC.seq ?_
        refine EC.region ?_
        refine EL.val (x_move rfl) rfl ?_
        refine EL.val (x_move rfl) rfl ?_
        refine EL.val (x_move rfl) rfl ?_
        refine EL.call (cl_41 rfl) rfl (prices_any hv L g _ _ hst hq (by rw [hst.good.len]; exact Rd.of_own ho) (Nat.le_refl _)) ?_
        rintro e w9 ⟨⟨vr, pr, rfl, hpo, hrp⟩, hc9⟩
        refine ⟨_, rfl, ?_⟩
        replace q1x := q1x.below hc9 q1x.lt
        replace hq := hq.below hc9 hq.lt
        replace ho := own_below ho hc9 (Nat.le_refl _)
        replace hml := own_below hml hc9 (Nat.le_refl _)
        replace hbw := Below.on hbw hc9 hbw.size
        clear hc9
        refine EL.val (x_assign rfl) rfl ?_
        refine EL.val (x_assign rfl) rfl ?_
        refine EL.val (x_assign rfl) rfl ?_
        refine EL.val (x_assign rfl) rfl ?_
        refine EL.nil ?_
        refine EX.seq ?_
        refine EC.ret ?_
        exact EX.done (res4 rfl rfl rfl rfl rfl) ⟨⟨_, _, _, _, pr, 0, rfl, .inr ⟨hv, L, hfill, hst, .inr ⟨hfb, rfl, rfl, rfl, hpo⟩⟩, by rw [moves_len]; exact Rd.of_own hml, by rw [hpo.len]; exact hrp⟩, hbw⟩
  ·
    have hvf : netB nt = false := by simpa using hv
    refine EL.call (cl_27 rfl) rfl (check_to (e0 := 2) (by rw [netE, if_neg hv]) _ _ _ B (hr.below (hbw.mono hB)) (Nat.le_trans hB hbw.size) hn1 hn2) ?_
    rintro e w10 ⟨rfl, hc10⟩
    refine ⟨_, rfl, ?_⟩
    replace q1 := q1.below hc10 q1.lt
    replace hbw := Below.on hbw hc10 hbw.size
    clear hc10
    refine EL.val (x_assign rfl) rfl ?_
    refine EL.nil ?_
    refine EX.seq ?_
    refine EC.seq ?_
    refine EC.region ?_
    refine EL.val (x_move rfl) rfl ?_
    refine EL.val (x_neq (r := true) rfl rfl (by decide)) rfl ?_
    refine EL.nil ?_
    refine EX.seq ?_
    refine EC.yes rfl ?_
    refine EC.seq ?_
    refine EC.region ?_
    refine EL.val (x_move rfl) rfl ?_
    refine EL.val (x_assign rfl) rfl ?_
    refine EL.val (x_assign rfl) rfl ?_
    refine EL.val (x_assign rfl) rfl ?_
    refine EL.val (x_assign rfl) rfl ?_
    refine EL.nil ?_
    refine EX.seq ?_
    refine EC.ret ?_
    refine EX.seq_ret ?_
    exact EX.done (res4 rfl rfl rfl rfl rfl) ⟨⟨_, _, [], 0, [], 2, rfl, .inl ⟨hvf, rfl, rfl, rfl, rfl⟩, Rd.nil_ _ _ _, Rd.nil_ _ _ _⟩, hbw⟩
set_option maxHeartbeats 1000000 in
theorem lacks_any (nt : Net) (vp vw : Value) (w : World) (B : Nat) (hr : RdNet w B vp vw nt) (hB : B ≤ w.heap.size) (hn1 : nt.ports.length ≤ 1073741824) (hn2 : nt.ways.length ≤ 1073741824) :
    Calls Try.prog 23 #[.agg #[vp, vw]] w fun e w' => (∃ vl ls lack err, e = .returned (.tuple #[vl, .int .i64 lack, .int .i64 err]) ∧ LacksR nt ls lack err ∧ Rd w' w'.heap.size 1 vl ls.length (ints ls)) ∧ Below w.heap.size w w' := by
  obtain ⟨Ap, cp_, rfl, _⟩ := hr.ports.shape
  obtain ⟨Aw, cw_, rfl, _⟩ := hr.ways.shape
  have hbw := Below.refl w.heap.size w
  refine EC.enter 69 Try.func23 rfl rfl rfl ?_
  refine EC.seq ?_
  refine EC.region ?_
  refine EL.newP (bx_25 rfl) rfl ?_
  intro g1 w1 q1 hb1 hg1 hl1
  have bhbw_1 := Nat.le_trans hbw.size hg1
  replace hbw := Below.on hbw hb1 hbw.size
  clear hb1 hg1 hl1
  refine EL.val (x_assign rfl) rfl ?_
  refine EL.val (x_assign rfl) rfl ?_
  refine EL.val (x_assign rfl) rfl ?_
  refine EL.nil ?_
  refine EX.seq ?_
  refine EC.seq ?_
  refine EC.seq ?_
  refine EC.region ?_
  refine EL.val (ld_25 rfl (q1.at (j := 0) rfl) (q1.at (j := 1) rfl)) rfl ?_
  by_cases hv : netB nt = true
  ·
    obtain ⟨⟨hp1, hp60⟩, hw300, hvp, hvw⟩ := netB_ok hv
    have hN : (openL nt).length = nt.ways.length * 2 + nt.ports.length * 4 := openL_len nt
    refine EL.call (cl_27 rfl) rfl (check_to (e0 := 0) (by rw [netE, if_pos hv]) _ _ _ B (hr.below (hbw.mono hB)) (Nat.le_trans hB hbw.size) hn1 hn2) ?_
    rintro e w2 ⟨rfl, hc2⟩
    refine ⟨_, rfl, ?_⟩
    replace q1 := q1.below hc2 q1.lt
    replace hbw := Below.on hbw hc2 hbw.size
    clear hc2
    refine EL.val (x_assign rfl) rfl ?_
    refine EL.nil ?_
    refine EX.seq ?_
    refine EC.seq ?_
    refine EC.region ?_
    refine EL.val (x_move rfl) rfl ?_
    refine EL.val (x_neq (r := false) rfl rfl (by decide)) rfl ?_
    refine EL.nil ?_
    refine EX.seq ?_
    refine EC.no rfl ?_
    refine EC.skip ?_
    refine EX.seq ?_
    refine EC.seq ?_
    refine EC.region ?_
    refine EL.val (ld_25 rfl (q1.at (j := 0) rfl) (q1.at (j := 1) rfl)) rfl ?_
    obtain ⟨wO, ewO⟩ : ∃ z, z = w2 := ⟨_, rfl⟩
    have hlt1 := q1.lt
    have hszO := hbw.size
    refine EL.call (cl_38 rfl) rfl (open_any nt _ _ _ B (hr.below (hbw.mono hB)) (Nat.le_trans hB hbw.size) hn1 hn2 hv) ?_
    rintro e w3 ⟨⟨g, va, rfl, hq, ho, hgO⟩, hc3⟩
    refine ⟨_, rfl, ?_⟩
    have hup : UpTo wO.heap.size wO w3 := by rw [ewO]; exact ⟨hc3, hc3.size⟩
    rw [← ewO] at hgO ho hlt1 hszO
    replace q1 := q1.below hc3 q1.lt
    replace hbw := Below.on hbw hc3 hbw.size
    clear hc3
    refine EL.val (x_assign rfl) rfl ?_
    refine EL.nil ?_
    refine EX.seq ?_
    refine EC.seq ?_
    refine EC.region ?_
    refine EL.val (x_move rfl) rfl ?_
    refine EL.call (cl_39 rfl) rfl (fill_any hv (openL nt) wO.heap.size g _ (open_st hv) hq ho hgO hup.size) ?_
    rintro e w4 ⟨⟨L, hfill, hst, rfl, hq2, ho2⟩, hup2⟩
    refine ⟨_, rfl, ?_⟩
    replace q1 := q1.below hup2.low hlt1
    replace hbw := hbw.trans (hup2.low.mono hszO)
    replace hup := hup.trans hup2
    clear hq ho hup2
    have hq := hq2
    have ho := ho2
    clear hq2 ho2
    have hLl := hst.good.len
    refine EL.nil ?_
    refine EX.seq ?_
    refine EC.seq ?_
    refine EC.region ?_
    refine EL.val (x_move rfl) rfl ?_
    refine EL.call (cl_49 rfl) rfl (lacking_any L g _ _ hq (by rw [hst.good.len]; exact Rd.of_own ho) (Nat.le_refl _) hp60 (by omega) (hst.arcs hv)) ?_
    rintro e w5 ⟨⟨vl, f, rfl, hlk, hll⟩, hc5⟩
    refine ⟨_, rfl, ?_⟩
    replace hll := own_less hll (Nat.zero_le _)
    replace q1 := q1.below hc5 q1.lt
    replace hq := hq.below hc5 hq.lt
    replace ho := own_below ho hc5 (Nat.le_refl _)
    replace hup := hup.below hc5
    replace hbw := Below.on hbw hc5 hbw.size
    clear hc5
    obtain ⟨ls, els⟩ : ∃ z, z = lackL f nt.ports.length := ⟨_, rfl⟩
    have hlen := lackL_len f nt.ports.length
    rw [← els] at hll hlen
    obtain ⟨Al, cl_, rfl, _⟩ := (Rd.of_own hll).shape
    refine EL.val (x_assign rfl) rfl ?_
    refine EL.nil ?_
    refine EX.seq ?_
    refine EC.seq ?_
    refine EC.seq ?_
    refine EC.region ?_
    refine EL.val (x_move rfl) rfl ?_
    refine EL.val (ln_29 rfl) rfl ?_
    refine EL.val (x_move rfl) rfl ?_
    refine EL.nil ?_
    refine EX.seq ?_
    refine EC.block ?_
    refine EC.loopD [3, 8, 24, 25, 26, 27, 28, 29, 30, 31, 32, 33, 34, 35, 36, 37, 38, 39, 40, 41, 42, 43] (fun x : Nat => [(3, .int .i64 (lk1 nt ls x)), (24, .int .i64 (x : Nat))]) (fun x W => x ≤ ls.length ∧ Blk W g1 25 #[.slice Ap nt.ports.length cp_, .slice Aw nt.ways.length cw_] ∧ W.ownsRow 0 3 1 (.slice Al ls.length cl_) ls.length (ints ls) ∧ Below w.heap.size w W) (fun x => ls.length - x) 0 ⟨Nat.zero_le _, q1, hll, hbw⟩ ⟨rfl, rfl, trivial⟩ ?_
    clear q1 hll hbw
    rintro x wx ⟨hx, q1x, hll, hbw⟩
    by_cases hlt : x < ls.length
    ·
      obtain ⟨pv, hpv, _, hpe⟩ := lackL_at (f := f) (n := nt.ports.length) (k := x) (by rw [← els]; exact hlt)
      rw [← els] at hpe
      obtain ⟨bl, ol, e_, _, lc⟩ := ints_cells ls x hlt _ _ _ _ _ (Rd.of_own hll)
      subst e_
      rw [hpe] at lc
      obtain ⟨bp, op, e_, _, pc0, pc1⟩ := prts_cells nt.ports pv hpv _ _ _ _ _ hr.ports
      subst e_
      obtain ⟨⟨ph0, ph1⟩, pw0, pw1⟩ := hvp pv hpv
      have hb1 := lk1_bd hv f x (by rw [← els]; exact hx)
      have hb2 := lk1_bd hv f (x + 1) (by rw [← els]; exact hlt)
      rw [← els] at hb1 hb2
      have hkn : (lk1 nt ls (x + 1)) = (lk1 nt ls x) + ((nt.ports.getD (ls.getD x 0).toNat prt0).wants - (nt.ports.getD (ls.getD x 0).toNat prt0).has) := rfl
      rw [hpe, Int.toNat_natCast] at hkn
      rw [hkn] at hb2
      obtain ⟨y, ey⟩ : ∃ z, z = nt.ports.getD pv prt0 := ⟨_, rfl⟩
      rw [← ey] at pc0 pc1 ph0 ph1 pw0 pw1 hkn hb2
      obtain ⟨kk, ekk⟩ : ∃ z, z = (lk1 nt ls x) := ⟨_, rfl⟩
      rw [← ekk] at hkn hb1 hb2
      refine EC.seq ?_
      refine EC.region ?_
      refine EL.val (x_lss rfl rfl (decide_eq_true (show (((x : Nat) : Int) < ((ls.length : Nat) : Int)) by omega))) rfl ?_
      refine EL.nil ?_
      refine EX.seq ?_
      refine EC.seq ?_
      refine EC.yes rfl ?_
      refine EC.skip ?_
      refine EX.seq ?_
      refine EC.seq ?_
      refine EC.block ?_
      refine EC.seq ?_
      refine EC.region ?_
      refine EL.val (ix_29 rfl rfl hlt) rfl ?_
      refine EL.val (ld_3 rfl lc) rfl ?_
      refine EL.val (x_assign rfl) rfl ?_
      refine EL.nil ?_
      refine EX.seq ?_
      refine EC.regionQ (by kernel_rfl) (by kernel_rfl) ?_
      refine EQ.val (fun _ hw => (x_move rfl)) rfl ?_
      refine EQ.val (fun _ hw => (fa_25_0 rfl)) rfl ?_
      refine EQ.val (fun _ hw => (ld_22 rfl (below_load hw (q1x.at (j := 0) rfl)))) rfl ?_
      refine EQ.val (fun _ hw => (x_move rfl)) rfl ?_
      refine EQ.val (fun _ hw => (ix_22 rfl rfl hpv)) rfl ?_
      refine EQ.val (fun _ hw => (fa_47_1 rfl)) rfl ?_
      refine EQ.val (fun _ hw => (ld_3 rfl (below_load hw (below_load hbw pc1)))) rfl ?_
      refine EQ.val (fun _ hw => (fa_25_0 rfl)) rfl ?_
      refine EQ.val (fun _ hw => (ld_22 rfl (below_load hw (q1x.at (j := 0) rfl)))) rfl ?_
      refine EQ.val (fun _ hw => (x_move rfl)) rfl ?_
      refine EQ.val (fun _ hw => (ix_22 rfl rfl hpv)) rfl ?_
      refine EQ.val (fun _ hw => (fa_47_0 rfl)) rfl ?_
      refine EQ.val (fun _ hw => (ld_3 rfl (below_load hw (below_load hbw pc0)))) rfl ?_
      refine EQ.val (fun _ hw => (x_sub rfl rfl (IntWalk.i64_in _ ⟨by omega, by omega⟩))) rfl ?_
      refine EQ.val (fun _ hw => (x_add rfl rfl (IntWalk.i64_in _ ⟨by omega, by omega⟩))) rfl ?_
      refine EQ.val (fun _ hw => (x_assign rfl)) rfl ?_
      refine EQ.fin (fun w6 hw_ => ?_)
      replace q1x := q1x.below hw_ q1x.lt
      replace hll := own_below hll hw_ (Nat.le_refl _)
      replace hbw := Below.on hbw hw_ hbw.size
      clear hw_
      refine EX.blk ?_
      refine EX.seq ?_
      refine EC.region ?_
      refine EL.val (x_add rfl rfl (c := ((x + 1 : Nat) : Int)) ((IntWalk.i64_in _ ⟨by first | omega | (simp only; omega), by first | omega | (simp only; omega)⟩).trans (by first | omega | (simp only; omega)))) rfl ?_
      refine EL.val (x_move rfl) rfl ?_
      refine EL.nil ?_
      refine EX.roundD (x + 1) ⟨agree_of (by rw [hkn, ekk]) rfl, rfl, trivial⟩ (by repeat first | with_reducible exact Sub.refl _ | refine sub_past rfl ?_ | exact Sub.refl _ | refine sub_del rfl ?_ | refine sub_insL_nil ?_) ⟨hlt, q1x, hll, hbw⟩ (by omega)
    ·
      have hxe : x = ls.length := by omega
      subst hxe
      refine EC.seq ?_
      refine EC.region ?_
      refine EL.val (x_lss rfl rfl (decide_eq_false (show ¬(((ls.length : Nat) : Int) < ((ls.length : Nat) : Int)) by omega))) rfl ?_
      refine EL.nil ?_
      refine EX.seq ?_
      refine EC.seq ?_
      refine EC.no rfl ?_
      refine EC.exit ?_
      refine EX.seq_exit ?_
      refine EX.seq_exit ?_
      refine EX.blk_here ?_
      refine EX.seq ?_
      refine EC.seq ?_
      refine EC.seq ?_
      refine EC.region ?_
      refine EL.val (fa_25_1 rfl) rfl ?_
      refine EL.val (ld_23 rfl (q1x.at (j := 1) rfl)) rfl ?_
      refine EL.val (ln_23 rfl) rfl ?_
      refine EL.val (x_move rfl) rfl ?_
      refine EL.nil ?_
      refine EX.seq ?_
      refine EC.block ?_
      refine EC.loopD [3, 10, 47, 48, 49, 50, 51, 52, 53, 54, 55, 56, 57, 58, 59, 60, 61, 62, 63, 64, 65, 66] (fun x : Nat => [(3, .int .i64 (lk2 nt f x)), (47, .int .i64 (x : Nat))]) (fun x W => x ≤ nt.ways.length ∧ Blk W g1 25 #[.slice Ap nt.ports.length cp_, .slice Aw nt.ways.length cw_] ∧ W.ownsRow 0 3 1 (.slice Al ls.length cl_) ls.length (ints ls) ∧ Below w.heap.size w W) (fun x => nt.ways.length - x) 0 ⟨Nat.zero_le _, q1x, hll, hbw⟩ ⟨agree_of (by rw [els]; rfl) rfl, rfl, trivial⟩ ?_
      clear q1x hll hbw
      rintro x wx ⟨hx, q1x, hll, hbw⟩
      by_cases hlt : x < nt.ways.length
      ·
        obtain ⟨bw, ow, e_, _, wc⟩ := ways_cells nt.ways x hlt _ _ _ _ _ hr.ways
        subst e_
        obtain ⟨⟨wf0, wf1⟩, ⟨wt0, wt1⟩, wne, ⟨wc0, wc1⟩, wr0, wr1⟩ := hvw x hlt
        have hb1 := lk2_bd hv f x hx
        have hb2 := lk2_bd hv f (x + 1) hlt
        have hkn : (lk2 nt f (x + 1)) = if lkB nt f x = true then (lk2 nt f x) - (nt.ways.getD x way0).room else (lk2 nt f x) := rfl
        have hlb : lkB nt f x = (f (nt.ways.getD x way0).to.toNat && !f (nt.ways.getD x way0).fr.toNat) := rfl
        obtain ⟨y, ey⟩ : ∃ z, z = nt.ways.getD x way0 := ⟨_, rfl⟩
        rw [← ey] at wc wf0 wf1 wt0 wt1 wr0 wr1 hkn hlb
        have hat := lackL_any (f := f) (n := nt.ports.length) wt0 wt1
        have haf := lackL_any (f := f) (n := nt.ports.length) wf0 wf1
        rw [← els] at hat haf
        rw [← hat, ← haf] at hlb
        obtain ⟨kk, ekk⟩ : ∃ z, z = (lk2 nt f x) := ⟨_, rfl⟩
        rw [← ekk] at hkn hb1
        cases hct : ls.any (fun z => decide (y.to = z))
        ·
          have hkx : (lk2 nt f (x + 1)) = kk := by rw [hkn, hlb, hct]; rfl
          refine EC.seq ?_
          refine EC.region ?_
          refine EL.val (x_lss rfl rfl (decide_eq_true (show (((x : Nat) : Int) < ((nt.ways.length : Nat) : Int)) by omega))) rfl ?_
          refine EL.nil ?_
          refine EX.seq ?_
          refine EC.seq ?_
          refine EC.yes rfl ?_
          refine EC.skip ?_
          refine EX.seq ?_
          refine EC.seq ?_
          refine EC.block ?_
          refine EC.seq ?_
          refine EC.region ?_
          refine EL.val (ix_23 rfl rfl hlt) rfl ?_
          refine EL.val (ld_56 rfl (below_load hbw wc.c0) (below_load hbw wc.c1) (below_load hbw wc.c2) (below_load hbw wc.c3)) rfl ?_
          refine EL.newP al_56 rfl ?_
          intro g7 w7 q7 hb7 hg7 hl7
          have n1_7 : g1 ≠ g7 := Nat.ne_of_lt (Nat.lt_of_lt_of_le q1x.lt hg7)
          have bhbw_7 := Nat.le_trans hbw.size hg7
          replace q1x := q1x.below hb7 q1x.lt
          replace hll := own_below hll hb7 (Nat.le_refl _)
          replace hbw := Below.on hbw hb7 hbw.size
          clear hb7 hg7 hl7
          refine EL.store rfl rfl q7 sz_56 rfl rfl rfl rfl ?_
          intro w8 hq8 hg8
          replace q1x := q1x.grown hg8 (fun h => n1_7 (Option.some.inj h))
          replace hll := own_type hll q7 rfl hg8
          replace hbw := below_store hbw hg8 bhbw_7
          replace q7 := hq8
          clear hg8 hq8
          refine EL.nil ?_
          refine EX.seq ?_
          refine EC.seq ?_
          refine EC.region ?_
          refine EL.val (x_move rfl) rfl ?_
          refine EL.val (fa_56_1 rfl) rfl ?_
          refine EL.val (ld_3 rfl (q7.at (j := 1) rfl)) rfl ?_
          refine EL.call (cl_50 rfl rfl) rfl (contains_to hct _ _ _ (Rd.of_own hll) (Nat.le_refl _) (by omega)) ?_
          rintro e w9 ⟨rfl, hc9⟩
          refine ⟨_, rfl, ?_⟩
          replace q1x := q1x.below hc9 q1x.lt
          replace q7 := q7.below hc9 q7.lt
          replace hll := own_below hll hc9 (Nat.le_refl _)
          replace hbw := Below.on hbw hc9 hbw.size
          clear hc9
          refine EL.val (x_move rfl) rfl ?_
          refine EL.skip rfl rfl rfl rfl ?_
          refine EL.skip rfl rfl rfl rfl ?_
          refine EL.skip rfl rfl rfl rfl ?_
          refine EL.skip rfl rfl rfl rfl ?_
          refine EL.skip rfl rfl rfl rfl ?_
          refine EL.val (x_pick_f rfl rfl) rfl ?_
          refine EL.nil ?_
          refine EX.seq ?_
          refine EC.no rfl ?_
          refine EC.skip ?_
          refine EX.blk ?_
          refine EX.seq ?_
          refine EC.region ?_
          refine EL.val (x_add rfl rfl (c := ((x + 1 : Nat) : Int)) ((IntWalk.i64_in _ ⟨by first | omega | (simp only; omega), by first | omega | (simp only; omega)⟩).trans (by first | omega | (simp only; omega)))) rfl ?_
          refine EL.val (x_move rfl) rfl ?_
          refine EL.nil ?_
          refine EX.roundD (x + 1) ⟨agree_of (by rw [hkx, ekk]) rfl, rfl, trivial⟩ (by repeat first | with_reducible exact Sub.refl _ | refine sub_past rfl ?_ | exact Sub.refl _ | refine sub_del rfl ?_ | refine sub_insL_nil ?_) ⟨hlt, q1x, hll, hbw⟩ (by omega)
        ·
          cases hcf : ls.any (fun z => decide (y.fr = z))
          ·
            have hkx : (lk2 nt f (x + 1)) = kk - y.room := by rw [hkn, hlb, hct, hcf]; rfl
            refine EC.seq ?_
            refine EC.region ?_
            refine EL.val (x_lss rfl rfl (decide_eq_true (show (((x : Nat) : Int) < ((nt.ways.length : Nat) : Int)) by omega))) rfl ?_
            refine EL.nil ?_
            refine EX.seq ?_
            refine EC.seq ?_
            refine EC.yes rfl ?_
            refine EC.skip ?_
            refine EX.seq ?_
            refine EC.seq ?_
            refine EC.block ?_
            refine EC.seq ?_
            refine EC.region ?_
            refine EL.val (ix_23 rfl rfl hlt) rfl ?_
            refine EL.val (ld_56 rfl (below_load hbw wc.c0) (below_load hbw wc.c1) (below_load hbw wc.c2) (below_load hbw wc.c3)) rfl ?_
            refine EL.newP al_56 rfl ?_
            intro g10 w10 q10 hb10 hg10 hl10
            have n1_10 : g1 ≠ g10 := Nat.ne_of_lt (Nat.lt_of_lt_of_le q1x.lt hg10)
            have bhbw_10 := Nat.le_trans hbw.size hg10
            replace q1x := q1x.below hb10 q1x.lt
            replace hll := own_below hll hb10 (Nat.le_refl _)
            replace hbw := Below.on hbw hb10 hbw.size
            clear hb10 hg10 hl10
            refine EL.store rfl rfl q10 sz_56 rfl rfl rfl rfl ?_
            intro w11 hq11 hg11
            replace q1x := q1x.grown hg11 (fun h => n1_10 (Option.some.inj h))
            replace hll := own_type hll q10 rfl hg11
            replace hbw := below_store hbw hg11 bhbw_10
            replace q10 := hq11
            clear hg11 hq11
            refine EL.nil ?_
            refine EX.seq ?_
            refine EC.seq ?_
            refine EC.region ?_
            refine EL.val (x_move rfl) rfl ?_
            refine EL.val (fa_56_1 rfl) rfl ?_
            refine EL.val (ld_3 rfl (q10.at (j := 1) rfl)) rfl ?_
            refine EL.call (cl_50 rfl rfl) rfl (contains_to hct _ _ _ (Rd.of_own hll) (Nat.le_refl _) (by omega)) ?_
            rintro e w12 ⟨rfl, hc12⟩
            refine ⟨_, rfl, ?_⟩
            replace q1x := q1x.below hc12 q1x.lt
            replace q10 := q10.below hc12 q10.lt
            replace hll := own_below hll hc12 (Nat.le_refl _)
            replace hbw := Below.on hbw hc12 hbw.size
            clear hc12
            refine EL.val (x_move rfl) rfl ?_
            refine EL.valg rfl rfl (x_move rfl) rfl ?_
            refine EL.valg rfl rfl (fa_56_0 rfl) rfl ?_
            refine EL.valg rfl rfl (ld_3 rfl (q10.at (j := 0) rfl)) rfl ?_
            refine EL.callg rfl rfl (cl_50 rfl rfl) rfl (contains_to hcf _ _ _ (Rd.of_own hll) (Nat.le_refl _) (by omega)) ?_
            rintro e w13 ⟨rfl, hc13⟩
            refine ⟨_, rfl, ?_⟩
            replace q1x := q1x.below hc13 q1x.lt
            replace q10 := q10.below hc13 q10.lt
            replace hll := own_below hll hc13 (Nat.le_refl _)
            replace hbw := Below.on hbw hc13 hbw.size
            clear hc13
            refine EL.valg rfl rfl (x_not rfl) rfl ?_
            refine EL.val (x_pick_t rfl rfl) rfl ?_
            refine EL.nil ?_
            refine EX.seq ?_
            refine EC.yes rfl ?_
            refine EC.region ?_
            refine EL.val (x_move rfl) rfl ?_
            refine EL.val (fa_56_3 rfl) rfl ?_
            refine EL.val (ld_3 rfl (q10.at (j := 3) rfl)) rfl ?_
            refine EL.val (x_sub rfl rfl (IntWalk.i64_in _ ⟨by omega, by omega⟩)) rfl ?_
            refine EL.val (x_assign rfl) rfl ?_
            refine EL.nil ?_
            refine EX.blk ?_
            refine EX.seq ?_
            refine EC.region ?_
            refine EL.val (x_add rfl rfl (c := ((x + 1 : Nat) : Int)) ((IntWalk.i64_in _ ⟨by first | omega | (simp only; omega), by first | omega | (simp only; omega)⟩).trans (by first | omega | (simp only; omega)))) rfl ?_
            refine EL.val (x_move rfl) rfl ?_
            refine EL.nil ?_
            refine EX.roundD (x + 1) ⟨agree_of (by rw [hkx, ekk]) rfl, rfl, trivial⟩ (by repeat first | with_reducible exact Sub.refl _ | refine sub_past rfl ?_ | exact Sub.refl _ | refine sub_del rfl ?_ | refine sub_insL_nil ?_) ⟨hlt, q1x, hll, hbw⟩ (by omega)
          ·
            have hkx : (lk2 nt f (x + 1)) = kk := by rw [hkn, hlb, hct, hcf]; rfl
            refine EC.seq ?_
            refine EC.region ?_
            refine EL.val (x_lss rfl rfl (decide_eq_true (show (((x : Nat) : Int) < ((nt.ways.length : Nat) : Int)) by omega))) rfl ?_
            refine EL.nil ?_
            refine EX.seq ?_
            refine EC.seq ?_
            refine EC.yes rfl ?_
            refine EC.skip ?_
            refine EX.seq ?_
            refine EC.seq ?_
            refine EC.block ?_
            refine EC.seq ?_
            refine EC.region ?_
            refine EL.val (ix_23 rfl rfl hlt) rfl ?_
            refine EL.val (ld_56 rfl (below_load hbw wc.c0) (below_load hbw wc.c1) (below_load hbw wc.c2) (below_load hbw wc.c3)) rfl ?_
            refine EL.newP al_56 rfl ?_
            intro g14 w14 q14 hb14 hg14 hl14
            have n1_14 : g1 ≠ g14 := Nat.ne_of_lt (Nat.lt_of_lt_of_le q1x.lt hg14)
            have bhbw_14 := Nat.le_trans hbw.size hg14
            replace q1x := q1x.below hb14 q1x.lt
            replace hll := own_below hll hb14 (Nat.le_refl _)
            replace hbw := Below.on hbw hb14 hbw.size
            clear hb14 hg14 hl14
            refine EL.store rfl rfl q14 sz_56 rfl rfl rfl rfl ?_
            intro w15 hq15 hg15
            replace q1x := q1x.grown hg15 (fun h => n1_14 (Option.some.inj h))
            replace hll := own_type hll q14 rfl hg15
            replace hbw := below_store hbw hg15 bhbw_14
            replace q14 := hq15
            clear hg15 hq15
            refine EL.nil ?_
            refine EX.seq ?_
            refine EC.seq ?_
            refine EC.region ?_
            refine EL.val (x_move rfl) rfl ?_
            refine EL.val (fa_56_1 rfl) rfl ?_
            refine EL.val (ld_3 rfl (q14.at (j := 1) rfl)) rfl ?_
            refine EL.call (cl_50 rfl rfl) rfl (contains_to hct _ _ _ (Rd.of_own hll) (Nat.le_refl _) (by omega)) ?_
            rintro e w16 ⟨rfl, hc16⟩
            refine ⟨_, rfl, ?_⟩
            replace q1x := q1x.below hc16 q1x.lt
            replace q14 := q14.below hc16 q14.lt
            replace hll := own_below hll hc16 (Nat.le_refl _)
            replace hbw := Below.on hbw hc16 hbw.size
            clear hc16
            refine EL.val (x_move rfl) rfl ?_
            refine EL.valg rfl rfl (x_move rfl) rfl ?_
            refine EL.valg rfl rfl (fa_56_0 rfl) rfl ?_
            refine EL.valg rfl rfl (ld_3 rfl (q14.at (j := 0) rfl)) rfl ?_
            refine EL.callg rfl rfl (cl_50 rfl rfl) rfl (contains_to hcf _ _ _ (Rd.of_own hll) (Nat.le_refl _) (by omega)) ?_
            rintro e w17 ⟨rfl, hc17⟩
            refine ⟨_, rfl, ?_⟩
            replace q1x := q1x.below hc17 q1x.lt
            replace q14 := q14.below hc17 q14.lt
            replace hll := own_below hll hc17 (Nat.le_refl _)
            replace hbw := Below.on hbw hc17 hbw.size
            clear hc17
            refine EL.valg rfl rfl (x_not rfl) rfl ?_
            refine EL.val (x_pick_t rfl rfl) rfl ?_
            refine EL.nil ?_
            refine EX.seq ?_
            refine EC.no rfl ?_
            refine EC.skip ?_
            refine EX.blk ?_
            refine EX.seq ?_
            refine EC.region ?_
            refine EL.val (x_add rfl rfl (c := ((x + 1 : Nat) : Int)) ((IntWalk.i64_in _ ⟨by first | omega | (simp only; omega), by first | omega | (simp only; omega)⟩).trans (by first | omega | (simp only; omega)))) rfl ?_
            refine EL.val (x_move rfl) rfl ?_
            refine EL.nil ?_
            refine EX.roundD (x + 1) ⟨agree_of (by rw [hkx, ekk]) rfl, rfl, trivial⟩ (by repeat first | with_reducible exact Sub.refl _ | refine sub_past rfl ?_ | exact Sub.refl _ | refine sub_del rfl ?_ | refine sub_insL_nil ?_) ⟨hlt, q1x, hll, hbw⟩ (by omega)
      ·
        have hxe : x = nt.ways.length := by omega
        subst hxe
        refine EC.seq ?_
        refine EC.region ?_
        refine EL.val (x_lss rfl rfl (decide_eq_false (show ¬(((nt.ways.length : Nat) : Int) < ((nt.ways.length : Nat) : Int)) by omega))) rfl ?_
        refine EL.nil ?_
        refine EX.seq ?_
        refine EC.seq ?_
        refine EC.no rfl ?_
        refine EC.exit ?_
        refine EX.seq_exit ?_
        refine EX.seq_exit ?_
        refine EX.blk_here ?_
        refine EX.seq ?_
        refine EC.seq ?_
        refine EC.region ?_
        refine EL.val (x_move rfl) rfl ?_
        refine EL.val (x_move rfl) rfl ?_
        refine EL.val (x_assign rfl) rfl ?_
        refine EL.val (x_assign rfl) rfl ?_
        refine EL.val (x_assign rfl) rfl ?_
        refine EL.nil ?_
        refine EX.seq ?_
        refine EC.ret ?_
        exact EX.done (res3 rfl rfl rfl rfl) ⟨⟨_, ls, _, 0, rfl, .inr ⟨hv, rfl, L, f, hfill, hst, hlk, els, rfl⟩, Rd.of_own hll⟩, hbw⟩
  ·
    have hvf : netB nt = false := by simpa using hv
    refine EL.call (cl_27 rfl) rfl (check_to (e0 := 2) (by rw [netE, if_neg hv]) _ _ _ B (hr.below (hbw.mono hB)) (Nat.le_trans hB hbw.size) hn1 hn2) ?_
    rintro e w18 ⟨rfl, hc18⟩
    refine ⟨_, rfl, ?_⟩
    replace q1 := q1.below hc18 q1.lt
    replace hbw := Below.on hbw hc18 hbw.size
    clear hc18
    refine EL.val (x_assign rfl) rfl ?_
    refine EL.nil ?_
    refine EX.seq ?_
    refine EC.seq ?_
    refine EC.region ?_
    refine EL.val (x_move rfl) rfl ?_
    refine EL.val (x_neq (r := true) rfl rfl (by decide)) rfl ?_
    refine EL.nil ?_
    refine EX.seq ?_
    refine EC.yes rfl ?_
    refine EC.seq ?_
    refine EC.region ?_
    refine EL.val (x_move rfl) rfl ?_
    refine EL.val (x_assign rfl) rfl ?_
    refine EL.val (x_assign rfl) rfl ?_
    refine EL.val (x_assign rfl) rfl ?_
    refine EL.nil ?_
    refine EX.seq ?_
    refine EC.ret ?_
    refine EX.seq_ret ?_
    exact EX.done (res3 rfl rfl rfl rfl) ⟨⟨_, [], 0, 2, rfl, .inl ⟨hvf, rfl, rfl, rfl⟩, Rd.nil_ _ _ _⟩, hbw⟩
end Go.Proofs.Ytabgmnmpdjnjoaa
set_option linter.unusedVariables false
set_option linter.unusedSimpArgs false
namespace Go.Proofs.Ytabgmnmpdjnjoaa
open Go Go.RowKit
section
variable {n : Nat} {σ : Sg} {w : World} {dst : Option Tmp} {ty : TypeId} {pos : String} {af : Array Edge} {g : Option (Nat × Bool)} {x y z : Operand} {at' : Array TypeId}
theorem bs_22_0 (a : Act) (_ : Env n σ a) : (execOp a.eval ⟨dst, .buildSlice 22 0 #[], ty, pos, af, g⟩).run Try.prog w = .ok (.value (.slice (some ⟨w.heap.size, 0, none⟩) 0 0)) (w.alloc (.cells #[] 47)) := by
  simp only [execOp]
  go_simp
theorem cl_15 {x0 : Operand} {v0 : Value} (h0 : evS σ x0 = some v0) (a : Act) (ha : Env n σ a) : (execOp a.eval ⟨dst, .call { callee := .value (.func 15), args := #[x0], argTypes := at' }, ty, pos, af, g⟩).run Try.prog w = .ok (.enter 15 #[v0]) w := by
  simp only [execOp, resolve, List.map_toArray, List.map_cons, List.map_nil, ha.eval h0]
  simp [go_sem, Act.eval]
theorem cl_53 {x0 : Operand} {v0 : Value} (h0 : evS σ x0 = some v0) (a : Act) (ha : Env n σ a) : (execOp a.eval ⟨dst, .call { callee := .value (.func 53), args := #[x0], argTypes := at' }, ty, pos, af, g⟩).run Try.prog w = .ok (.enter 53 #[v0]) w := by
  simp only [execOp, resolve, List.map_toArray, List.map_cons, List.map_nil, ha.eval h0]
  simp [go_sem, Act.eval]
theorem sz_22 : (Try.prog.info? 22).map (·.size) = some 1 := by kernel_rfl
end
end Go.Proofs.Ytabgmnmpdjnjoaa
