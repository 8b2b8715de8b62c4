/-
  pecialaw06.MendCopies answers true, and its arguments read as before: for every tour with Closed and Flaws of whatever length, every list of IDs and both days.
-/
import Derived.Test.YtkoejelglinmnaaK5
/-
  The walk of the law MendCopies: the earlier copy has all flaws that the later one has; made on the first day a copy has all of its flaws.
-/
namespace Go.Proofs.Ytkoejelglinmnaa
open Sg
set_option maxRecDepth 100000

theorem leftOf_sub {t : Tour} {on ids : List Int} {d1 d2 i1 i2 : Int} (h : d1 ≤ d2) : ∀ x ∈ leftOf t on ⟨i2, d2, ids⟩, x ∈ leftOf t on ⟨i1, d1, ids⟩ := by
  intro x hx
  simp only [leftOf, List.mem_filter, Bool.not_eq_true', decide_eq_false_iff_not] at hx ⊢
  exact ⟨hx.1, fun h' => hx.2 ⟨h'.1, by omega⟩⟩

theorem leftOf_zero (t : Tour) (on ids : List Int) (i : Int) : leftOf t on ⟨i, 0, ids⟩ = ids := by
  refine List.filter_eq_self.2 fun x _ => ?_
  simp only [Bool.not_eq_true', decide_eq_false_iff_not]
  omega

theorem TL.three {w : World} {g : Nat} {i1 d1 i2 d2 i3 d3 : Int} {a : Option Addr} {c : Nat} {l : List Int} {T : TypeId} (h : Blk w g [.int .i64 i1, .int .i64 d1, .slice a l.length c, .int .i64 i2, .int .i64 d2, .slice a l.length c, .int .i64 i3, .int .i64 d3, .slice a l.length c] T) (hI : IL w a l) :
    TL w (some ⟨g, 0, none⟩) [⟨i1, d1, l⟩, ⟨i2, d2, l⟩, ⟨i3, d3, l⟩] :=
  .inr ⟨g, 0, rfl, fun i hi => by
    obtain ⟨q0, q1, q2, q3, q4, q5, q6, q7, q8, _⟩ := h.cells0
    match i, hi with
    | 0, _ => exact ⟨a, c, ⟨q0, q1, q2, trivial⟩, hI⟩
    | 1, _ => exact ⟨a, c, ⟨q3, q4, q5, trivial⟩, hI⟩
    | 2, _ => exact ⟨a, c, ⟨q6, q7, q8, trivial⟩, hI⟩⟩

set_option maxHeartbeats 2000000 in
theorem mendCopies_ok (w : World) (t : Tour) (ac af : Option Addr) (cc cf : Nat) (ai : Option Addr) (ci : Nat) (ids : List Int) (one two : Int) (h1 : 0 ≤ one ∧ one ≤ 255) (h2 : 0 ≤ two ∧ two ≤ 255) (hC : IL w ac t.closed) (hF : FL w af t.flaws) (hI : IL w ai ids) :
    Ret Try.prog 3 #[.agg #[.int .i64 t.days, .slice ac t.closed.length cc, .slice af t.flaws.length cf], .slice ai ids.length ci, .int .u8 one, .int .u8 two] w fun v w' => v = .bool true ∧ Chg [] w w' := by
  refine Ret.of_W (n := 99) Try.func3 rfl rfl (Nat.le_of_ble_eq_true rfl) ?_
  refine W.seq fun K hK => ?_
  refine W.region (by rfl) ?_
  refine Flow.box rfl (cs := [_, _, _]) rfl fun w1 c1 s1 b1 => ?_
  refine Flow.assignC ?_
  refine hK _ _ _ ?_
  clear hK K
  refine W.seq fun K hK => ?_
  refine W.region (by rfl) ?_
  refine Flow.call0 Tf.hb_8  ?_
  refine Ret.mono (head_ok _) ?_
  rintro _ w2 ⟨rfl, c2⟩
  refine Flow.assign (v := .bool _) rfl ?_
  refine hK _ _ _ ?_
  clear hK K
  have c12 := c1.then c2
  refine W.seq fun K2 hK2 => ?_
  refine W.seq fun K hK => ?_
  refine W.region (by rfl) ?_
  refine Flow.loadA Tf.ty_25 rfl rfl ((b1.chg c2 (by simp)).cells0) ?_
  refine Flow.call1 Tf.hb_9 (v1 := .agg _) rfl ?_
  refine Ret.mono (few_ok _ t ac af cc cf) ?_
  rintro _ w3 ⟨rfl, c3⟩
  have c13 := c12.then c3
  have b13 := b1.chg (c2.then c3) (by simp)
  cases hfew : fewB t with
  | false =>
    refine Flow.not rfl ?_
    refine Flow.move (v := .bool _) rfl ?_
    refine Flow.off (c := true) rfl rfl rfl ?_
    refine Flow.off (c := true) rfl rfl rfl ?_
    refine Flow.off (c := true) rfl rfl rfl ?_
    refine Flow.pickT rfl rfl ?_
    refine hK _ _ _ ?_
    clear hK K
    refine W.cond (t := true) rfl (fun _ => ?_) (fun h => by simp at h)
    refine W.seq fun K hK => ?_
    refine W.region (by rfl) ?_
    refine Flow.move (v := .bool _) rfl ?_
    refine Flow.assign (v := .bool _) rfl ?_
    refine hK _ _ _ ?_
    clear hK K
    exact W.ret ⟨_, res1 rfl (v := .bool _) rfl, rfl, c13⟩
  | true =>
  obtain ⟨hcl, hfl, hx8⟩ := few_facts hfew
  refine Flow.not rfl ?_
  refine Flow.move (v := .bool _) rfl ?_
  refine Flow.on rfl rfl ?_
  refine Flow.move (v := .slice _ _ _) rfl ?_
  refine Flow.on rfl rfl ?_
  refine Flow.len rfl Tf.us_22 rfl rfl ?_
  refine Flow.on rfl rfl ?_
  refine Flow.gtr rfl rfl ?_
  refine Flow.pickF rfl rfl ?_
  refine hK _ _ _ ?_
  clear hK K
  refine W.cond rfl (fun h => ?_) (fun h => W.skip (hK2 _ _ _ ?_))
  · refine W.seq fun K hK => ?_
    refine W.region (by rfl) ?_
    refine Flow.move (v := .bool _) rfl ?_
    refine Flow.assign (v := .bool _) rfl ?_
    refine hK _ _ _ ?_
    clear hK K
    exact W.ret ⟨_, res1 rfl (v := .bool _) rfl, rfl, c13⟩
  have h60 : ids.length ≤ 60 := by
    have : ¬ (60 : Int) < ids.length := by simpa using h
    omega
  refine W.seq fun K hK => ?_
  refine W.region (by rfl) ?_
  refine Flow.loadA Tf.ty_25 rfl rfl (b13.cells0) ?_
  refine Flow.call1 Tf.hb_10 (v1 := .agg _) rfl ?_
  refine Ret.mono (Best_ok _ t ac af cc cf (hC.ext c13) (hF.ext c13) hcl hfl (fun h => by have := hx8 h; omega)) ?_
  rintro _ w4 ⟨c4, _, rfl, ao, co, ar, cr, rfl, hO, hR⟩
  refine Flow.move (v := .tuple _) rfl ?_
  refine Flow.extract (v := .agg _) rfl rfl ?_
  refine Flow.extract (v := .int _ _) rfl rfl ?_
  refine Flow.alloc Tf.ty_30 (cs := [_, _, _]) rfl fun w5 c5 s5 b5 => ?_
  refine Flow.store Tf.ty_30 rfl rfl (b5) (vs := [_, _, _]) rfl rfl (by simp) rfl fun w6 c6 s6 b6 => ?_
  refine Flow.assign (v := .int _ _) rfl ?_
  refine hK _ _ _ ?_
  clear hK K
  have hs4 := c4.size
  have c36 : Chg [] w3 w6 := (c4.then c5).step c6 (by simp; omega)
  have c16 := c13.then c36
  have b16 := b13.chg c36 (by simp)
  have hO6 := hO.ext (c5.step c6 (by simp) : Chg [] w4 w6)
  refine W.seq fun K5 hK5 => ?_
  refine W.seq fun K hK => ?_
  refine W.region (by rfl) ?_
  refine Flow.move (v := .int _ _) rfl ?_
  refine Flow.neq rfl rfl ?_
  refine hK _ _ _ ?_
  clear hK K
  refine W.cond rfl (fun h => ?_) (fun h => W.skip (hK5 _ _ _ ?_))
  · refine W.seq fun K hK => ?_
    refine W.region (by rfl) ?_
    refine Flow.move (v := .bool _) rfl ?_
    refine Flow.assign (v := .bool _) rfl ?_
    refine hK _ _ _ ?_
    clear hK K
    exact W.ret ⟨_, res1 rfl (v := .bool _) rfl, rfl, c16⟩
  have hck : chk t = 0 := by simpa using h
  have hv := chk_valid hck
  have hd1 := hv.d1
  refine W.seq fun K hK => ?_
  refine W.region (by rfl) ?_
  refine Flow.move (v := .int _ _) rfl ?_
  refine Flow.convert (s := 0) (z := undef) (k' := .i64) (by kernel_rfl) (by kernel_rfl) rfl (by rw [IntKind.wrap_i64]; omega) ?_
  refine Flow.fieldAddr Tf.fo_25_0 rfl ?_
  refine Flow.load1 Tf.ty_3 rfl (b16.cell 0) ?_
  refine Flow.rem rfl rfl (by omega) ?_
  refine Flow.assign (v := .int _ _) rfl ?_
  refine hK _ _ _ ?_
  clear hK K
  refine W.seq fun K hK => ?_
  refine W.region (by rfl) ?_
  refine Flow.move (v := .int _ _) rfl ?_
  refine Flow.convert (s := 0) (z := undef) (k' := .i64) (by kernel_rfl) (by kernel_rfl) rfl (by rw [IntKind.wrap_i64]; omega) ?_
  refine Flow.fieldAddr Tf.fo_25_0 rfl ?_
  refine Flow.load1 Tf.ty_3 rfl (b16.cell 0) ?_
  refine Flow.rem rfl rfl (by omega) ?_
  refine Flow.assign (v := .int _ _) rfl ?_
  refine hK _ _ _ ?_
  clear hK K
  obtain ⟨a, ha⟩ : ∃ a, a = one.tmod t.days := ⟨_, rfl⟩
  obtain ⟨b, hb⟩ : ∃ b, b = two.tmod t.days := ⟨_, rfl⟩
  rw [← ha, ← hb]
  obtain ⟨mn, hmn⟩ : ∃ m, m = if b < a then b else a := ⟨_, rfl⟩
  obtain ⟨mx, hmx⟩ : ∃ m, m = if b > a then b else a := ⟨_, rfl⟩
  have hle : mn ≤ mx := by rw [hmn, hmx]; split <;> split <;> omega
  refine W.seq fun K hK => ?_
  refine W.region (by rfl) ?_
  refine Flow.loadA Tf.ty_25 rfl rfl (b16.cells0) ?_
  refine Flow.loadA Tf.ty_30 rfl rfl (b6.cells0) ?_
  refine Flow.move (v := .int _ _) rfl ?_
  refine Flow.move (v := .int _ _) rfl ?_
  refine Flow.min2 rfl rfl ?_
  refine Flow.move (v := .slice _ _ _) rfl ?_
  refine Flow.buildL Tf.ty_38 Tf.pl_38 (l := [(_, _), (_, _), (_, _)]) (zs := [_, _, _]) (cs := [_, _, _]) rfl rfl rfl ?_
  refine Flow.move (v := .int _ _) rfl ?_
  refine Flow.move (v := .int _ _) rfl ?_
  refine Flow.max2 rfl rfl ?_
  refine Flow.move (v := .slice _ _ _) rfl ?_
  refine Flow.buildL Tf.ty_38 Tf.pl_38 (l := [(_, _), (_, _), (_, _)]) (zs := [_, _, _]) (cs := [_, _, _]) rfl rfl rfl ?_
  refine Flow.move (v := .slice _ _ _) rfl ?_
  refine Flow.buildL Tf.ty_38 Tf.pl_38 (l := [(_, _), (_, _)]) (zs := [_, _, _]) (cs := [_, _, _]) rfl rfl rfl ?_
  rw [← hmn, ← hmx]
  refine Flow.buildSliceL Tf.sl_39 Tf.us_39 (by decide) (by decide) (l := [(_, _), (_, _), (_, _)]) rfl (zs := [.int .i64 0, .int .i64 0, .slice none 0 0, .int .i64 0, .int .i64 0, .slice none 0 0, .int .i64 0, .int .i64 0, .slice none 0 0]) (by kernel_rfl) (cs := [_, _, _, _, _, _, _, _, _]) rfl fun w7 c7 s7 b7 => ?_
  refine Flow.call3 Tf.hb_11 (v1 := .agg _) rfl (v2 := .agg _) rfl (v3 := .slice _ _ _) rfl ?_
  refine Ret.mono (Spread_ok _ t ac af cc cf ao co (bestOn t) (meritR t) ar _ cr (some ⟨w6.heap.size, 0, none⟩) 3 [⟨1, mn, ids⟩, ⟨2, mx, ids⟩, ⟨3, 0, ids⟩] (hC.ext (c16.then c7)) (hF.ext (c16.then c7)) hcl hfl (hO6.ext c7) (TL.three b7 (hI.ext (c16.then c7))) (by simp) (by simp; omega)) ?_
  rintro _ w8 ⟨c8, a8, k8, rfl, hL⟩
  refine Flow.move (v := .tuple _) rfl ?_
  refine Flow.extract (v := .slice _ _ _) rfl rfl ?_
  refine Flow.extract (v := .int _ _) rfl rfl ?_
  refine Flow.assign (v := .slice _ _ _) rfl ?_
  refine Flow.assign (v := .int _ _) rfl ?_
  refine hK _ _ _ ?_
  clear hK K
  have c18 := c16.then (c7.then c8)
  refine W.seq fun K10 hK10 => ?_
  refine W.seq fun K hK => ?_
  refine W.region (by rfl) ?_
  refine Flow.move (v := .int _ _) rfl ?_
  refine Flow.neq rfl rfl ?_
  refine hK _ _ _ ?_
  clear hK K
  refine W.cond rfl (fun h => ?_) (fun h => W.skip (hK10 _ _ _ ?_))
  · refine W.seq fun K hK => ?_
    refine W.region (by rfl) ?_
    refine Flow.move (v := .bool _) rfl ?_
    refine Flow.assign (v := .bool _) rfl ?_
    refine hK _ _ _ ?_
    clear hK K
    exact W.ret ⟨_, res1 rfl (v := .bool _) rfl, rfl, c18⟩
  have hsE : spreadE t (bestOn t) [⟨1, mn, ids⟩, ⟨2, mx, ids⟩, ⟨3, 0, ids⟩] = 0 := by simpa using h
  have hsL : spreadL t (bestOn t) [⟨1, mn, ids⟩, ⟨2, mx, ids⟩, ⟨3, 0, ids⟩] = [leftOf t (bestOn t) ⟨1, mn, ids⟩, leftOf t (bestOn t) ⟨2, mx, ids⟩, leftOf t (bestOn t) ⟨3, 0, ids⟩] := by rw [spreadL, if_pos hsE]; rfl
  rw [hsL] at hL ⊢
  have hsub := leftOf_sub (t := t) (on := bestOn t) (ids := ids) (i1 := 1) (i2 := 2) hle
  have hall := leftOf_zero t (bestOn t) ids 3
  obtain ⟨bl, ol, rfl, hcells⟩ := hL.get (i := 0) (by simp)
  obtain ⟨p0, q0, x0, y0⟩ := hcells 0 (by simp)
  obtain ⟨p1, q1, x1, y1⟩ := hcells 1 (by simp)
  obtain ⟨p2, q2, x2, y2⟩ := hcells 2 (by simp)
  simp only [List.getElem_cons_zero, List.getElem_cons_succ] at x0 y0 x1 y1 x2 y2
  have hl0 := leftOf_len t (bestOn t) ⟨1, mn, ids⟩
  have hl1 := leftOf_len t (bestOn t) ⟨2, mx, ids⟩
  have hl2 := leftOf_len t (bestOn t) ⟨3, 0, ids⟩
  obtain ⟨L0, hL0⟩ : ∃ L, L = leftOf t (bestOn t) ⟨1, mn, ids⟩ := ⟨_, rfl⟩
  obtain ⟨L1, hL1⟩ : ∃ L, L = leftOf t (bestOn t) ⟨2, mx, ids⟩ := ⟨_, rfl⟩
  rw [← hL0] at x0 y0 hl0 hsub
  rw [← hL1] at x1 y1 hl1 hsub
  rw [hall] at x2 y2
  simp only at hl0 hl1 hl2
  refine W.forget [(1, .slice ai ids.length ci), (9, .bool true), (14, .slice (some ⟨bl, ol, none⟩) 3 k8)] ⟨rfl, rfl, rfl, trivial⟩ fun e => ?_
  refine W.seq fun K12 hK12 => ?_
  refine W.seq fun K hK => ?_
  refine W.region (by rfl) ?_
  refine Flow.move (v := .slice _ _ _) rfl ?_
  refine Flow.len rfl Tf.us_34 rfl rfl ?_
  refine Flow.neq rfl rfl ?_
  refine hK _ _ _ ?_
  clear hK K
  refine W.cond rfl (fun h => by simp at h) (fun h => W.skip (hK12 _ _ _ ?_))
  refine W.seq fun K14 hK14 => ?_
  refine W.seq fun K hK => ?_
  refine W.region (by rfl) ?_
  refine Flow.assignC ?_
  refine hK _ _ _ ?_
  clear hK K
  refine W.block ?_
  refine W.loop (ι := Nat) (fun k ds e w' => ds = [] ∧ k ≤ L1.length ∧ AllAt e [(1, .slice ai ids.length ci), (9, .bool true), (14, .slice (some ⟨bl, ol, none⟩) 3 k8), (16, .int .i64 k)] ∧ Chg [] w8 w') (fun k => L1.length - k) (i0 := 0) ⟨rfl, by omega, ⟨rfl, rfl, rfl, rfl, trivial⟩, Chg.refl _ _⟩ ?_
  rintro k ds e v0 ⟨rfl, hk, hE, hcv⟩
  obtain ⟨e, rfl⟩ : ∃ e0, e = putL e0 _ := ⟨e, putL_self hE⟩
  clear hE
  refine W.seq fun K15 hK15 => ?_
  refine W.seq fun K hK => ?_
  refine W.region (by rfl) ?_
  refine Flow.move (v := .int _ _) rfl ?_
  refine Flow.move (v := .slice _ _ _) rfl ?_
  refine Flow.indexAddr1 Tf.sl_34 rfl rfl (by omega) (by omega) ?_
  refine Flow.load1 Tf.ty_22 rfl (cell_chg x1 hcv (by simp)) ?_
  refine Flow.len rfl Tf.us_22 rfl rfl ?_
  refine Flow.lss rfl rfl ?_
  refine hK _ _ _ ?_
  clear hK K
  refine W.cond rfl (fun h => W.skip (hK15 _ _ _ ?_)) (fun h => W.exit ?_)
  · have hlt : k < L1.length := by simpa using h
    obtain ⟨bk, ok, rfl, hck1⟩ := (y1.ext hcv).get hlt
    have hin : L1[k] ∈ L0 := hsub _ (List.getElem_mem hlt)
    refine W.seq fun K17 hK17 => ?_
    refine W.block ?_
    refine W.seq fun K hK => ?_
    refine W.regionD [9] [] (by kernel_rfl) (by kernel_rfl) fun u1 d1 hh1 => ?_
    refine FD.val (fun _ hw => Rn.move (v := .slice _ _ _) rfl) ?_
    refine FD.val (fun _ hw => Rn.indexAddr1 Tf.sl_34 rfl rfl (by omega) (by omega)) ?_
    refine FD.val (fun _ hw => Rn.load1 Tf.ty_22 rfl (cell_chg x0 (hcv.then d1) (by simp)) (hw rfl rfl)) ?_
    refine FD.val (fun _ hw => Rn.move (v := .slice _ _ _) rfl) ?_
    refine FD.val (fun _ hw => Rn.indexAddr1 Tf.sl_34 rfl rfl (by omega) (by omega)) ?_
    refine FD.val (fun _ hw => Rn.load1 Tf.ty_22 rfl (cell_chg x1 (hcv.then d1) (by simp)) (hw rfl rfl)) ?_
    refine FD.val (fun _ hw => Rn.move (v := .int _ _) rfl) ?_
    refine FD.val (fun _ hw => Rn.indexAddr1 Tf.sl_22 rfl rfl (by omega) (by omega)) ?_
    refine FD.val (fun _ hw => Rn.load1 Tf.ty_3 rfl (cell_chg (hck1 k hlt) d1 (by simp)) (hw rfl rfl)) ?_
    refine FD.eff (by rfl) (Chg.refl _ _) ?_
    refine Flow.call2 Tf.hb_12 (v1 := .slice _ _ _) rfl (v2 := .int _ _) rfl ?_
    refine Ret.mono (has_ok _ _ _ L0 _ (y0.ext (hcv.then d1)) (by omega)) ?_
    rintro _ u2 ⟨rfl, d2⟩
    refine Flow.nil ⟨d2, ?_⟩
    refine FD.val (fun _ hw => Rn.not rfl) ?_
    refine FD.nil ?_
    refine hK _ _ _ ?_
    clear hK K
    refine W.cond rfl (fun h => by simp [hin] at h) (fun h => W.skip (hK17 _ _ _ ?_))
    refine W.region (by rfl) ?_
    refine Flow.move (v := .int _ _) rfl ?_
    refine Flow.add rfl rfl (by omega) (by omega) ?_
    refine Flow.assign (v := .int _ _) rfl ?_
    exact Flow.nil ⟨k + 1, by omega, rfl, by omega, ⟨rfl, rfl, rfl, rfl, trivial⟩, hcv.then (d1.then d2)⟩
  · refine hK14 _ _ _ ?_
    refine W.seq fun K hK => ?_
    refine W.region (by rfl) ?_
    refine Flow.move (v := .slice _ _ _) rfl ?_
    refine Flow.indexAddr1 Tf.sl_34 rfl rfl (by omega) (by omega) ?_
    refine Flow.load1 Tf.ty_22 rfl (cell_chg x2 hcv (by simp)) ?_
    refine Flow.move (v := .slice _ _ _) rfl ?_
    refine Flow.call2 Tf.hb_13 (v1 := .slice _ _ _) rfl (v2 := .slice _ _ _) rfl ?_
    refine Ret.mono (sameInts_ok _ _ _ _ _ ids ids (y2.ext hcv) (hI.ext (c18.then hcv)) (by omega) (by omega)) ?_
    rintro _ u2 ⟨rfl, d2⟩
    refine Flow.assign (v := .bool _) rfl ?_
    refine hK _ _ _ ?_
    clear hK K
    rw [decide_eq_true rfl]
    refine W.seq fun K hK => ?_
    refine W.region (by rfl) ?_
    refine Flow.move (v := .bool _) rfl ?_
    refine Flow.move (v := .bool _) rfl ?_
    refine Flow.on rfl rfl ?_
    refine Flow.move (v := .bool _) rfl ?_
    refine Flow.pickT rfl rfl ?_
    refine Flow.assign (v := .bool _) rfl ?_
    refine hK _ _ _ ?_
    clear hK K
    exact W.ret ⟨_, res1 rfl (v := .bool _) rfl, rfl, c18.then (hcv.then d2)⟩

end Go.Proofs.Ytkoejelglinmnaa

namespace Go.Proofs.Ytkoejelglinmnaa.mendCopiesClaim
open Sg Go.ChangeShapes Go.WideShapes Go.ChangeAt Go.RowKit Go.Joins Go.Deep
set_option linter.unusedVariables false

set_option maxRecDepth 100000 in
theorem lifted (os : Os) (started : os.Started) (H : Type) (enc : TypeId × Value → H) :
    ReturnsInHanded {} Try.checked os 3 .any (Rows.mendCopiesSpec.pre6 enc Try.prog Try.f3 Rows.mendCopiesRow.domain false) (Rows.mendCopiesSpec.post enc Try.prog Try.f3 false true false false) := by
  refine returnsInHanded_of_change (C := Try.checked) own started (by kernel_rfl) Try.func3
    (ChangeSpec.witness6 (enc := enc) (C := Try.checked) false ⟨#[], #[.agg #[.int .i64 0, .slice none 0 0, .slice none 0 0], .slice none 0 0, .int .u8 0, .int .u8 0], []⟩ 8 (by kernel_rfl) (by kernel_rfl) (by kernel_rfl) (by kernel_rfl)) ?_
  intro W base args ds gs before hval0 hW hcnd _
  have hval : ∀ (j : Nat) t v, Try.f3.params[j]? = some t → args[j]? = some v → Value.okWide Try.prog W .any base t v := hval0
  have hW' := hW
  obtain ⟨p, q, hA0, hV, rfl, hfz, hnd⟩ := hW
  have hA : DataW.TrodAll enc Try.prog W 0 (fun _ => true) true Try.f3.params.toList args.toList ds p := hA0
  rw [Try.params3] at hA hval
  obtain ⟨v0, vs0, d0, ds0, p0, q0, hargs, rfl, rfl, h0, r0⟩ := trodAll_cons hA
  obtain ⟨v1, vs1, d1, ds1, p1, q1, rfl, rfl, rfl, h1, r1⟩ := trodAll_cons r0
  obtain ⟨v2, vs2, d2, ds2, p2, q2, rfl, rfl, rfl, h2, r2⟩ := trodAll_cons r1
  obtain ⟨v3, vs3, d3, ds3, p3, q3, rfl, rfl, rfl, h3, r3⟩ := trodAll_cons r2
  obtain ⟨rfl, rfl, rfl⟩ := trodAll_nil r3
  obtain rfl : args = #[v0, v1, v2, v3] := by cases args; simp_all
  obtain ⟨rfl, rfl⟩ := trodVars_none hV
  have k0 := h0
  have k1 := h1
  have lt0 : ∀ x ∈ p0, x.block < W.heap.size := by obtain ⟨m, hm⟩ := k0; exact DataW.trod_lt m _ _ _ hm
  have lt1 : ∀ x ∈ p1, x.block < W.heap.size := by obtain ⟨m, hm⟩ := k1; exact DataW.trod_lt m _ _ _ hm
  obtain ⟨t, ac, af, cc, cf, rfl, hC, hF⟩ := read_tour (hval 0 _ v0 rfl rfl) h0
  obtain ⟨ai, ci, ids, rfl, hI⟩ := read_list (hval 1 _ v1 rfl rfl) h1
  obtain ⟨a2, rfl, rfl, rfl, w2⟩ := open_int u_u8 (hval 2 _ v2 rfl rfl) h2
  obtain ⟨a3, rfl, rfl, rfl, w3⟩ := open_int u_u8 (hval 3 _ v3 rfl rfl) h3
  clear hA0 hval0
  refine Calls.mono (mendCopies_ok W t ac af cc cf ai ci ids a2 a3 (bounds_u8 w2) (bounds_u8 w3) hC hF hI) ?_
  rintro e W' ⟨v, rfl, rfl, hc⟩
  have bel := chg_below hc
  exact ⟨_, rfl, _, _, _, [], _, [], hW', trodAll_mk1 (shut_bool u_bool _), (trodAll_cons_mk (Below.trod laidOut (by kernel_rfl) (of_decide_eq_true (by kernel_rfl)) k0 bel lt0) (trodAll_cons_mk (Below.trod laidOut (by kernel_rfl) (of_decide_eq_true (by kernel_rfl)) k1 bel lt1) (trodAll_cons_mk (shut_int u_u8 w2) (trodAll_cons_mk (shut_int u_u8 w3) trodAll_mk0)))), rfl, bel.frame _, fun h => by cases h⟩

theorem over : Rows.mendCopiesRow.holds Try.pinned (OpenSpec.ofChange Rows.mendCopiesSpec) :=
  OpenClaim.holds_of_wide 3 Try.f3 rfl rfl rfl rfl rfl rfl rfl ⟨rfl, rfl, rfl, rfl, rfl⟩ rfl rfl rfl rfl rfl (by kernel_rfl) Try.func3 (by kernel_rfl)
    (of_decide_eq_true (by kernel_rfl)) (by unfold Func.isWrapper; first | (rw [if_pos (by decide +kernel)]; kernel_rfl) | (rw [if_neg (by decide +kernel)]; exact ⟨rfl, rfl⟩))
    (fun os started H enc _ => lifted os started H enc)

theorem proved : Rows.MendCopiesSaid := over
#print axioms proved

end Go.Proofs.Ytkoejelglinmnaa.mendCopiesClaim
