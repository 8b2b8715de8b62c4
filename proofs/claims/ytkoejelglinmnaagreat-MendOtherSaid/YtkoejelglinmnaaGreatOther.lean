/-
  pecialaw06.MendOther answers true, and its arguments read as before: for every tour with Closed and Flaws of whatever length, every day, every ID and every span.
-/
import Derived.Test.YtkoejelglinmnaaGreatK7
import Derived.Test.YtkoejelglinmnaaGreatK5
set_option linter.unusedSimpArgs false
set_option linter.unusedVariables false
/-
  The walk of the law MendOther: Gain, Lost and Wider answer as the reference does.
-/
namespace Go.Proofs.YtkoejelglinmnaaGreat
open Sg Mm
set_option maxRecDepth 100000

set_option maxHeartbeats 2000000 in
theorem mendOther_ok (w : World) (t : Tour) (ac af : Option Addr) (cc cf : Nat) (day id lo hi : Int) (hC : IL w ac t.closed) (hF : FL w af t.flaws) :
    Ret Tryz.prog 4 #[.agg #[.int .i64 t.days, .slice ac t.closed.length cc, .slice af t.flaws.length cf], .int .i64 day, .int .i64 id, .agg #[.int .i64 lo, .int .i64 hi]] w fun v w' => v = .bool true ∧ Chg [] w w' := by
  refine Ret.of_W (n := 96) Tryz.func4 rfl rfl (Nat.le_of_ble_eq_true rfl) ?_
  refine W.seq fun K hK => ?_
  refine W.region (by rfl) ?_
  refine Flow.box rfl (cs := [_, _, _]) rfl fun w1 c1 s1 b1 => ?_
  refine Flow.box rfl (cs := [_, _]) rfl fun w2 c2 s2 b2 => ?_
  refine Flow.assignC ?_
  refine hK _ _ _ ?_
  clear hK K
  have b12 := b1.chg c2 (by simp)
  refine W.seq fun K hK => ?_
  refine W.region (by rfl) ?_
  refine Flow.call0 Tf.hb_14  ?_
  refine Ret.mono (head_ok _) ?_
  rintro _ w3 ⟨rfl, c3⟩
  refine Flow.assign (v := .bool _) rfl ?_
  refine hK _ _ _ ?_
  clear hK K
  have c13 := (c1.then c2).then c3
  have b23 := b2.chg c3 (by simp)
  refine W.seq fun K2 hK2 => ?_
  refine W.seq fun K hK => ?_
  refine W.region (by rfl) ?_
  refine Flow.loadA Tf.ty_25 rfl rfl ((b12.chg c3 (by simp)).cells0) ?_
  refine Flow.call1 Tf.hb_15 (v1 := .agg _) rfl ?_
  refine Ret.mono (few_ok _ t ac af cc cf) ?_
  rintro _ w4 ⟨rfl, c4⟩
  have c14 := c13.then c4
  have b14 := b12.chg (c3.then c4) (by simp)
  have b24 := b23.chg c4 (by simp)
  cases hfew : fewB t with
  | false =>
    refine Flow.not rfl ?_
    refine hK _ _ _ ?_
    clear hK K
    refine W.cond (t := true) rfl (fun _ => ?_) (fun h => by simp at h)
    refine W.seq fun K hK => ?_
    refine W.region (by rfl) ?_
    refine Flow.move (v := .bool _) rfl ?_
    refine Flow.assign (v := .bool _) rfl ?_
    refine hK _ _ _ ?_
    clear hK K
    exact W.ret ⟨_, res1 rfl (v := .bool _) rfl, rfl, c14⟩
  | true =>
  obtain ⟨hcl, hfl, hx8⟩ := few_facts hfew
  have hx : chk t = 0 → t.flaws.length < 20 := fun h => by have := hx8 h; omega
  refine Flow.not rfl ?_
  refine hK _ _ _ ?_
  clear hK K
  refine W.cond (t := false) rfl (fun h => by simp at h) (fun _ => W.skip (hK2 _ _ _ ?_))
  refine W.seq fun K hK => ?_
  refine W.region (by rfl) ?_
  refine Flow.loadA Tf.ty_25 rfl rfl (b14.cells0) ?_
  refine Flow.move (v := .int _ _) rfl ?_
  refine Flow.call2 Tf.hb_23 (v1 := .agg _) rfl (v2 := .int _ _) rfl ?_
  refine Ret.mono (Gain_ok _ t ac af cc cf day (hC.ext c14) (hF.ext c14) hcl hfl hx) ?_
  rintro _ w5 ⟨rfl, c5⟩
  refine Flow.move (v := .tuple _) rfl ?_
  refine Flow.extract (v := .int _ _) rfl rfl ?_
  refine Flow.extract (v := .int _ _) rfl rfl ?_
  refine Flow.assign (v := .int _ _) rfl ?_
  refine Flow.assign (v := .int _ _) rfl ?_
  refine hK _ _ _ ?_
  clear hK K
  have c15 := c14.then c5
  have b15 := b14.chg c5 (by simp)
  have b25 := b24.chg c5 (by simp)
  refine W.seq fun K hK => ?_
  refine W.region (by rfl) ?_
  refine Flow.loadA Tf.ty_25 rfl rfl (b15.cells0) ?_
  refine Flow.move (v := .int _ _) rfl ?_
  refine Flow.call2 Tf.hb_24 (v1 := .agg _) rfl (v2 := .int _ _) rfl ?_
  refine Ret.mono (rGain_ok _ t ac af cc cf day (hC.ext c15) (hF.ext c15) hcl hfl) ?_
  rintro _ w6 ⟨rfl, c6⟩
  refine Flow.move (v := .tuple _) rfl ?_
  refine Flow.extract (v := .int _ _) rfl rfl ?_
  refine Flow.extract (v := .int _ _) rfl rfl ?_
  refine Flow.assign (v := .int _ _) rfl ?_
  refine Flow.assign (v := .int _ _) rfl ?_
  refine hK _ _ _ ?_
  clear hK K
  have c16 := c15.then c6
  have b16 := b15.chg c6 (by simp)
  have b26 := b25.chg c6 (by simp)
  refine W.seq fun K hK => ?_
  refine W.region (by rfl) ?_
  refine Flow.loadA Tf.ty_25 rfl rfl (b16.cells0) ?_
  refine Flow.move (v := .int _ _) rfl ?_
  refine Flow.call2 Tf.hb_25 (v1 := .agg _) rfl (v2 := .int _ _) rfl ?_
  refine Ret.mono (Lost_ok _ t ac af cc cf day (hC.ext c16) (hF.ext c16) hcl hfl hx) ?_
  rintro _ w7 ⟨rfl, c7⟩
  refine Flow.move (v := .tuple _) rfl ?_
  refine Flow.extract (v := .int _ _) rfl rfl ?_
  refine Flow.extract (v := .int _ _) rfl rfl ?_
  refine Flow.assign (v := .int _ _) rfl ?_
  refine Flow.assign (v := .int _ _) rfl ?_
  refine hK _ _ _ ?_
  clear hK K
  have c17 := c16.then c7
  have b17 := b16.chg c7 (by simp)
  have b27 := b26.chg c7 (by simp)
  refine W.seq fun K hK => ?_
  refine W.region (by rfl) ?_
  refine Flow.loadA Tf.ty_25 rfl rfl (b17.cells0) ?_
  refine Flow.move (v := .int _ _) rfl ?_
  refine Flow.call2 Tf.hb_26 (v1 := .agg _) rfl (v2 := .int _ _) rfl ?_
  refine Ret.mono (rLost_ok _ t ac af cc cf day (hC.ext c17) (hF.ext c17) hcl hfl) ?_
  rintro _ w8 ⟨rfl, c8⟩
  refine Flow.move (v := .tuple _) rfl ?_
  refine Flow.extract (v := .int _ _) rfl rfl ?_
  refine Flow.extract (v := .int _ _) rfl rfl ?_
  refine Flow.assign (v := .int _ _) rfl ?_
  refine Flow.assign (v := .int _ _) rfl ?_
  refine hK _ _ _ ?_
  clear hK K
  have c18 := c17.then c8
  have b18 := b17.chg c8 (by simp)
  have b28 := b27.chg c8 (by simp)
  refine W.seq fun K hK => ?_
  refine W.region (by rfl) ?_
  refine Flow.loadA Tf.ty_25 rfl rfl (b18.cells0) ?_
  refine Flow.move (v := .int _ _) rfl ?_
  refine Flow.loadA Tf.ty_44 rfl rfl (b28.cells0) ?_
  refine Flow.call3 Tf.hb_27 (v1 := .agg _) rfl (v2 := .int _ _) rfl (v3 := .agg _) rfl ?_
  refine Ret.mono (Wider_ok _ t ac af cc cf id lo hi (hC.ext c18) (hF.ext c18) hcl hfl hx) ?_
  rintro _ w9 ⟨rfl, c9⟩
  refine Flow.move (v := .tuple _) rfl ?_
  refine Flow.extract (v := .int _ _) rfl rfl ?_
  refine Flow.extract (v := .int _ _) rfl rfl ?_
  refine Flow.assign (v := .int _ _) rfl ?_
  refine Flow.assign (v := .int _ _) rfl ?_
  refine hK _ _ _ ?_
  clear hK K
  have c19 := c18.then c9
  have b19 := b18.chg c9 (by simp)
  have b29 := b28.chg c9 (by simp)
  refine W.seq fun K hK => ?_
  refine W.region (by rfl) ?_
  refine Flow.loadA Tf.ty_25 rfl rfl (b19.cells0) ?_
  refine Flow.move (v := .int _ _) rfl ?_
  refine Flow.loadA Tf.ty_44 rfl rfl (b29.cells0) ?_
  refine Flow.call3 Tf.hb_28 (v1 := .agg _) rfl (v2 := .int _ _) rfl (v3 := .agg _) rfl ?_
  refine Ret.mono (rWider_ok _ t ac af cc cf id lo hi (hC.ext c19) (hF.ext c19) hcl hfl) ?_
  rintro _ w10 ⟨rfl, c10⟩
  refine Flow.move (v := .tuple _) rfl ?_
  refine Flow.extract (v := .int _ _) rfl rfl ?_
  refine Flow.extract (v := .int _ _) rfl rfl ?_
  refine Flow.assign (v := .int _ _) rfl ?_
  refine Flow.assign (v := .int _ _) rfl ?_
  refine hK _ _ _ ?_
  clear hK K
  have c110 := c19.then c10
  have b110 := b19.chg c10 (by simp)
  have b210 := b29.chg c10 (by simp)
  refine W.seq fun K hK => ?_
  refine W.region (by rfl) ?_
  refine Flow.move (v := .bool _) rfl ?_
  refine Flow.move (v := .bool _) rfl ?_
  refine Flow.on rfl rfl ?_
  refine Flow.move (v := .int _ _) rfl ?_
  refine Flow.on rfl rfl ?_
  refine Flow.move (v := .int _ _) rfl ?_
  refine Flow.on rfl rfl ?_
  refine Flow.eqlD (c := true) rfl rfl (decide_eq_true (by omega)) ?_
  refine Flow.pickT rfl rfl ?_
  refine Flow.move (v := .bool _) rfl ?_
  refine Flow.on rfl rfl ?_
  refine Flow.move (v := .int _ _) rfl ?_
  refine Flow.on rfl rfl ?_
  refine Flow.move (v := .int _ _) rfl ?_
  refine Flow.on rfl rfl ?_
  refine Flow.eqlD (c := true) rfl rfl (decide_eq_true (by omega)) ?_
  refine Flow.pickT rfl rfl ?_
  refine Flow.move (v := .bool _) rfl ?_
  refine Flow.on rfl rfl ?_
  refine Flow.move (v := .int _ _) rfl ?_
  refine Flow.on rfl rfl ?_
  refine Flow.move (v := .int _ _) rfl ?_
  refine Flow.on rfl rfl ?_
  refine Flow.eqlD (c := true) rfl rfl (decide_eq_true (by omega)) ?_
  refine Flow.pickT rfl rfl ?_
  refine Flow.move (v := .bool _) rfl ?_
  refine Flow.on rfl rfl ?_
  refine Flow.move (v := .int _ _) rfl ?_
  refine Flow.on rfl rfl ?_
  refine Flow.move (v := .int _ _) rfl ?_
  refine Flow.on rfl rfl ?_
  refine Flow.eqlD (c := true) rfl rfl (decide_eq_true (by omega)) ?_
  refine Flow.pickT rfl rfl ?_
  refine Flow.move (v := .bool _) rfl ?_
  refine Flow.on rfl rfl ?_
  refine Flow.move (v := .int _ _) rfl ?_
  refine Flow.on rfl rfl ?_
  refine Flow.move (v := .int _ _) rfl ?_
  refine Flow.on rfl rfl ?_
  refine Flow.eqlD (c := true) rfl rfl (decide_eq_true (by omega)) ?_
  refine Flow.pickT rfl rfl ?_
  refine Flow.move (v := .bool _) rfl ?_
  refine Flow.on rfl rfl ?_
  refine Flow.move (v := .int _ _) rfl ?_
  refine Flow.on rfl rfl ?_
  refine Flow.move (v := .int _ _) rfl ?_
  refine Flow.on rfl rfl ?_
  refine Flow.eqlD (c := true) rfl rfl (decide_eq_true (by omega)) ?_
  refine Flow.pickT rfl rfl ?_
  refine Flow.assign (v := .bool _) rfl ?_
  refine hK _ _ _ ?_
  clear hK K
  exact W.ret ⟨_, res1 rfl (v := .bool _) rfl, rfl, c110⟩

end Go.Proofs.YtkoejelglinmnaaGreat

namespace Go.Proofs.YtkoejelglinmnaaGreat.mendOtherClaim
open Sg Go.ChangeShapes Go.WideShapes Go.ChangeAt Go.RowKit Go.Joins Go.Deep
set_option linter.unusedVariables false

set_option maxRecDepth 100000 in
theorem lifted (os : Os) (started : os.Started) (H : Type) (enc : TypeId × Value → H) :
    ReturnsInHanded {} Tryz.checked os 4 .any (Rows.mendOtherSpec.pre6 enc Tryz.prog Tryz.f4 Rows.mendOtherRow.domain false) (Rows.mendOtherSpec.post enc Tryz.prog Tryz.f4 false true false false) := by
  refine returnsInHanded_of_change (C := Tryz.checked) own started (by kernel_rfl) Tryz.func4
    (ChangeSpec.witness6 (enc := enc) (C := Tryz.checked) false ⟨#[], #[.agg #[.int .i64 0, .slice none 0 0, .slice none 0 0], .int .i64 0, .int .i64 0, .agg #[.int .i64 0, .int .i64 0]], []⟩ 8 (by kernel_rfl) (by kernel_rfl) (by kernel_rfl) (by kernel_rfl)) ?_
  intro W base args ds gs before hval0 hW hcnd _
  have hval : ∀ (j : Nat) t v, Tryz.f4.params[j]? = some t → args[j]? = some v → Value.okWide Tryz.prog W .any base t v := hval0
  have hW' := hW
  obtain ⟨p, q, hA0, hV, rfl, hfz, hnd⟩ := hW
  have hA : DataW.TrodAll enc Tryz.prog W 0 (fun _ => true) true Tryz.f4.params.toList args.toList ds p := hA0
  rw [Tryz.params4] at hA hval
  obtain ⟨v0, vs0, d0, ds0, p0, q0, hargs, rfl, rfl, h0, r0⟩ := trodAll_cons hA
  obtain ⟨v1, vs1, d1, ds1, p1, q1, rfl, rfl, rfl, h1, r1⟩ := trodAll_cons r0
  obtain ⟨v2, vs2, d2, ds2, p2, q2, rfl, rfl, rfl, h2, r2⟩ := trodAll_cons r1
  obtain ⟨v3, vs3, d3, ds3, p3, q3, rfl, rfl, rfl, h3, r3⟩ := trodAll_cons r2
  obtain ⟨rfl, rfl, rfl⟩ := trodAll_nil r3
  obtain rfl : args = #[v0, v1, v2, v3] := by cases args; simp_all
  obtain ⟨rfl, rfl⟩ := trodVars_none hV
  have k0 := h0
  have lt0 : ∀ x ∈ p0, x.block < W.heap.size := by obtain ⟨m, hm⟩ := k0; exact DataW.trod_lt m _ _ _ hm
  have k3 := h3
  have lt3 : ∀ x ∈ p3, x.block < W.heap.size := by obtain ⟨m, hm⟩ := k3; exact DataW.trod_lt m _ _ _ hm
  obtain ⟨t0, ac0, af0, cc0, cf0, rfl, hC0, hF0⟩ := read_tour (hval 0 _ v0 rfl rfl) h0
  obtain ⟨a1, rfl, rfl, rfl, w1⟩ := open_int u_int (hval 1 _ v1 rfl rfl) h1
  obtain ⟨a2, rfl, rfl, rfl, w2⟩ := open_int u_int (hval 2 _ v2 rfl rfl) h2
  obtain ⟨lo3, hi3, rfl⟩ := read_span (hval 3 _ v3 rfl rfl) h3
  clear hA0 hval0
  refine Calls.mono (mendOther_ok W t0 ac0 af0 cc0 cf0 a1 a2 lo3 hi3 hC0 hF0) ?_
  rintro e W' ⟨v, rfl, rfl, hc⟩
  have bel := chg_below hc
  exact ⟨_, rfl, _, _, _, [], _, [], hW', trodAll_mk1 (shut_bool u_bool _), (trodAll_cons_mk (Below.trod laidOut (by kernel_rfl) (of_decide_eq_true (by kernel_rfl)) k0 bel lt0) (trodAll_cons_mk (shut_int u_int w1) (trodAll_cons_mk (shut_int u_int w2) (trodAll_cons_mk (Below.trod laidOut (by kernel_rfl) (of_decide_eq_true (by kernel_rfl)) k3 bel lt3) trodAll_mk0)))), rfl, bel.frame _, fun h => by cases h⟩

theorem over : Rows.mendOtherRow.holds Tryz.pinned (OpenSpec.ofChange Rows.mendOtherSpec) :=
  OpenClaim.holds_of_wide 4 Tryz.f4 rfl rfl rfl rfl rfl rfl rfl ⟨rfl, rfl, rfl, rfl, rfl⟩ rfl rfl rfl rfl rfl (by kernel_rfl) Tryz.func4 (by kernel_rfl)
    (of_decide_eq_true (by kernel_rfl)) (by unfold Func.isWrapper; first | (rw [if_pos (by decide +kernel)]; kernel_rfl) | (rw [if_neg (by decide +kernel)]; exact ⟨rfl, rfl⟩))
    (fun os started H enc _ => lifted os started H enc)

theorem proved : Rows.MendOtherSaid := over
#print axioms proved

end Go.Proofs.YtkoejelglinmnaaGreat.mendOtherClaim
