/-
  pecialaw06.MendSurely answers true, and its arguments read as before: for every tour with Closed and Flaws of whatever length and every mending.
-/
import Derived.Test.YtkoejelglinmnaaGreatK6
import Derived.Test.YtkoejelglinmnaaGreatK5
set_option linter.unusedSimpArgs false
set_option linter.unusedVariables false
/-
  The walk of the law MendSurely: what is surely mended, and what is possibly.
-/
namespace Go.Proofs.YtkoejelglinmnaaGreat
open Sg Mm
set_option maxRecDepth 100000

namespace Sg
theorem Rn.neBool {P : Program} {n : Nat} {e : Env} {ty : TypeId} {w : World} {t t' : TypeId} {x y : Operand} {a b : Bool} (hu : P.underlying t = some .bool) (hx : ev n e x = .bool a) (hy : ev n e y = .bool b) :
    Rn P n e (.binOp .neq t x y t') ty w (.bool (a != b)) := by
  have hd : Op.maxDepth = (Op.maxDepth - 1) + 1 := rfl
  simp only [Rn, execOp, hx, hy, eqGuard, binOp, Op.equal]; rw [hd]; simp [Op.equalIn, Sem.run_bind, Go.run_underlying hu, Result.andThen, pure, Sem.run, bne]
end Sg

theorem IL.one {w : World} {g : Nat} {v : Int} (h : Blk w g [.int .i64 v] 3) : IL w (some ⟨g, 0, none⟩) [v] := .inr ⟨g, 0, rfl, fun i hi => by
  have : i = 0 := by simpa using hi
  subst this
  exact h.cell 0⟩

theorem mends_ok (w : World) (t : Tour) (ac af : Option Addr) (cc cf : Nat) (ao : Option Addr) (co : Nat) (on : List Int) (aa : Option Addr) (ca : Nat) (all : List Int) (ay : Option Addr) (cy : Nat) (only : List Int) (hF : FL w af t.flaws) (hfl : t.flaws.length ≤ 1000) (hO : IL w ao on) (hA : IL w aa all) (hY : IL w ay only)
    (hl : on.length = t.flaws.length) (hla : all.length ≤ 1000) (hly : only.length ≤ 1000) (hm : MendsP t on all only) :
    Ret Tryz.prog 49 #[.agg #[.int .i64 t.days, .slice ac t.closed.length cc, .slice af t.flaws.length cf], .slice ao on.length co, .slice aa all.length ca, .slice ay only.length cy] w fun v w' => v = .bool true ∧ Chg [] w w' := by
  refine Ret.of_W (n := 47) Tryz.func49 rfl rfl (Nat.le_of_ble_eq_true rfl) ?_
  refine W.seq fun K hK => ?_
  refine W.region (by rfl) ?_
  refine Flow.box rfl (cs := [_, _, _]) rfl fun w1 c1 s1 b1 => ?_
  refine Flow.assignC ?_
  refine hK _ _ _ ?_
  clear hK K
  refine W.seq fun K0 hK0 => ?_
  refine W.seq fun K hK => ?_
  refine W.region (by rfl) ?_
  refine Flow.assignC ?_
  refine hK _ _ _ ?_
  clear hK K
  refine W.block ?_
  refine W.loop (ι := Nat) (fun k ds e w' => ds = [] ∧ k ≤ t.flaws.length ∧ AllAt e [(1, .slice ao on.length co), (2, .slice aa all.length ca), (3, .slice ay only.length cy), (4, .pointer (some ⟨w.heap.size, 0, none⟩)), (9, .int .i64 k)] ∧ Chg [] w1 w') (fun k => t.flaws.length - k) (i0 := 0) ⟨rfl, by omega, ⟨rfl, rfl, rfl, rfl, rfl, trivial⟩, Chg.refl _ _⟩ ?_
  rintro k ds e w2 ⟨rfl, hk, hE, hc⟩
  obtain ⟨e, rfl⟩ : ∃ e0, e = putL e0 _ := ⟨e, putL_self hE⟩
  clear hE
  have b12 := b1.chg hc (by simp)
  have c12 := c1.then hc
  refine W.seq fun K2 hK2 => ?_
  refine W.seq fun K hK => ?_
  refine W.region (by rfl) ?_
  refine Flow.move (v := .int _ _) rfl ?_
  refine Flow.fieldAddr Tf.fo_25_2 rfl ?_
  refine Flow.load1 Tf.ty_23 rfl (b12.cell 2) ?_
  refine Flow.len rfl Tf.us_23 rfl rfl ?_
  refine Flow.lss rfl rfl ?_
  refine hK _ _ _ ?_
  clear hK K
  refine W.cond rfl (fun h => W.skip (hK2 _ _ _ ?_)) (fun h => W.exit ?_)
  case refine_2 =>
    refine hK0 _ _ _ ?_
    refine W.seq fun K hK => ?_
    refine W.region (by rfl) ?_
    refine Flow.assignC ?_
    refine hK _ _ _ ?_
    clear hK K
    exact W.ret ⟨_, res1 rfl (v := .bool _) rfl, rfl, c12⟩
  have hlt : k < t.flaws.length := by simpa using h
  have hlt2 : k < on.length := by omega
  obtain ⟨bf, of_, rfl, hflaw⟩ := (hF.ext c12).get hlt
  obtain ⟨bo, oo, rfl, hcO⟩ := (hO.ext c12).get hlt2
  obtain ⟨m1, m2⟩ := hm k hlt
  rw [at_nat hlt2] at m1 m2
  refine W.seq fun K3 hK3 => ?_
  refine W.block ?_
  refine W.seq fun K hK => ?_
  refine W.region (by rfl) ?_
  refine Flow.fieldAddr Tf.fo_25_2 rfl ?_
  refine Flow.load1 Tf.ty_23 rfl (b12.cell 2) ?_
  refine Flow.move (v := .int _ _) rfl ?_
  refine Flow.indexAddr Tf.sl_23 rfl rfl (by omega) (by omega) ?_
  refine Flow.fieldAddr Tf.fo_81_0 rfl ?_
  refine Flow.load1 Tf.ty_3 rfl ((hflaw k hlt).1) ?_
  refine Flow.assign (v := .int _ _) rfl ?_
  refine hK _ _ _ ?_
  clear hK K
  by_cases hneg : on[k] < 0
  · have hno := m1 hneg
    refine W.seq fun K hK => ?_
    refine W.region (by rfl) ?_
    refine Flow.move (v := .slice _ _ _) rfl ?_
    refine Flow.move (v := .int _ _) rfl ?_
    refine Flow.indexAddr1 Tf.sl_22 rfl rfl (by omega) (by omega) ?_
    refine Flow.load1 Tf.ty_3 rfl (hcO k hlt2) ?_
    refine Flow.lssD (c := true) rfl rfl (decide_eq_true (by omega)) ?_
    refine Flow.move (v := .bool _) rfl ?_
    refine Flow.on rfl rfl ?_
    refine Flow.move (v := .slice _ _ _) rfl ?_
    refine Flow.on rfl rfl ?_
    refine Flow.move (v := .int _ _) rfl ?_
    refine Flow.on rfl rfl ?_
    refine Flow.call2 Tf.hb_42 (v1 := .slice _ _ _) rfl (v2 := .int _ _) rfl ?_
    refine Ret.mono (has_ok _ _ _ all _ (hA.ext c12) (by omega)) ?_
    rintro _ w3 ⟨rfl, c3⟩
    rw [decide_eq_false hno]
    refine Flow.pickT rfl rfl ?_
    refine Flow.move (v := .bool _) rfl ?_
    refine Flow.on rfl rfl ?_
    refine Flow.move (v := .slice _ _ _) rfl ?_
    refine Flow.on rfl rfl ?_
    refine Flow.move (v := .int _ _) rfl ?_
    refine Flow.on rfl rfl ?_
    refine Flow.indexAddr1 Tf.sl_22 rfl rfl (by omega) (by omega) ?_
    refine Flow.on rfl rfl ?_
    refine Flow.load1 Tf.ty_3 rfl (cell_chg (hcO k hlt2) c3 (by simp)) ?_
    refine Flow.on rfl rfl ?_
    refine Flow.geqD (c := false) rfl rfl (decide_eq_false (by omega)) ?_
    refine Flow.on rfl rfl ?_
    refine Flow.move (v := .bool _) rfl ?_
    refine Flow.off (c := false) rfl rfl rfl ?_
    refine Flow.off (c := false) rfl rfl rfl ?_
    refine Flow.off (c := false) rfl rfl rfl ?_
    refine Flow.off (c := false) rfl rfl rfl ?_
    refine Flow.on rfl rfl ?_
    refine Flow.pickF rfl rfl ?_
    refine Flow.pickF rfl rfl ?_
    refine hK _ _ _ ?_
    clear hK K
    refine W.cond (t := false) rfl (fun h => by simp at h) (fun _ => W.skip (hK3 _ _ _ ?_))
    refine W.region (by rfl) ?_
    refine Flow.move (v := .int _ _) rfl ?_
    refine Flow.add rfl rfl (by omega) (by omega) ?_
    refine Flow.assign (v := .int _ _) rfl ?_
    exact Flow.nil ⟨k + 1, by omega, rfl, by omega, ⟨rfl, rfl, rfl, rfl, rfl, trivial⟩, hc.then c3⟩
  · have hyes := m2 (by omega)
    refine W.seq fun K hK => ?_
    refine W.region (by rfl) ?_
    refine Flow.move (v := .slice _ _ _) rfl ?_
    refine Flow.move (v := .int _ _) rfl ?_
    refine Flow.indexAddr1 Tf.sl_22 rfl rfl (by omega) (by omega) ?_
    refine Flow.load1 Tf.ty_3 rfl (hcO k hlt2) ?_
    refine Flow.lssD (c := false) rfl rfl (decide_eq_false (by omega)) ?_
    refine Flow.move (v := .bool _) rfl ?_
    refine Flow.off (c := false) rfl rfl rfl ?_
    refine Flow.off (c := false) rfl rfl rfl ?_
    refine Flow.off (c := false) rfl rfl rfl ?_
    refine Flow.pickF rfl rfl ?_
    refine Flow.move (v := .bool _) rfl ?_
    refine Flow.on rfl rfl ?_
    refine Flow.move (v := .slice _ _ _) rfl ?_
    refine Flow.on rfl rfl ?_
    refine Flow.move (v := .int _ _) rfl ?_
    refine Flow.on rfl rfl ?_
    refine Flow.indexAddr1 Tf.sl_22 rfl rfl (by omega) (by omega) ?_
    refine Flow.on rfl rfl ?_
    refine Flow.load1 Tf.ty_3 rfl (hcO k hlt2) ?_
    refine Flow.on rfl rfl ?_
    refine Flow.geqD (c := true) rfl rfl (decide_eq_true (by omega)) ?_
    refine Flow.on rfl rfl ?_
    refine Flow.move (v := .bool _) rfl ?_
    refine Flow.on rfl rfl ?_
    refine Flow.move (v := .slice _ _ _) rfl ?_
    refine Flow.on rfl rfl ?_
    refine Flow.move (v := .int _ _) rfl ?_
    refine Flow.on rfl rfl ?_
    refine Flow.call2 Tf.hb_42 (v1 := .slice _ _ _) rfl (v2 := .int _ _) rfl ?_
    refine Ret.mono (has_ok _ _ _ only _ (hY.ext c12) (by omega)) ?_
    rintro _ w3 ⟨rfl, c3⟩
    refine Flow.on rfl rfl ?_
    refine Flow.not rfl ?_
    refine Flow.on rfl rfl ?_
    refine Flow.pickT rfl rfl ?_
    refine Flow.pickF rfl rfl ?_
    refine hK _ _ _ ?_
    clear hK K
    rw [decide_eq_true hyes]
    refine W.cond (t := false) rfl (fun h => by simp at h) (fun _ => W.skip (hK3 _ _ _ ?_))
    refine W.region (by rfl) ?_
    refine Flow.move (v := .int _ _) rfl ?_
    refine Flow.add rfl rfl (by omega) (by omega) ?_
    refine Flow.assign (v := .int _ _) rfl ?_
    exact Flow.nil ⟨k + 1, by omega, rfl, by omega, ⟨rfl, rfl, rfl, rfl, rfl, trivial⟩, hc.then c3⟩

theorem surely_len (t : Tour) : (surelyA t).length ≤ t.flaws.length ∧ (surelyB t).length ≤ t.flaws.length := by
  constructor
  · unfold surelyA; split
    · rw [(sortS_perm lessI _).length_eq]; exact idsK_len _ _ _
    · simp
  · unfold surelyB; split
    · rw [(sortS_perm lessI _).length_eq]; exact idsK_len _ _ _
    · simp

set_option maxHeartbeats 4000000 in
theorem mendSurely_ok (w : World) (t : Tour) (ac af : Option Addr) (cc cf : Nat) (ao : Option Addr) (co : Nat) (on : List Int) (mer : Int) (ar : Option Addr) (cr : Nat) (full : List (Int × Int)) (hC : IL w ac t.closed) (hF : FL w af t.flaws) (hO : IL w ao on) (hR : SL w ar full) :
    Ret Tryz.prog 8 #[.agg #[.int .i64 t.days, .slice ac t.closed.length cc, .slice af t.flaws.length cf], .agg #[.slice ao on.length co, .int .i64 mer, .slice ar full.length cr]] w fun v w' => v = .bool true ∧ Chg [] w w' := by
  refine Ret.of_W (n := 191) Tryz.func8 rfl rfl (Nat.le_of_ble_eq_true rfl) ?_
  refine W.seq fun K hK => ?_
  refine W.region (by rfl) ?_
  refine Flow.box rfl (cs := [_, _, _]) rfl fun w1 c1 s1 b1 => ?_
  refine Flow.box rfl (cs := [_, _, _]) rfl fun w2 c2 s2 b2 => ?_
  refine Flow.assignC ?_
  refine hK _ _ _ ?_
  clear hK K
  have b12 := b1.chg c2 (by simp)
  refine W.seq fun K hK => ?_
  refine W.region (by rfl) ?_
  refine Flow.call0 Tf.hb_14  ?_
  refine Ret.mono (head_ok _) ?_
  rintro _ w3 ⟨rfl, c3⟩
  refine Flow.assign (v := .bool _) rfl ?_
  refine hK _ _ _ ?_
  clear hK K
  have c13 := (c1.then c2).then c3
  have b23 := b2.chg c3 (by simp)
  refine W.seq fun K2 hK2 => ?_
  refine W.seq fun K hK => ?_
  refine W.region (by rfl) ?_
  refine Flow.loadA Tf.ty_25 rfl rfl ((b12.chg c3 (by simp)).cells0) ?_
  refine Flow.call1 Tf.hb_15 (v1 := .agg _) rfl ?_
  refine Ret.mono (few_ok _ t ac af cc cf) ?_
  rintro _ w4 ⟨rfl, c4⟩
  have c14 := c13.then c4
  have b14 := b12.chg (c3.then c4) (by simp)
  have b24 := b23.chg c4 (by simp)
  cases hfew : fewB t with
  | false =>
    refine Flow.not rfl ?_
    refine Flow.move (v := .bool _) rfl ?_
    refine Flow.off (c := true) rfl rfl rfl ?_
    refine Flow.off (c := true) rfl rfl rfl ?_
    refine Flow.off (c := true) rfl rfl rfl ?_
    refine Flow.pickT rfl rfl ?_
    refine Flow.move (v := .bool _) rfl ?_
    refine Flow.off (c := true) rfl rfl rfl ?_
    refine Flow.off (c := true) rfl rfl rfl ?_
    refine Flow.off (c := true) rfl rfl rfl ?_
    refine Flow.pickT rfl rfl ?_
    refine hK _ _ _ ?_
    clear hK K
    refine W.cond (t := true) rfl (fun _ => ?_) (fun h => by simp at h)
    refine W.seq fun K hK => ?_
    refine W.region (by rfl) ?_
    refine Flow.move (v := .bool _) rfl ?_
    refine Flow.assign (v := .bool _) rfl ?_
    refine hK _ _ _ ?_
    clear hK K
    exact W.ret ⟨_, res1 rfl (v := .bool _) rfl, rfl, c14⟩
  | true =>
  obtain ⟨hcl, hfl, hx8⟩ := few_facts hfew
  have hx : chk t = 0 → t.flaws.length < 20 := fun h => by have := hx8 h; omega
  refine Flow.not rfl ?_
  refine Flow.move (v := .bool _) rfl ?_
  refine Flow.on rfl rfl ?_
  refine Flow.loadA Tf.ty_51 rfl rfl (b24.cells0) ?_
  refine Flow.on rfl rfl ?_
  refine Flow.call1 Tf.hb_29 (v1 := .agg _) rfl ?_
  refine Ret.mono (small_ok _ _ _ _ _ _ _ _) ?_
  rintro _ w5 ⟨rfl, c5⟩
  have c15 := c14.then c5
  have b15 := b14.chg c5 (by simp)
  have b25 := b24.chg c5 (by simp)
  by_cases hsm : on.length ≤ 60 ∧ full.length ≤ 60
  case neg =>
    rw [decide_eq_false hsm]
    refine Flow.on rfl rfl ?_
    refine Flow.not rfl ?_
    refine Flow.pickF rfl rfl ?_
    refine Flow.move (v := .bool _) rfl ?_
    refine Flow.off (c := true) rfl rfl rfl ?_
    refine Flow.off (c := true) rfl rfl rfl ?_
    refine Flow.off (c := true) rfl rfl rfl ?_
    refine Flow.pickT rfl rfl ?_
    refine hK _ _ _ ?_
    clear hK K
    refine W.cond (t := true) rfl (fun _ => ?_) (fun h => by simp at h)
    refine W.seq fun K hK => ?_
    refine W.region (by rfl) ?_
    refine Flow.move (v := .bool _) rfl ?_
    refine Flow.assign (v := .bool _) rfl ?_
    refine hK _ _ _ ?_
    clear hK K
    exact W.ret ⟨_, res1 rfl (v := .bool _) rfl, rfl, c15⟩
  rw [decide_eq_true hsm]
  refine Flow.on rfl rfl ?_
  refine Flow.not rfl ?_
  refine Flow.pickF rfl rfl ?_
  refine Flow.move (v := .bool _) rfl ?_
  refine Flow.on rfl rfl ?_
  refine Flow.fieldAddr Tf.fo_25_0 rfl ?_
  refine Flow.on rfl rfl ?_
  refine Flow.load1 Tf.ty_3 rfl (b15.cell 0) ?_
  refine Flow.on rfl rfl ?_
  refine Flow.gtr rfl rfl ?_
  refine Flow.pickF rfl rfl ?_
  refine hK _ _ _ ?_
  clear hK K
  refine W.cond rfl (fun h => ?_) (fun h => W.skip (hK2 _ _ _ ?_))
  · refine W.seq fun K hK => ?_
    refine W.region (by rfl) ?_
    refine Flow.move (v := .bool _) rfl ?_
    refine Flow.assign (v := .bool _) rfl ?_
    refine hK _ _ _ ?_
    clear hK K
    exact W.ret ⟨_, res1 rfl (v := .bool _) rfl, rfl, c15⟩
  clear h
  refine W.seq fun K hK => ?_
  refine W.region (by rfl) ?_
  refine Flow.loadA Tf.ty_25 rfl rfl (b15.cells0) ?_
  refine Flow.call1 Tf.hb_16 (v1 := .agg _) rfl ?_
  refine Ret.mono (Surely_ok _ t ac af cc cf (hC.ext c15) (hF.ext c15) hcl hfl (fun h => by have := hx8 h; omega)) ?_
  rintro _ w6 ⟨c6, aa, ka, ay, ky, rfl, hA6, hY6⟩
  refine Flow.move (v := .tuple _) rfl ?_
  refine Flow.extract (v := .slice _ _ _) rfl rfl ?_
  refine Flow.extract (v := .slice _ _ _) rfl rfl ?_
  refine Flow.extract (v := .int _ _) rfl rfl ?_
  refine Flow.assign (v := .slice _ _ _) rfl ?_
  refine Flow.assign (v := .slice _ _ _) rfl ?_
  refine Flow.assign (v := .int _ _) rfl ?_
  refine hK _ _ _ ?_
  clear hK K
  have c16 := c15.then c6
  have b16 := b15.chg c6 (by simp)
  have b26 := b25.chg c6 (by simp)
  refine W.seq fun K hK => ?_
  refine W.region (by rfl) ?_
  refine Flow.loadA Tf.ty_25 rfl rfl (b16.cells0) ?_
  refine Flow.call1 Tf.hb_43 (v1 := .agg _) rfl ?_
  refine Ret.mono (Best_ok _ t ac af cc cf (hC.ext c16) (hF.ext c16) hcl hfl hx) ?_
  rintro _ w7 ⟨c7, _, rfl, xo, ko, xr, kr, rfl, hXO, _⟩
  refine Flow.move (v := .tuple _) rfl ?_
  refine Flow.extract (v := .agg _) rfl rfl ?_
  refine Flow.extract (v := .int _ _) rfl rfl ?_
  refine Flow.alloc Tf.ty_51 (cs := [_, _, _]) rfl fun w8 c8 s8 b8 => ?_
  refine Flow.store Tf.ty_51 rfl rfl (b8) (vs := [_, _, _]) rfl rfl (by simp) rfl fun w9 c9 s9 b9 => ?_
  refine Flow.assign (v := .int _ _) rfl ?_
  refine hK _ _ _ ?_
  clear hK K
  have c69 : Chg [] w6 w9 := c7.then (c8.step c9 (by simp))
  have c19 := c16.then c69
  have b19 := b16.chg c69 (by simp)
  have b29 := b26.chg c69 (by simp)
  refine W.seq fun K6 hK6 => ?_
  refine W.seq fun K hK => ?_
  refine W.region (by rfl) ?_
  refine Flow.move (v := .int _ _) rfl ?_
  refine Flow.move (v := .int _ _) rfl ?_
  refine Flow.neq rfl rfl ?_
  refine hK _ _ _ ?_
  clear hK K
  refine W.cond rfl (fun h => by simp at h) (fun _ => W.skip (hK6 _ _ _ ?_))
  refine W.seq fun K8 hK8 => ?_
  refine W.seq fun K hK => ?_
  refine W.region (by rfl) ?_
  refine Flow.move (v := .int _ _) rfl ?_
  refine Flow.neq rfl rfl ?_
  refine hK _ _ _ ?_
  clear hK K
  refine W.cond rfl (fun h => ?_) (fun h => W.skip (hK8 _ _ _ ?_))
  · refine W.seq fun K hK => ?_
    refine W.region (by rfl) ?_
    refine Flow.move (v := .bool _) rfl ?_
    refine Flow.assign (v := .bool _) rfl ?_
    refine hK _ _ _ ?_
    clear hK K
    exact W.ret ⟨_, res1 rfl (v := .bool _) rfl, rfl, c19⟩
  have hck : chk t = 0 := by simpa using h
  have hv := chk_valid hck
  have hmr : meritR t = meritS t := by rw [meritR, if_pos hck]
  rw [hmr] at b9
  obtain ⟨hbl, hbm⟩ := best_mends hv
  have hA9 := hA6.ext c69
  have hY9 := hY6.ext c69
  have hX9 := hXO.ext (c8.step c9 (by simp) : Chg [] w7 w9)
  obtain ⟨hsa, hsb⟩ := surely_len t
  clear h hK2 K2 hK6 K6 hK8 K8
  refine W.seq fun K10 hK10 => ?_
  have hgo : ∀ (e : Env) (w' : World), AllAt e [(2, .pointer (some ⟨w.heap.size, 0, none⟩)), (5, .bool true), (6, .slice aa (surelyA t).length ka), (7, .slice ay (surelyB t).length ky), (9, .pointer (some ⟨w7.heap.size, 0, none⟩))] → Chg [] w9 w' → K10 [] e w' := by
    intro e w10 hE c10
    refine hK10 _ _ _ ?_
    obtain ⟨e, rfl⟩ : ∃ e0, e = putL e0 _ := ⟨e, putL_self hE⟩
    clear hE
    have c110 := c19.then c10
    refine W.seq fun K12 hK12 => ?_
    refine W.seq fun K hK => ?_
    refine W.region (by rfl) ?_
    refine Flow.assignC ?_
    refine hK _ _ _ ?_
    clear hK K
    refine W.block ?_
    refine W.loop (ι := Nat) (fun k ds e w' => ds = [] ∧ k ≤ t.flaws.length ∧ AllAt e [(2, .pointer (some ⟨w.heap.size, 0, none⟩)), (5, .bool true), (6, .slice aa (surelyA t).length ka), (7, .slice ay (surelyB t).length ky), (9, .pointer (some ⟨w7.heap.size, 0, none⟩)), (11, .int .i64 k)] ∧ Chg [] w9 w') (fun k => t.flaws.length - k) (i0 := 0) ⟨rfl, by omega, ⟨rfl, rfl, rfl, rfl, rfl, rfl, trivial⟩, c10⟩ ?_
    rintro k ds e w11 ⟨rfl, hk, hE, c11⟩
    obtain ⟨e, rfl⟩ : ∃ e0, e = putL e0 _ := ⟨e, putL_self hE⟩
    clear hE
    clear c110
    have c111 := c19.then c11
    have b111 := b19.chg c11 (by simp)
    refine W.seq fun K13 hK13 => ?_
    refine W.seq fun K hK => ?_
    refine W.region (by rfl) ?_
    refine Flow.move (v := .int _ _) rfl ?_
    refine Flow.fieldAddr Tf.fo_25_2 rfl ?_
    refine Flow.load1 Tf.ty_23 rfl (b111.cell 2) ?_
    refine Flow.len rfl Tf.us_23 rfl rfl ?_
    refine Flow.lss rfl rfl ?_
    refine hK _ _ _ ?_
    clear hK K
    refine W.cond rfl (fun h => W.skip (hK13 _ _ _ ?_)) (fun h => W.exit ?_)
    case refine_2 =>
      refine hK12 _ _ _ ?_
      refine W.seq fun K hK => ?_
      refine W.region (by rfl) ?_
      refine Flow.move (v := .bool _) rfl ?_
      refine Flow.assign (v := .bool _) rfl ?_
      refine hK _ _ _ ?_
      clear hK K
      exact W.ret ⟨_, res1 rfl (v := .bool _) rfl, rfl, c111⟩
    have hlt : k < t.flaws.length := by simpa using h
    obtain ⟨bf, of_, rfl, hflaw⟩ := (hF.ext c111).get hlt
    obtain ⟨d1, d2⟩ := days_id hv hlt
    obtain ⟨v1, v2, v3⟩ := without_one hv hlt
    have hml := mem_surelyA hv hlt
    have hmy := mem_surelyB hv hlt
    have hdl := days_len hv hlt
    refine W.seq fun K14 hK14 => ?_
    refine W.block ?_
    refine W.seq fun K hK => ?_
    refine W.region (by rfl) ?_
    refine Flow.fieldAddr Tf.fo_25_2 rfl ?_
    refine Flow.load1 Tf.ty_23 rfl (b111.cell 2) ?_
    refine Flow.move (v := .int _ _) rfl ?_
    refine Flow.indexAddr Tf.sl_23 rfl rfl (by omega) (by omega) ?_
    refine Flow.fieldAddr Tf.fo_81_0 rfl ?_
    refine Flow.load1 Tf.ty_3 rfl ((hflaw k hlt).1) ?_
    refine Flow.assign (v := .int _ _) rfl ?_
    refine hK _ _ _ ?_
    clear hK K
    obtain ⟨id, hid⟩ : ∃ i, i = t.flaws[k].id := ⟨_, rfl⟩
    rw [← hid] at d1 d2 v1 v2 hml hmy ⊢
    refine W.seq fun K hK => ?_
    refine W.region (by rfl) ?_
    refine Flow.loadA Tf.ty_25 rfl rfl (b111.cells0) ?_
    refine Flow.move (v := .int _ _) rfl ?_
    refine Flow.call2 Tf.hb_18 (v1 := .agg _) rfl (v2 := .int _ _) rfl ?_
    refine Ret.mono (Days_ok _ t ac _ cc cf id (hC.ext c111) (hF.ext c111) hcl hfl hx) ?_
    rintro _ w12 ⟨c12', ad, kd, rfl, hm12⟩
    refine Flow.move (v := .tuple _) rfl ?_
    refine Flow.extract (v := .slice _ _ _) rfl rfl ?_
    refine Flow.extract (v := .int _ _) rfl rfl ?_
    refine Flow.assign (v := .slice _ _ _) rfl ?_
    refine Flow.assign (v := .int _ _) rfl ?_
    refine hK _ _ _ ?_
    clear hK K
    have hD12 := hm12.il
    rw [d1] at hD12 ⊢
    rw [d2]
    clear hm12
    have c112 := c111.then c12'
    have b112 := b111.chg c12' (by simp)
    refine W.seq fun K hK => ?_
    refine W.region (by rfl) ?_
    refine Flow.loadA Tf.ty_25 rfl rfl (b112.cells0) ?_
    refine Flow.move (v := .int _ _) rfl ?_
    refine Flow.buildSlice1 Tf.sl_22 Tf.us_22 rfl (by decide) (by decide) rfl (cs := [_]) rfl rfl fun w13 c13' s13 b13' => ?_
    refine Flow.call2 Tf.hb_34 (v1 := .agg _) rfl (v2 := .slice _ _ _) rfl ?_
    refine Ret.mono (Without_ok _ t ac _ cc cf _ 1 [id] (hC.ext (c112.then c13')) (hF.ext (c112.then c13')) hcl hfl (IL.one b13') (by simp)) ?_
    rintro _ w14 ⟨c14', _, rfl, a6, k6, a7, k7, rfl, hC14, hF14⟩
    refine Flow.move (v := .tuple _) rfl ?_
    refine Flow.extract (v := .agg _) rfl rfl ?_
    refine Flow.extract (v := .int _ _) rfl rfl ?_
    refine Flow.alloc Tf.ty_25 (cs := [_, _, _]) rfl fun w15 c15' s15 b15' => ?_
    refine Flow.store Tf.ty_25 rfl rfl (b15') (vs := [_, _, _]) rfl rfl (by simp) rfl fun w16 c16' s16 b16' => ?_
    refine Flow.assign (v := .int _ _) rfl ?_
    refine hK _ _ _ ?_
    clear hK K
    rw [v2] at hC14 hF14 b16'
    rw [v1]
    have c1416 : Chg [] w14 w16 := c15'.step c16' (by simp)
    have c1216 := (c13'.then c14').then c1416
    have c116 := c112.then c1216
    have hwl := (without_subl t [(k : Int)]).length_le
    have hwv := valid_chk (hv.without [(k : Int)])
    have hx8' := hx8 hck
    refine W.seq fun K hK => ?_
    refine W.region (by rfl) ?_
    refine Flow.loadA Tf.ty_25 rfl rfl (b16'.cells0) ?_
    refine Flow.call1 Tf.hb_44 (v1 := .agg _) rfl ?_
    refine Ret.mono (Merit_ok _ (withoutS t [(k : Int)]) a6 a7 k6 k7 (hC14.ext c1416) (hF14.ext c1416) hcl (by omega) (fun _ => by omega)) ?_
    rintro _ w17 ⟨rfl, c17'⟩
    refine Flow.move (v := .tuple _) rfl ?_
    refine Flow.extract (v := .int _ _) rfl rfl ?_
    refine Flow.extract (v := .int _ _) rfl rfl ?_
    refine Flow.assign (v := .int _ _) rfl ?_
    refine Flow.assign (v := .int _ _) rfl ?_
    refine hK _ _ _ ?_
    clear hK K
    have hmw : meritR (withoutS t [(k : Int)]) = meritS (withoutS t [(k : Int)]) := by rw [meritR, if_pos hwv]
    rw [hmw, hwv]
    have c1117 := c12'.then (c1216.then c17')
    have c117 := c111.then c1117
    have b117 := b111.chg c1117 (by simp)
    have b917 := b9.chg (c11.then c1117) (by simp)
    have hA17 := hA9.ext (c11.then c1117)
    have hY17 := hY9.ext (c11.then c1117)
    have hD17 := hD12.ext (c1216.then c17')
    have hfl17 := Cells.chg c1117 (by simp) (hflaw k hlt)
    refine W.seq fun K19 hK19 => ?_
    have hne1 : (decide ((0 : Int) < ((daysOfS t (k : Int)).length : Int)) != decide (id ∈ surelyB t)) = false := by
      rw [bne_eq_false_iff_eq]; exact decide_eq_decide.2 (by rw [hmy]; omega)
    have hne2 : (decide (meritS (withoutS t [(k : Int)]) < meritS t) != decide (id ∈ surelyA t)) = false := by
      rw [bne_eq_false_iff_eq]; exact decide_eq_decide.2 hml.symm
    refine W.seq fun K hK => ?_
    refine W.regionD [16, 26] [] (by kernel_rfl) (by kernel_rfl) fun w18 c18 h18 => ?_
    refine FD.val (fun _ hw => Rn.move (v := .int _ _) rfl) ?_
    refine FD.val (fun _ hw => Rn.neqD (c := false) rfl rfl (decide_eq_false (by omega))) ?_
    refine FD.val (fun _ hw => Rn.move (v := .bool _) rfl) ?_
    refine FD.on rfl rfl ?_
    refine FD.val (fun _ hw => Rn.move (v := .int _ _) rfl) ?_
    refine FD.on rfl rfl ?_
    refine FD.val (fun _ hw => Rn.neqD (c := false) rfl rfl (decide_eq_false (by omega))) ?_
    refine FD.val (fun _ hw => Rn.pickF rfl rfl) ?_
    refine FD.val (fun _ hw => Rn.move (v := .bool _) rfl) ?_
    refine FD.on rfl rfl ?_
    refine FD.val (fun _ hw => Rn.move (v := .int _ _) rfl) ?_
    refine FD.on rfl rfl ?_
    refine FD.val (fun _ hw => Rn.neqD (c := false) rfl rfl (decide_eq_false (by omega))) ?_
    refine FD.val (fun _ hw => Rn.pickF rfl rfl) ?_
    refine FD.val (fun _ hw => Rn.move (v := .bool _) rfl) ?_
    refine FD.on rfl rfl ?_
    refine FD.val (fun _ hw => Rn.move (v := .slice _ _ _) rfl) ?_
    refine FD.on rfl rfl ?_
    refine FD.val (fun _ hw => Rn.len rfl Tf.us_22 rfl rfl) ?_
    refine FD.on rfl rfl ?_
    refine FD.val (fun _ hw => Rn.gtrD rfl rfl rfl) ?_
    refine FD.on rfl rfl ?_
    refine FD.val (fun _ hw => Rn.move (v := .slice _ _ _) rfl) ?_
    refine FD.on rfl rfl ?_
    refine FD.val (fun _ hw => Rn.move (v := .int _ _) rfl) ?_
    refine FD.on rfl rfl ?_
    refine FD.eff (by rfl) (Chg.refl _ _) ?_
    refine Flow.call2 Tf.hb_42 (v1 := .slice _ _ _) rfl (v2 := .int _ _) rfl ?_
    refine Ret.mono (has_ok _ _ _ (surelyB t) _ (hY17.ext c18) (by omega)) ?_
    rintro _ w19 ⟨rfl, c19'⟩
    refine Flow.nil ⟨c19', ?_⟩
    refine FD.on rfl rfl ?_
    refine FD.val (fun _ hw => Rn.neBool u_bool rfl rfl) ?_
    rw [hne1]
    refine FD.val (fun _ hw => Rn.pickF rfl rfl) ?_
    refine FD.val (fun _ hw => Rn.move (v := .bool _) rfl) ?_
    refine FD.on rfl rfl ?_
    refine FD.val (fun _ hw => Rn.move (v := .int _ _) rfl) ?_
    refine FD.on rfl rfl ?_
    refine FD.val (fun _ hw => Rn.fieldAddr Tf.fo_51_1 rfl) ?_
    refine FD.on rfl rfl ?_
    refine FD.val (fun _ hw => Rn.load1 Tf.ty_3 rfl ((b917.chg c18 (by simp)).cell 1) (hw rfl rfl)) ?_
    refine FD.on rfl rfl ?_
    refine FD.val (fun _ hw => Rn.lssD rfl rfl rfl) ?_
    refine FD.on rfl rfl ?_
    refine FD.val (fun _ hw => Rn.move (v := .slice _ _ _) rfl) ?_
    refine FD.on rfl rfl ?_
    refine FD.val (fun _ hw => Rn.move (v := .int _ _) rfl) ?_
    refine FD.on rfl rfl ?_
    refine FD.eff (by rfl) (c19') ?_
    refine Flow.call2 Tf.hb_42 (v1 := .slice _ _ _) rfl (v2 := .int _ _) rfl ?_
    refine Ret.mono (has_ok _ _ _ (surelyA t) _ (hA17.ext (c18.then c19')) (by omega)) ?_
    rintro _ w20 ⟨rfl, c20'⟩
    refine Flow.nil ⟨c20', ?_⟩
    refine FD.on rfl rfl ?_
    refine FD.val (fun _ hw => Rn.neBool u_bool rfl rfl) ?_
    rw [hne2]
    refine FD.val (fun _ hw => Rn.pickF rfl rfl) ?_
    refine FD.val (fun _ hw => Rn.move (v := .bool _) rfl) ?_
    refine FD.on rfl rfl ?_
    refine FD.val (fun _ hw => Rn.move (v := .int _ _) rfl) ?_
    refine FD.on rfl rfl ?_
    refine FD.val (fun _ hw => Rn.fieldAddr Tf.fo_51_1 rfl) ?_
    refine FD.on rfl rfl ?_
    refine FD.val (fun _ hw => Rn.load1 Tf.ty_3 rfl ((b917.chg c18 (by simp)).cell 1) (hw rfl rfl)) ?_
    refine FD.on rfl rfl ?_
    refine FD.val (fun _ hw => Rn.gtrD rfl rfl rfl) ?_
    refine FD.val (fun _ hw => Rn.pickF rfl rfl) ?_
    refine FD.nil ?_
    refine hK _ _ _ ?_
    clear hK K
    refine W.cond rfl (fun h => ?_) (fun h => W.skip (hK19 _ _ _ ?_))
    · simp at h; omega
    have c1720 := c18.then (c19'.then c20')
    have c1120 := c1117.then c1720
    have b120 := b117.chg c1720 (by simp)
    have hD20 := hD17.ext c1720
    have hfl20 := Cells.chg c1720 (by simp) hfl17
    have hDin : ∀ d ∈ daysOfS t k, t.flaws[k].lo ≤ d ∧ d ≤ t.flaws[k].hi ∧ d ∉ t.closed := fun d hd => days_in hlt hd
    obtain ⟨D, hDe⟩ : ∃ D, D = daysOfS t k := ⟨_, rfl⟩
    rw [← hDe] at hD20 hDin hdl ⊢
    clear hne1 hne2 h
    refine W.forget [(2, .pointer (some ⟨w.heap.size, 0, none⟩)), (5, .bool true), (6, .slice aa (surelyA t).length ka), (7, .slice ay (surelyB t).length ky), (9, .pointer (some ⟨w7.heap.size, 0, none⟩)), (11, .int .i64 k), (13, .slice ad D.length kd)] ⟨rfl, rfl, rfl, rfl, rfl, rfl, rfl, trivial⟩ fun e => ?_
    refine W.seq fun K hK => ?_
    refine W.region (by rfl) ?_
    refine Flow.assignC ?_
    refine hK _ _ _ ?_
    clear hK K
    refine W.block ?_
    refine W.loop (ι := Nat) (fun j ds e w' => ds = [] ∧ j ≤ D.length ∧ AllAt e [(2, .pointer (some ⟨w.heap.size, 0, none⟩)), (5, .bool true), (6, .slice aa (surelyA t).length ka), (7, .slice ay (surelyB t).length ky), (9, .pointer (some ⟨w7.heap.size, 0, none⟩)), (11, .int .i64 k), (13, .slice ad D.length kd), (19, .int .i64 j)] ∧ Chg [] w20 w') (fun j => D.length - j) (i0 := 0) ⟨rfl, by omega, ⟨rfl, rfl, rfl, rfl, rfl, rfl, rfl, rfl, trivial⟩, Chg.refl _ _⟩ ?_
    rintro j ds e w21 ⟨rfl, hj, hE, c21⟩
    obtain ⟨e, rfl⟩ : ∃ e0, e = putL e0 _ := ⟨e, putL_self hE⟩
    clear hE
    refine W.seq fun K22 hK22 => ?_
    refine W.seq fun K hK => ?_
    refine W.region (by rfl) ?_
    refine Flow.move (v := .int _ _) rfl ?_
    refine Flow.move (v := .slice _ _ _) rfl ?_
    refine Flow.len rfl Tf.us_22 rfl rfl ?_
    refine Flow.lss rfl rfl ?_
    refine hK _ _ _ ?_
    clear hK K
    refine W.cond rfl (fun h => W.skip (hK22 _ _ _ ?_)) (fun h => W.exit ?_)
    · have hjl : j < D.length := by simpa using h
      obtain ⟨bd, od, rfl, hcD⟩ := (hD20.ext c21).get hjl
      obtain ⟨i1, i2, i3⟩ := hDin _ (List.getElem_mem hjl)
      have b121 := b120.chg c21 (by simp)
      have hfl21 := Cells.chg c21 (by simp) hfl20
      have c121 := (c111.then c1120).then c21
      refine W.seq fun K23 hK23 => ?_
      refine W.block ?_
      refine W.seq fun K hK => ?_
      refine W.regionD [33] [] (by kernel_rfl) (by kernel_rfl) fun w22 c22 h22 => ?_
      refine FD.val (fun _ hw => Rn.move (v := .slice _ _ _) rfl) ?_
      refine FD.val (fun _ hw => Rn.move (v := .int _ _) rfl) ?_
      refine FD.val (fun _ hw => Rn.indexAddr1 Tf.sl_22 rfl rfl (by omega) (by omega)) ?_
      refine FD.val (fun _ hw => Rn.load1 Tf.ty_3 rfl (cell_chg (hcD j hjl) c22 (by simp)) (hw rfl rfl)) ?_
      refine FD.val (fun _ hw => Rn.fieldAddr Tf.fo_25_2 rfl) ?_
      refine FD.val (fun _ hw => Rn.load1 Tf.ty_23 rfl ((b121.chg c22 (by simp)).cell 2) (hw rfl rfl)) ?_
      refine FD.val (fun _ hw => Rn.move (v := .int _ _) rfl) ?_
      refine FD.val (fun _ hw => Rn.indexAddr Tf.sl_23 rfl rfl (by omega) (by omega)) ?_
      refine FD.val (fun _ hw => Rn.fieldAddr Tf.fo_81_1 rfl) ?_
      refine FD.val (fun _ hw => Rn.fieldAddr Tf.fo_44_0 rfl) ?_
      refine FD.val (fun _ hw => Rn.load1 Tf.ty_3 rfl ((Cells.chg c22 (by simp) hfl21).2.1) (hw rfl rfl)) ?_
      refine FD.val (fun _ hw => Rn.lssD (c := false) rfl rfl (decide_eq_false (by omega))) ?_
      refine FD.val (fun _ hw => Rn.move (v := .bool _) rfl) ?_
      refine FD.on rfl rfl ?_
      refine FD.val (fun _ hw => Rn.move (v := .slice _ _ _) rfl) ?_
      refine FD.on rfl rfl ?_
      refine FD.val (fun _ hw => Rn.move (v := .int _ _) rfl) ?_
      refine FD.on rfl rfl ?_
      refine FD.val (fun _ hw => Rn.indexAddr1 Tf.sl_22 rfl rfl (by omega) (by omega)) ?_
      refine FD.on rfl rfl ?_
      refine FD.val (fun _ hw => Rn.load1 Tf.ty_3 rfl (cell_chg (hcD j hjl) c22 (by simp)) (hw rfl rfl)) ?_
      refine FD.on rfl rfl ?_
      refine FD.val (fun _ hw => Rn.fieldAddr Tf.fo_25_2 rfl) ?_
      refine FD.on rfl rfl ?_
      refine FD.val (fun _ hw => Rn.load1 Tf.ty_23 rfl ((b121.chg c22 (by simp)).cell 2) (hw rfl rfl)) ?_
      refine FD.on rfl rfl ?_
      refine FD.val (fun _ hw => Rn.move (v := .int _ _) rfl) ?_
      refine FD.on rfl rfl ?_
      refine FD.val (fun _ hw => Rn.indexAddr Tf.sl_23 rfl rfl (by omega) (by omega)) ?_
      refine FD.on rfl rfl ?_
      refine FD.val (fun _ hw => Rn.fieldAddr Tf.fo_81_1 rfl) ?_
      refine FD.on rfl rfl ?_
      refine FD.val (fun _ hw => Rn.fieldAddr Tf.fo_44_1 rfl) ?_
      refine FD.on rfl rfl ?_
      refine FD.val (fun _ hw => Rn.load1 Tf.ty_3 rfl ((Cells.chg c22 (by simp) hfl21).2.2.1) (hw rfl rfl)) ?_
      refine FD.on rfl rfl ?_
      refine FD.val (fun _ hw => Rn.gtrD (c := false) rfl rfl (decide_eq_false (by omega))) ?_
      refine FD.val (fun _ hw => Rn.pickF rfl rfl) ?_
      refine FD.val (fun _ hw => Rn.move (v := .bool _) rfl) ?_
      refine FD.on rfl rfl ?_
      refine FD.val (fun _ hw => Rn.fieldAddr Tf.fo_25_1 rfl) ?_
      refine FD.on rfl rfl ?_
      refine FD.val (fun _ hw => Rn.load1 Tf.ty_22 rfl ((b121.chg c22 (by simp)).cell 1) (hw rfl rfl)) ?_
      refine FD.on rfl rfl ?_
      refine FD.val (fun _ hw => Rn.move (v := .slice _ _ _) rfl) ?_
      refine FD.on rfl rfl ?_
      refine FD.val (fun _ hw => Rn.move (v := .int _ _) rfl) ?_
      refine FD.on rfl rfl ?_
      refine FD.val (fun _ hw => Rn.indexAddr1 Tf.sl_22 rfl rfl (by omega) (by omega)) ?_
      refine FD.on rfl rfl ?_
      refine FD.val (fun _ hw => Rn.load1 Tf.ty_3 rfl (cell_chg (hcD j hjl) c22 (by simp)) (hw rfl rfl)) ?_
      refine FD.on rfl rfl ?_
      refine FD.eff (by rfl) (Chg.refl _ _) ?_
      refine Flow.call2 Tf.hb_42 (v1 := .slice _ _ _) rfl (v2 := .int _ _) rfl ?_
      refine Ret.mono (has_ok _ _ _ t.closed _ (hC.ext (c121.then c22)) (by omega)) ?_
      rintro _ w23 ⟨rfl, c23⟩
      refine Flow.nil ⟨c23, ?_⟩
      refine FD.val (fun _ hw => Rn.pickF rfl rfl) ?_
      refine FD.nil ?_
      refine hK _ _ _ ?_
      clear hK K
      rw [decide_eq_false i3]
      refine W.cond (t := false) rfl (fun h => by simp at h) (fun _ => W.skip (hK23 _ _ _ ?_))
      refine W.region (by rfl) ?_
      refine Flow.move (v := .int _ _) rfl ?_
      refine Flow.add rfl rfl (by omega) (by omega) ?_
      refine Flow.assign (v := .int _ _) rfl ?_
      exact Flow.nil ⟨j + 1, by omega, rfl, by omega, ⟨rfl, rfl, rfl, rfl, rfl, rfl, rfl, rfl, trivial⟩, c21.then (c22.then c23)⟩
    · refine hK14 _ _ _ ?_
      refine W.region (by rfl) ?_
      refine Flow.move (v := .int _ _) rfl ?_
      refine Flow.add rfl rfl (by omega) (by omega) ?_
      refine Flow.assign (v := .int _ _) rfl ?_
      exact Flow.nil ⟨k + 1, by omega, rfl, by omega, ⟨rfl, rfl, rfl, rfl, rfl, rfl, trivial⟩, c11.then (c1120.then c21)⟩
  by_cases hcb : checkBestR t on mer full = 0
  · have hp : Proved t on mer full := by
      rw [checkBestR, if_pos hck] at hcb
      apply Classical.byContradiction
      intro hno
      rw [if_neg hno] at hcb
      exact absurd hcb (by decide)
    obtain ⟨p1, p2⟩ := proved_opt hv hp
    have hom := opt_mends hv p1 p2
    refine W.seq fun K hK => ?_
    refine W.region (by rfl) ?_
    refine Flow.fieldAddr Tf.fo_51_0 rfl ?_
    refine Flow.load1 Tf.ty_22 rfl (b9.cell 0) ?_
    refine Flow.len rfl Tf.us_22 rfl rfl ?_
    refine Flow.fieldAddr Tf.fo_25_2 rfl ?_
    refine Flow.load1 Tf.ty_23 rfl (b19.cell 2) ?_
    refine Flow.len rfl Tf.us_23 rfl rfl ?_
    refine Flow.neqD (c := false) rfl rfl (decide_eq_false (by omega)) ?_
    refine Flow.move (v := .bool _) rfl ?_
    refine Flow.on rfl rfl ?_
    refine Flow.loadA Tf.ty_25 rfl rfl (b19.cells0) ?_
    refine Flow.on rfl rfl ?_
    refine Flow.fieldAddr Tf.fo_51_0 rfl ?_
    refine Flow.on rfl rfl ?_
    refine Flow.load1 Tf.ty_22 rfl (b9.cell 0) ?_
    refine Flow.on rfl rfl ?_
    refine Flow.move (v := .slice _ _ _) rfl ?_
    refine Flow.on rfl rfl ?_
    refine Flow.move (v := .slice _ _ _) rfl ?_
    refine Flow.on rfl rfl ?_
    refine Flow.call4 Tf.hb_49 (v1 := .agg _) rfl (v2 := .slice _ _ _) rfl (v3 := .slice _ _ _) rfl (v4 := .slice _ _ _) rfl ?_
    refine Ret.mono (mends_ok _ t ac af cc cf xo ko (bestOn t) aa ka (surelyA t) ay ky (surelyB t) (hF.ext c19) hfl hX9 hA9 hY9 hbl (by omega) (by omega) hbm) ?_
    rintro _ w10 ⟨rfl, c10⟩
    refine Flow.on rfl rfl ?_
    refine Flow.not rfl ?_
    refine Flow.pickF rfl rfl ?_
    refine Flow.move (v := .bool _) rfl ?_
    refine Flow.on rfl rfl ?_
    refine Flow.loadA Tf.ty_25 rfl rfl ((b19.chg c10 (by simp)).cells0) ?_
    refine Flow.on rfl rfl ?_
    refine Flow.loadA Tf.ty_51 rfl rfl ((b29.chg c10 (by simp)).cells0) ?_
    refine Flow.on rfl rfl ?_
    refine Flow.call2 Tf.hb_48 (v1 := .agg _) rfl (v2 := .agg _) rfl ?_
    refine Ret.mono (CheckBest_ok _ t ac af cc cf ao co on mer ar cr full (hC.ext (c19.then c10)) (hF.ext (c19.then c10)) hcl hfl (hO.ext (c19.then c10)) (hR.ext (c19.then c10))) ?_
    rintro _ w11 ⟨rfl, c11⟩
    refine Flow.on rfl rfl ?_
    refine Flow.eqlD (c := true) rfl rfl (decide_eq_true (by omega)) ?_
    refine Flow.on rfl rfl ?_
    refine Flow.move (v := .bool _) rfl ?_
    refine Flow.on rfl rfl ?_
    refine Flow.loadA Tf.ty_25 rfl rfl ((b19.chg (c10.then c11) (by simp)).cells0) ?_
    refine Flow.on rfl rfl ?_
    refine Flow.fieldAddr Tf.fo_51_0 rfl ?_
    refine Flow.on rfl rfl ?_
    refine Flow.load1 Tf.ty_22 rfl ((b29.chg (c10.then c11) (by simp)).cell 0) ?_
    refine Flow.on rfl rfl ?_
    refine Flow.move (v := .slice _ _ _) rfl ?_
    refine Flow.on rfl rfl ?_
    refine Flow.move (v := .slice _ _ _) rfl ?_
    refine Flow.on rfl rfl ?_
    refine Flow.call4 Tf.hb_49 (v1 := .agg _) rfl (v2 := .slice _ _ _) rfl (v3 := .slice _ _ _) rfl (v4 := .slice _ _ _) rfl ?_
    refine Ret.mono (mends_ok _ t ac af cc cf ao co on aa ka (surelyA t) ay ky (surelyB t) (hF.ext (c19.then (c10.then c11))) hfl (hO.ext (c19.then (c10.then c11))) (hA9.ext (c10.then c11)) (hY9.ext (c10.then c11)) hp.len (by omega) (by omega) hom) ?_
    rintro _ w12 ⟨rfl, c12'⟩
    refine Flow.on rfl rfl ?_
    refine Flow.not rfl ?_
    refine Flow.on rfl rfl ?_
    refine Flow.pickT rfl rfl ?_
    refine Flow.pickF rfl rfl ?_
    refine hK _ _ _ ?_
    clear hK K
    refine W.cond (t := false) rfl (fun h => by simp at h) (fun _ => W.skip (hgo _ _ ⟨rfl, rfl, rfl, rfl, rfl, trivial⟩ ((c10.then c11).then c12')))
  · refine W.seq fun K hK => ?_
    refine W.region (by rfl) ?_
    refine Flow.fieldAddr Tf.fo_51_0 rfl ?_
    refine Flow.load1 Tf.ty_22 rfl (b9.cell 0) ?_
    refine Flow.len rfl Tf.us_22 rfl rfl ?_
    refine Flow.fieldAddr Tf.fo_25_2 rfl ?_
    refine Flow.load1 Tf.ty_23 rfl (b19.cell 2) ?_
    refine Flow.len rfl Tf.us_23 rfl rfl ?_
    refine Flow.neqD (c := false) rfl rfl (decide_eq_false (by omega)) ?_
    refine Flow.move (v := .bool _) rfl ?_
    refine Flow.on rfl rfl ?_
    refine Flow.loadA Tf.ty_25 rfl rfl (b19.cells0) ?_
    refine Flow.on rfl rfl ?_
    refine Flow.fieldAddr Tf.fo_51_0 rfl ?_
    refine Flow.on rfl rfl ?_
    refine Flow.load1 Tf.ty_22 rfl (b9.cell 0) ?_
    refine Flow.on rfl rfl ?_
    refine Flow.move (v := .slice _ _ _) rfl ?_
    refine Flow.on rfl rfl ?_
    refine Flow.move (v := .slice _ _ _) rfl ?_
    refine Flow.on rfl rfl ?_
    refine Flow.call4 Tf.hb_49 (v1 := .agg _) rfl (v2 := .slice _ _ _) rfl (v3 := .slice _ _ _) rfl (v4 := .slice _ _ _) rfl ?_
    refine Ret.mono (mends_ok _ t ac af cc cf xo ko (bestOn t) aa ka (surelyA t) ay ky (surelyB t) (hF.ext c19) hfl hX9 hA9 hY9 hbl (by omega) (by omega) hbm) ?_
    rintro _ w10 ⟨rfl, c10⟩
    refine Flow.on rfl rfl ?_
    refine Flow.not rfl ?_
    refine Flow.pickF rfl rfl ?_
    refine Flow.move (v := .bool _) rfl ?_
    refine Flow.on rfl rfl ?_
    refine Flow.loadA Tf.ty_25 rfl rfl ((b19.chg c10 (by simp)).cells0) ?_
    refine Flow.on rfl rfl ?_
    refine Flow.loadA Tf.ty_51 rfl rfl ((b29.chg c10 (by simp)).cells0) ?_
    refine Flow.on rfl rfl ?_
    refine Flow.call2 Tf.hb_48 (v1 := .agg _) rfl (v2 := .agg _) rfl ?_
    refine Ret.mono (CheckBest_ok _ t ac af cc cf ao co on mer ar cr full (hC.ext (c19.then c10)) (hF.ext (c19.then c10)) hcl hfl (hO.ext (c19.then c10)) (hR.ext (c19.then c10))) ?_
    rintro _ w11 ⟨rfl, c11⟩
    refine Flow.on rfl rfl ?_
    refine Flow.eqlD (c := false) rfl rfl (decide_eq_false (by omega)) ?_
    refine Flow.on rfl rfl ?_
    refine Flow.move (v := .bool _) rfl ?_
    refine Flow.off (c := false) rfl rfl rfl ?_
    refine Flow.off (c := false) rfl rfl rfl ?_
    refine Flow.off (c := false) rfl rfl rfl ?_
    refine Flow.off (c := false) rfl rfl rfl ?_
    refine Flow.off (c := false) rfl rfl rfl ?_
    refine Flow.off (c := false) rfl rfl rfl ?_
    refine Flow.off (c := false) rfl rfl rfl ?_
    refine Flow.on rfl rfl ?_
    refine Flow.pickF rfl rfl ?_
    refine Flow.pickF rfl rfl ?_
    refine hK _ _ _ ?_
    clear hK K
    refine W.cond (t := false) rfl (fun h => by simp at h) (fun _ => W.skip (hgo _ _ ⟨rfl, rfl, rfl, rfl, rfl, trivial⟩ (c10.then c11)))

end Go.Proofs.YtkoejelglinmnaaGreat

namespace Go.Proofs.YtkoejelglinmnaaGreat.mendSurelyClaim
open Sg Go.ChangeShapes Go.WideShapes Go.ChangeAt Go.RowKit Go.Joins Go.Deep
set_option linter.unusedVariables false

set_option maxRecDepth 100000 in
theorem lifted (os : Os) (started : os.Started) (H : Type) (enc : TypeId × Value → H) :
    ReturnsInHanded {} Tryz.checked os 8 .any (Rows.mendSurelySpec.pre6 enc Tryz.prog Tryz.f8 Rows.mendSurelyRow.domain false) (Rows.mendSurelySpec.post enc Tryz.prog Tryz.f8 false true false false) := by
  refine returnsInHanded_of_change (C := Tryz.checked) own started (by kernel_rfl) Tryz.func8
    (ChangeSpec.witness6 (enc := enc) (C := Tryz.checked) false ⟨#[], #[.agg #[.int .i64 0, .slice none 0 0, .slice none 0 0], .agg #[.slice none 0 0, .int .i64 0, .slice none 0 0]], []⟩ 8 (by kernel_rfl) (by kernel_rfl) (by kernel_rfl) (by kernel_rfl)) ?_
  intro W base args ds gs before hval0 hW hcnd _
  have hval : ∀ (j : Nat) t v, Tryz.f8.params[j]? = some t → args[j]? = some v → Value.okWide Tryz.prog W .any base t v := hval0
  have hW' := hW
  obtain ⟨p, q, hA0, hV, rfl, hfz, hnd⟩ := hW
  have hA : DataW.TrodAll enc Tryz.prog W 0 (fun _ => true) true Tryz.f8.params.toList args.toList ds p := hA0
  rw [Tryz.params8] at hA hval
  obtain ⟨v0, vs0, d0, ds0, p0, q0, hargs, rfl, rfl, h0, r0⟩ := trodAll_cons hA
  obtain ⟨v1, vs1, d1, ds1, p1, q1, rfl, rfl, rfl, h1, r1⟩ := trodAll_cons r0
  obtain ⟨rfl, rfl, rfl⟩ := trodAll_nil r1
  obtain rfl : args = #[v0, v1] := by cases args; simp_all
  obtain ⟨rfl, rfl⟩ := trodVars_none hV
  have k0 := h0
  have lt0 : ∀ x ∈ p0, x.block < W.heap.size := by obtain ⟨m, hm⟩ := k0; exact DataW.trod_lt m _ _ _ hm
  have k1 := h1
  have lt1 : ∀ x ∈ p1, x.block < W.heap.size := by obtain ⟨m, hm⟩ := k1; exact DataW.trod_lt m _ _ _ hm
  obtain ⟨t0, ac0, af0, cc0, cf0, rfl, hC0, hF0⟩ := read_tour (hval 0 _ v0 rfl rfl) h0
  obtain ⟨on1, mer1, full1, ao1, ar1, co1, cr1, rfl, hO1, hR1⟩ := read_mending (hval 1 _ v1 rfl rfl) h1
  clear hA0 hval0
  refine Calls.mono (mendSurely_ok W t0 ac0 af0 cc0 cf0 ao1 co1 on1 mer1 ar1 cr1 full1 hC0 hF0 hO1 hR1) ?_
  rintro e W' ⟨v, rfl, rfl, hc⟩
  have bel := chg_below hc
  exact ⟨_, rfl, _, _, _, [], _, [], hW', trodAll_mk1 (shut_bool u_bool _), (trodAll_cons_mk (Below.trod laidOut (by kernel_rfl) (of_decide_eq_true (by kernel_rfl)) k0 bel lt0) (trodAll_cons_mk (Below.trod laidOut (by kernel_rfl) (of_decide_eq_true (by kernel_rfl)) k1 bel lt1) trodAll_mk0)), rfl, bel.frame _, fun h => by cases h⟩

theorem over : Rows.mendSurelyRow.holds Tryz.pinned (OpenSpec.ofChange Rows.mendSurelySpec) :=
  OpenClaim.holds_of_wide 8 Tryz.f8 rfl rfl rfl rfl rfl rfl rfl ⟨rfl, rfl, rfl, rfl, rfl⟩ rfl rfl rfl rfl rfl (by kernel_rfl) Tryz.func8 (by kernel_rfl)
    (of_decide_eq_true (by kernel_rfl)) (by unfold Func.isWrapper; first | (rw [if_pos (by decide +kernel)]; kernel_rfl) | (rw [if_neg (by decide +kernel)]; exact ⟨rfl, rfl⟩))
    (fun os started H enc _ => lifted os started H enc)

theorem proved : Rows.MendSurelySaid := over
#print axioms proved

end Go.Proofs.YtkoejelglinmnaaGreat.mendSurelyClaim
