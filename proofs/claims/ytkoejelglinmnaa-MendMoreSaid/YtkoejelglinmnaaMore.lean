/-
  pecialaw06.MendMore answers true, and its arguments read as before: for every tour with Closed and Flaws of whatever length, every day and all three choices.
-/
import Derived.Test.YtkoejelglinmnaaK6
import Derived.Test.YtkoejelglinmnaaK5
/-
  The walk of the law MendMore: what a day more gains, what a day less loses, and wider days.
-/
namespace Go.Proofs.Ytkoejelglinmnaa
open Sg Mm
set_option maxRecDepth 100000

theorem mostS_le {l : List Flaw} {m : Int} (h : ∀ f ∈ l, f.merit ≤ m) (h0 : 0 ≤ m) : mostS l ≤ m := by
  have key : ∀ (l : List Flaw) (x : Int), (∀ f ∈ l, f.merit ≤ m) → x ≤ m → l.foldl (fun m f => if f.merit > m then f.merit else m) x ≤ m := by
    intro l
    induction l with
    | nil => intro x _ hx; exact hx
    | cons g l ih =>
      intro x hl hx
      rw [List.foldl_cons]
      refine ih _ (fun f hf => hl f (List.mem_cons_of_mem _ hf)) ?_
      have := hl g (by simp)
      split <;> omega
  exact key l 0 h h0

theorem mostS_snoc {l : List Flaw} {k : Nat} (h : k < l.length) : mostS (l.take (k + 1)) = if l[k].merit > mostS (l.take k) then l[k].merit else mostS (l.take k) := by
  unfold mostS
  rw [List.take_add_one, List.getElem?_eq_getElem h, List.foldl_append]
  rfl

theorem Close0_ok (w : World) (t : Tour) (ac af : Option Addr) (cc cf : Nat) (day : Int) (hC : IL w ac t.closed) (hF : FL w af t.flaws) (hcl : t.closed.length ≤ 1000) (hfl : t.flaws.length ≤ 1000) (h0 : dayE t day = 0) :
    Ret Try.prog 16 #[.agg #[.int .i64 t.days, .slice ac t.closed.length cc, .slice af t.flaws.length cf], .int .i64 day] w fun v w' => Chg [] w w' ∧ ∃ a1 c1 a2 c2, v = .tuple #[.agg #[.int .i64 t.days, .slice a1 (closedS t day).closed.length c1, .slice a2 t.flaws.length c2], .int .i64 0] ∧ IL w' a1 (closedS t day).closed ∧ FL w' a2 t.flaws := by
  refine Ret.mono (Close_ok w t ac af cc cf day hC hF hcl hfl) ?_
  rintro v w' ⟨hc, _, rfl, a1, c1, a2, c2, rfl, h1, h2⟩
  have e : closeR t day = closedS t day := by rw [closeR, if_pos h0]
  rw [e] at h1 h2 ⊢
  rw [h0]
  exact ⟨hc, a1, c1, a2, c2, rfl, h1, h2⟩

set_option maxHeartbeats 2000000 in
theorem mendMore_ok (w : World) (t : Tour) (ac af : Option Addr) (cc cf : Nat) (day at' back on : Int) (h1 : 0 ≤ at' ∧ at' ≤ 255) (h2 : 0 ≤ back ∧ back ≤ 255) (h3 : 0 ≤ on ∧ on ≤ 255) (hC : IL w ac t.closed) (hF : FL w af t.flaws) :
    Ret Try.prog 4 #[.agg #[.int .i64 t.days, .slice ac t.closed.length cc, .slice af t.flaws.length cf], .int .i64 day, .int .u8 at', .int .u8 back, .int .u8 on] w fun v w' => v = .bool true ∧ Chg [] w w' := by
  refine Ret.of_W (n := 165) Try.func4 rfl rfl (Nat.le_of_ble_eq_true rfl) ?_
  refine W.seq fun K hK => ?_
  refine W.region (by rfl) ?_
  refine Flow.box rfl (cs := [_, _, _]) rfl fun w1 c1 s1 b1 => ?_
  refine Flow.assignC ?_
  refine hK _ _ _ ?_
  clear hK K
  refine W.seq fun K hK => ?_
  refine W.region (by rfl) ?_
  refine Flow.call0 Tf.hb_8  ?_
  refine Ret.mono (head_ok _) ?_
  rintro _ w2 ⟨rfl, c2⟩
  refine Flow.assign (v := .bool _) rfl ?_
  refine hK _ _ _ ?_
  clear hK K
  have c12 := c1.then c2
  refine W.seq fun K2 hK2 => ?_
  refine W.seq fun K hK => ?_
  refine W.region (by rfl) ?_
  refine Flow.loadA Tf.ty_25 rfl rfl ((b1.chg c2 (by simp)).cells0) ?_
  refine Flow.call1 Tf.hb_9 (v1 := .agg _) rfl ?_
  refine Ret.mono (few_ok _ t ac af cc cf) ?_
  rintro _ w3 ⟨rfl, c3⟩
  have c13 := c12.then c3
  have b13 := b1.chg (c2.then c3) (by simp)
  cases hfew : fewB t with
  | false =>
    refine Flow.not rfl ?_
    refine hK _ _ _ ?_
    clear hK K
    refine W.cond (t := true) rfl (fun _ => ?_) (fun h => by simp at h)
    refine W.seq fun K hK => ?_
    refine W.region (by rfl) ?_
    refine Flow.move (v := .bool _) rfl ?_
    refine Flow.assign (v := .bool _) rfl ?_
    refine hK _ _ _ ?_
    clear hK K
    exact W.ret ⟨_, res1 rfl (v := .bool _) rfl, rfl, c13⟩
  | true =>
  obtain ⟨hcl, hfl, hx8⟩ := few_facts hfew
  have hx : chk t = 0 → t.flaws.length < 20 := fun h => by have := hx8 h; omega
  refine Flow.not rfl ?_
  refine hK _ _ _ ?_
  clear hK K
  refine W.cond (t := false) rfl (fun h => by simp at h) (fun _ => W.skip (hK2 _ _ _ ?_))
  refine W.seq fun K hK => ?_
  refine W.region (by rfl) ?_
  refine Flow.loadA Tf.ty_25 rfl rfl (b13.cells0) ?_
  refine Flow.move (v := .int _ _) rfl ?_
  refine Flow.call2 Tf.hb_14 (v1 := .agg _) rfl (v2 := .int _ _) rfl ?_
  refine Ret.mono (Gain_ok _ t ac af cc cf day (hC.ext c13) (hF.ext c13) hcl hfl hx) ?_
  rintro _ w4 ⟨rfl, c4⟩
  refine Flow.move (v := .tuple _) rfl ?_
  refine Flow.extract (v := .int _ _) rfl rfl ?_
  refine Flow.extract (v := .int _ _) rfl rfl ?_
  refine Flow.assign (v := .int _ _) rfl ?_
  refine Flow.assign (v := .int _ _) rfl ?_
  refine hK _ _ _ ?_
  clear hK K
  have c14 := c13.then c4
  have b14 := b13.chg c4 (by simp)
  refine W.seq fun K hK => ?_
  refine W.region (by rfl) ?_
  refine Flow.loadA Tf.ty_25 rfl rfl (b14.cells0) ?_
  refine Flow.move (v := .int _ _) rfl ?_
  refine Flow.call2 Tf.hb_15 (v1 := .agg _) rfl (v2 := .int _ _) rfl ?_
  refine Ret.mono (Lost_ok _ t ac af cc cf day (hC.ext c14) (hF.ext c14) hcl hfl hx) ?_
  rintro _ w5 ⟨rfl, c5⟩
  refine Flow.move (v := .tuple _) rfl ?_
  refine Flow.extract (v := .int _ _) rfl rfl ?_
  refine Flow.extract (v := .int _ _) rfl rfl ?_
  refine Flow.assign (v := .int _ _) rfl ?_
  refine Flow.assign (v := .int _ _) rfl ?_
  refine hK _ _ _ ?_
  clear hK K
  have c15 := c14.then c5
  have b15 := b14.chg c5 (by simp)
  refine W.seq fun K6 hK6 => ?_
  refine W.seq fun K hK => ?_
  refine W.region (by rfl) ?_
  refine Flow.move (v := .int _ _) rfl ?_
  refine Flow.move (v := .int _ _) rfl ?_
  refine Flow.neq rfl rfl ?_
  refine hK _ _ _ ?_
  clear hK K
  refine W.cond rfl (fun h => by simp at h) (fun _ => W.skip (hK6 _ _ _ ?_))
  refine W.seq fun K8 hK8 => ?_
  refine W.seq fun K hK => ?_
  refine W.region (by rfl) ?_
  refine Flow.move (v := .int _ _) rfl ?_
  refine Flow.neq rfl rfl ?_
  refine hK _ _ _ ?_
  clear hK K
  refine W.cond rfl (fun h => ?_) (fun h => W.skip (hK8 _ _ _ ?_))
  · refine W.seq fun K hK => ?_
    refine W.region (by rfl) ?_
    refine Flow.move (v := .bool _) rfl ?_
    refine Flow.assign (v := .bool _) rfl ?_
    refine hK _ _ _ ?_
    clear hK K
    exact W.ret ⟨_, res1 rfl (v := .bool _) rfl, rfl, c15⟩
  have he0 : dayE t day = 0 := by simpa using h
  obtain ⟨hck, hd⟩ := dayE_ok he0
  have hv := chk_valid hck
  have hs := hv.small
  have hv2 := hv.close hd
  obtain ⟨⟨ga, gb⟩, ⟨la, lb⟩, hone, hce, hsum⟩ := more_days hv hd
  have hm1000 : mostS t.flaws ≤ 1000 := mostS_le (fun f hf => (hv.fm f hf).2) (by omega)
  refine W.forget [(1, .int .i64 day), (2, .int .u8 at'), (3, .int .u8 back), (4, .int .u8 on), (5, .pointer (some ⟨w.heap.size, 0, none⟩)), (11, .bool true), (12, .int .i64 (gainR t day)), (14, .int .i64 (lostR t day))] ⟨rfl, rfl, rfl, rfl, rfl, rfl, rfl, rfl, trivial⟩ fun e => ?_
  refine W.seq fun K hK => ?_
  refine W.region (by rfl) ?_
  refine Flow.assignC ?_
  refine hK _ _ _ ?_
  clear hK K
  refine W.seq fun K11 hK11 => ?_
  refine W.seq fun K hK => ?_
  refine W.region (by rfl) ?_
  refine Flow.assignC ?_
  refine hK _ _ _ ?_
  clear hK K
  refine W.block ?_
  refine W.loop (ι := Nat) (fun k ds e w' => ds = [] ∧ k ≤ t.flaws.length ∧ w' = w5 ∧ AllAt e [(1, .int .i64 day), (2, .int .u8 at'), (3, .int .u8 back), (4, .int .u8 on), (5, .pointer (some ⟨w.heap.size, 0, none⟩)), (11, .bool true), (12, .int .i64 (gainR t day)), (14, .int .i64 (lostR t day)), (16, .int .i64 (mostS (t.flaws.take k))), (17, .int .i64 k)]) (fun k => t.flaws.length - k) (i0 := 0) ⟨rfl, by omega, rfl, rfl, rfl, rfl, rfl, rfl, rfl, rfl, rfl, rfl, rfl, trivial⟩ ?_
  rintro k ds e w5 ⟨rfl, hk, rfl, hE⟩
  obtain ⟨e, rfl⟩ : ∃ e0, e = putL e0 _ := ⟨e, putL_self hE⟩
  clear hE
  refine W.seq fun K12 hK12 => ?_
  refine W.seq fun K hK => ?_
  refine W.region (by rfl) ?_
  refine Flow.move (v := .int _ _) rfl ?_
  refine Flow.fieldAddr Tf.fo_25_2 rfl ?_
  refine Flow.load1 Tf.ty_23 rfl (b15.cell 2) ?_
  refine Flow.len rfl Tf.us_23 rfl rfl ?_
  refine Flow.lss rfl rfl ?_
  refine hK _ _ _ ?_
  clear hK K
  refine W.cond rfl (fun h => W.skip (hK12 _ _ _ ?_)) (fun h => W.exit ?_)
  · have hlt : k < t.flaws.length := by simpa using h
    obtain ⟨bf, of_, rfl, hcellF⟩ := (hF.ext c15).get hlt
    refine W.seq fun K14 hK14 => ?_
    refine W.block ?_
    refine W.region (by rfl) ?_
    refine Flow.move (v := .int _ _) rfl ?_
    refine Flow.fieldAddr Tf.fo_25_2 rfl ?_
    refine Flow.load1 Tf.ty_23 rfl (b15.cell 2) ?_
    refine Flow.move (v := .int _ _) rfl ?_
    refine Flow.indexAddr Tf.sl_23 rfl rfl (by omega) (by omega) ?_
    refine Flow.fieldAddr Tf.fo_48_2 rfl ?_
    refine Flow.load1 Tf.ty_3 rfl ((hcellF k hlt).2.2.2.1) ?_
    refine Flow.max2 rfl rfl ?_
    refine Flow.assign (v := .int _ _) rfl ?_
    refine Flow.nil (hK14 _ _ _ ?_)
    refine W.region (by rfl) ?_
    refine Flow.move (v := .int _ _) rfl ?_
    refine Flow.add rfl rfl (by omega) (by omega) ?_
    refine Flow.assign (v := .int _ _) rfl ?_
    exact Flow.nil ⟨k + 1, by omega, rfl, by omega, rfl, rfl, rfl, rfl, rfl, rfl, rfl, rfl, rfl, by rw [mostS_snoc hlt]; rfl, rfl, trivial⟩
  have hge : k = t.flaws.length := by simp at h; omega
  subst hge
  rw [List.take_length]
  refine hK11 _ _ _ ?_
  clear hK2 K2 hK6 K6 hK8 K8 hK11 K11 hK12 K12
  refine W.seq fun K hK => ?_
  refine W.region (by rfl) ?_
  refine Flow.loadA Tf.ty_25 rfl rfl (b15.cells0) ?_
  refine Flow.move (v := .int _ _) rfl ?_
  refine Flow.call2 Tf.hb_16 (v1 := .agg _) rfl (v2 := .int _ _) rfl ?_
  refine Ret.mono (Close0_ok _ t ac af cc cf day (hC.ext c15) (hF.ext c15) hcl hfl he0) ?_
  rintro _ w6 ⟨c6, a6, k6, a7, k7, rfl, hC6, hF6⟩
  refine Flow.move (v := .tuple _) rfl ?_
  refine Flow.extract (v := .agg _) rfl rfl ?_
  refine Flow.extract (v := .int _ _) rfl rfl ?_
  refine Flow.alloc Tf.ty_25 (cs := [_, _, _]) rfl fun w7 c7 s7 b7 => ?_
  refine Flow.store Tf.ty_25 rfl rfl (b7) (vs := [_, _, _]) rfl rfl (by simp) rfl fun w8 c8 s8 b8 => ?_
  refine Flow.assign (v := .int _ _) rfl ?_
  refine hK _ _ _ ?_
  clear hK K
  have hs6 := c6.size
  have c58 : Chg [] w5 w8 := (c6.then c7).step c8 (by simp; omega)
  have c68 : Chg [] w6 w8 := c7.step c8 (by simp)
  refine W.seq fun K hK => ?_
  refine W.region (by rfl) ?_
  refine Flow.loadA Tf.ty_25 rfl rfl (b8.cells0) ?_
  refine Flow.move (v := .int _ _) rfl ?_
  refine Flow.call2 Tf.hb_14 (v1 := .agg _) rfl (v2 := .int _ _) rfl ?_
  refine Ret.mono (Gain_ok _ (closedS t day) a6 a7 k6 k7 day (hC6.ext c68) (hF6.ext c68) hv2.small.cl hfl (fun _ => hx hck)) ?_
  rintro _ w9 ⟨rfl, c9⟩
  refine Flow.move (v := .tuple _) rfl ?_
  refine Flow.extract (v := .int _ _) rfl rfl ?_
  refine Flow.extract (v := .int _ _) rfl rfl ?_
  refine Flow.assign (v := .int _ _) rfl ?_
  refine Flow.assign (v := .int _ _) rfl ?_
  refine hK _ _ _ ?_
  clear hK K
  rw [hce, hsum]
  have c59 := c58.then c9
  have c19 := c15.then c59
  have b19 := b15.chg c59 (by simp)
  obtain ⟨a, ha⟩ : ∃ a, a = gainR t day := ⟨_, rfl⟩
  obtain ⟨b, hb⟩ : ∃ b, b = lostR t day := ⟨_, rfl⟩
  obtain ⟨m, hm⟩ : ∃ m, m = mostS t.flaws := ⟨_, rfl⟩
  rw [← ha, ← hb, ← hm]
  rw [← ha] at ga gb hone
  rw [← hb] at la lb hone
  rw [← hm] at gb lb hm1000
  clear ha hb hm hsum
  refine W.forget [(2, .int .u8 at'), (3, .int .u8 back), (4, .int .u8 on), (5, .pointer (some ⟨w.heap.size, 0, none⟩)), (11, .bool true), (12, .int .i64 a), (14, .int .i64 b), (16, .int .i64 m), (19, .int .i64 0), (20, .int .i64 (a + b)), (21, .int .i64 0)] ⟨rfl, rfl, rfl, rfl, rfl, rfl, rfl, rfl, rfl, rfl, rfl, trivial⟩ fun e => ?_
  refine W.seq fun K17 hK17 => ?_
  have hgo : ∀ e, AllAt e [(2, .int .u8 at'), (3, .int .u8 back), (4, .int .u8 on), (5, .pointer (some ⟨w.heap.size, 0, none⟩)), (11, .bool true)] → K17 [] e w9 := by
    intro e hE
    refine hK17 _ _ _ ?_
    obtain ⟨e, rfl⟩ : ∃ e0, e = putL e0 _ := ⟨e, putL_self hE⟩
    clear hE
    refine W.seq fun K19 hK19 => ?_
    refine W.seq fun K hK => ?_
    refine W.region (by rfl) ?_
    refine Flow.fieldAddr Tf.fo_25_2 rfl ?_
    refine Flow.load1 Tf.ty_23 rfl (b19.cell 2) ?_
    refine Flow.len rfl Tf.us_23 rfl rfl ?_
    refine Flow.eql rfl rfl ?_
    refine hK _ _ _ ?_
    clear hK K
    refine W.cond rfl (fun h => ?_) (fun h => W.skip (hK19 _ _ _ ?_))
    · refine W.seq fun K hK => ?_
      refine W.region (by rfl) ?_
      refine Flow.move (v := .bool _) rfl ?_
      refine Flow.assign (v := .bool _) rfl ?_
      refine hK _ _ _ ?_
      clear hK K
      exact W.ret ⟨_, res1 rfl (v := .bool _) rfl, rfl, c19⟩
    have hne : t.flaws.length ≠ 0 := by
      intro h0
      rw [h0] at h
      simp at h
    refine W.seq fun K hK => ?_
    refine W.regionD [10, 11] [11] (by kernel_rfl) (by kernel_rfl) fun w10 c10 h10 => ?_
    refine FD.val (fun _ hw => Rn.fieldAddr Tf.fo_25_2 rfl) ?_
    refine FD.val (fun _ hw => Rn.load1 Tf.ty_23 rfl ((b19.chg c10 (by simp)).cell 2) (hw rfl rfl)) ?_
    refine FD.val (fun _ hw => Rn.move (v := .int _ _) rfl) ?_
    refine FD.val (fun _ hw => Rn.convert (k' := .i64) (by kernel_rfl) (by kernel_rfl) rfl (by rw [IntKind.wrap_i64]; omega)) ?_
    refine FD.val (fun _ hw => Rn.fieldAddr Tf.fo_25_2 rfl) ?_
    refine FD.val (fun _ hw => Rn.load1 Tf.ty_23 rfl ((b19.chg c10 (by simp)).cell 2) (hw rfl rfl)) ?_
    refine FD.val (fun _ hw => Rn.len rfl Tf.us_23 rfl rfl) ?_
    refine FD.val (fun _ hw => Rn.rem rfl rfl (by omega)) ?_
    obtain ⟨k, hk, hkl⟩ : ∃ k : Nat, at'.tmod (t.flaws.length : Int) = (k : Int) ∧ k < t.flaws.length := by
      obtain ⟨n, rfl⟩ := Int.eq_ofNat_of_zero_le h1.1
      exact ⟨n % t.flaws.length, rfl, Nat.mod_lt _ (by omega)⟩
    rw [hk]
    obtain ⟨bf, of_, rfl, hcellF⟩ := (hF.ext (c19.then c10)).get hkl
    refine FD.val (fun _ hw => Rn.indexAddr Tf.sl_23 rfl rfl (by omega) (by omega)) ?_
    refine FD.val (fun _ hw => Rn.loadA Tf.ty_48 rfl rfl (hcellF k hkl) (hw rfl rfl)) ?_
    refine FD.eff (by rfl) (Chg.refl _ _) ?_
    refine Flow.alloc Tf.ty_48 (cs := [_, _, _, _]) rfl fun w11 c11 s11 b11 => ?_
    refine Flow.nil ⟨c11, ?_⟩
    refine FD.hardE (by rfl) (by rfl) ?_
    refine Flow.store Tf.ty_48 rfl rfl (b11) (vs := [_, _, _, _]) rfl rfl (by simp) rfl fun w12 c12 s12 b12 => ?_
    refine Flow.nil ?_
    refine FD.nil ?_
    refine hK _ _ _ ?_
    clear hK K
    have hsp := hv.fs _ (List.getElem_mem hkl)
    have hd2 := hv.d2
    have hs10 := (c19.then c10).size
    have hl10 := (b19.chg c10 (by simp)).lt
    have c112 : Chg [] w w12 := ((c19.then c10).then c11).step c12 (by simp; omega)
    have b112 := ((b19.chg c10 (by simp)).chg c11 (by simp)).chg c12 (by simp; omega)
    refine W.seq fun K hK => ?_
    refine W.region (by rfl) ?_
    refine Flow.fieldAddr Tf.fo_48_1 rfl ?_
    refine Flow.fieldAddr Tf.fo_46_0 rfl ?_
    refine Flow.load1 Tf.ty_3 rfl (b12.cell 1) ?_
    refine Flow.move (v := .int _ _) rfl ?_
    refine Flow.convert (s := 0) (z := undef) (k' := .i64) (by kernel_rfl) (by kernel_rfl) rfl (by rw [IntKind.wrap_i64]; omega) ?_
    refine Flow.sub rfl rfl (by omega) (by omega) ?_
    refine Flow.max2 rfl rfl ?_
    obtain ⟨lo, hlo⟩ : ∃ x, x = if t.flaws[k].lo - back > 0 then t.flaws[k].lo - back else 0 := ⟨_, rfl⟩
    obtain ⟨hi, hhi⟩ : ∃ x, x = if t.flaws[k].hi + on < t.days - 1 then t.flaws[k].hi + on else t.days - 1 := ⟨_, rfl⟩
    rw [← hlo]
    refine Flow.fieldAddr Tf.fo_25_0 rfl ?_
    refine Flow.load1 Tf.ty_3 rfl (b112.cell 0) ?_
    refine Flow.sub rfl rfl (by omega) (by omega) ?_
    refine Flow.fieldAddr Tf.fo_48_1 rfl ?_
    refine Flow.fieldAddr Tf.fo_46_1 rfl ?_
    refine Flow.load1 Tf.ty_3 rfl (b12.cell 2) ?_
    refine Flow.move (v := .int _ _) rfl ?_
    refine Flow.convert (s := 0) (z := undef) (k' := .i64) (by kernel_rfl) (by kernel_rfl) rfl (by rw [IntKind.wrap_i64]; omega) ?_
    refine Flow.add rfl rfl (by omega) (by omega) ?_
    refine Flow.min2 rfl rfl ?_
    rw [← hhi]
    refine Flow.buildL Tf.ty_46 Tf.pl_46 (l := [(_, _), (_, _)]) (zs := [_, _]) (cs := [_, _]) rfl rfl rfl ?_
    refine Flow.alloc Tf.ty_46 (cs := [_, _]) rfl fun w13 c13 s13 b13 => ?_
    refine Flow.store Tf.ty_46 rfl rfl (b13) (vs := [_, _]) rfl rfl (by simp) rfl fun w14 c14 s14 b14 => ?_
    refine hK _ _ _ ?_
    clear hK K
    have hs14 := c112.size
    have hl12 := b112.lt
    have hl13 := b12.lt
    have c114 : Chg [] w w14 := (c112.then c13).step c14 (by simp; omega)
    have b114 := (b112.chg c13 (by simp)).chg c14 (by simp; omega)
    have b124 := (b12.chg c13 (by simp)).chg c14 (by simp; omega)
    obtain ⟨we, wr⟩ := more_wide hv hkl (lo := lo) (hi := hi) (by rw [hlo]; split <;> omega) (by rw [hhi]; split <;> omega) ⟨by rw [hlo]; split <;> omega, by rw [hhi]; split <;> omega⟩
    refine W.seq fun K hK => ?_
    refine W.region (by rfl) ?_
    refine Flow.loadA Tf.ty_25 rfl rfl (b114.cells0) ?_
    refine Flow.fieldAddr Tf.fo_48_0 rfl ?_
    refine Flow.load1 Tf.ty_3 rfl (b124.cell 0) ?_
    refine Flow.loadA Tf.ty_46 rfl rfl (b14.cells0) ?_
    refine Flow.call3 Tf.hb_17 (v1 := .agg _) rfl (v2 := .int _ _) rfl (v3 := .agg _) rfl ?_
    refine Ret.mono (Wider_ok _ t ac _ cc cf t.flaws[k].id lo hi (hC.ext c114) (hF.ext c114) hcl hfl hx) ?_
    rintro _ w15 ⟨rfl, c15'⟩
    refine Flow.move (v := .tuple _) rfl ?_
    refine Flow.extract (v := .int _ _) rfl rfl ?_
    refine Flow.extract (v := .int _ _) rfl rfl ?_
    refine Flow.assign (v := .int _ _) rfl ?_
    refine Flow.assign (v := .int _ _) rfl ?_
    refine hK _ _ _ ?_
    clear hK K
    rw [we]
    refine W.seq fun K hK => ?_
    refine W.region (by rfl) ?_
    refine Flow.move (v := .bool _) rfl ?_
    refine Flow.move (v := .bool _) rfl ?_
    refine Flow.on rfl rfl ?_
    refine Flow.move (v := .int _ _) rfl ?_
    refine Flow.on rfl rfl ?_
    refine Flow.eqlD (c := true) rfl rfl (decide_eq_true (by omega)) ?_
    refine Flow.pickT rfl rfl ?_
    refine Flow.move (v := .bool _) rfl ?_
    refine Flow.on rfl rfl ?_
    refine Flow.move (v := .int _ _) rfl ?_
    refine Flow.on rfl rfl ?_
    refine Flow.geq rfl rfl ?_
    refine Flow.pickT rfl rfl ?_
    refine Flow.assign (v := .bool _) rfl ?_
    refine hK _ _ _ ?_
    clear hK K
    exact W.ret ⟨_, res1 rfl (v := .bool _) rfl, by simp [wr], c114.then c15'⟩
  obtain ⟨ga0, la0⟩ : 0 ≤ a ∧ 0 ≤ b := ⟨ga, la⟩
  by_cases hpos : 0 < a
  · have hb0 : ¬ 0 < b := fun h => hone ⟨hpos, h⟩
    refine W.seq fun K hK => ?_
    refine W.region (by rfl) ?_
    refine Flow.move (v := .int _ _) rfl ?_
    refine Flow.lssD (c := false) rfl rfl (decide_eq_false (by omega)) ?_
    refine Flow.move (v := .bool _) rfl ?_
    refine Flow.on rfl rfl ?_
    refine Flow.move (v := .int _ _) rfl ?_
    refine Flow.on rfl rfl ?_
    refine Flow.move (v := .int _ _) rfl ?_
    refine Flow.on rfl rfl ?_
    refine Flow.gtrD (c := false) rfl rfl (decide_eq_false (by omega)) ?_
    refine Flow.pickF rfl rfl ?_
    refine Flow.move (v := .bool _) rfl ?_
    refine Flow.on rfl rfl ?_
    refine Flow.move (v := .int _ _) rfl ?_
    refine Flow.on rfl rfl ?_
    refine Flow.lssD (c := false) rfl rfl (decide_eq_false (by omega)) ?_
    refine Flow.pickF rfl rfl ?_
    refine Flow.move (v := .bool _) rfl ?_
    refine Flow.on rfl rfl ?_
    refine Flow.move (v := .int _ _) rfl ?_
    refine Flow.on rfl rfl ?_
    refine Flow.move (v := .int _ _) rfl ?_
    refine Flow.on rfl rfl ?_
    refine Flow.gtrD (c := false) rfl rfl (decide_eq_false (by omega)) ?_
    refine Flow.pickF rfl rfl ?_
    refine Flow.move (v := .bool _) rfl ?_
    refine Flow.on rfl rfl ?_
    refine Flow.move (v := .int _ _) rfl ?_
    refine Flow.on rfl rfl ?_
    refine Flow.neqD (c := false) rfl rfl (decide_eq_false (by omega)) ?_
    refine Flow.pickF rfl rfl ?_
    refine Flow.move (v := .bool _) rfl ?_
    refine Flow.on rfl rfl ?_
    refine Flow.move (v := .int _ _) rfl ?_
    refine Flow.on rfl rfl ?_
    refine Flow.neqD (c := false) rfl rfl (decide_eq_false (by omega)) ?_
    refine Flow.pickF rfl rfl ?_
    refine Flow.move (v := .bool _) rfl ?_
    refine Flow.on rfl rfl ?_
    refine Flow.move (v := .int _ _) rfl ?_
    refine Flow.on rfl rfl ?_
    refine Flow.gtrD (c := true) rfl rfl (decide_eq_true (by omega)) ?_
    refine Flow.on rfl rfl ?_
    refine Flow.move (v := .bool _) rfl ?_
    refine Flow.on rfl rfl ?_
    refine Flow.move (v := .int _ _) rfl ?_
    refine Flow.on rfl rfl ?_
    refine Flow.gtrD (c := false) rfl rfl (decide_eq_false (by omega)) ?_
    refine Flow.on rfl rfl ?_
    refine Flow.pickT rfl rfl ?_
    refine Flow.pickF rfl rfl ?_
    refine Flow.move (v := .bool _) rfl ?_
    refine Flow.on rfl rfl ?_
    refine Flow.move (v := .int _ _) rfl ?_
    refine Flow.on rfl rfl ?_
    refine Flow.move (v := .int _ _) rfl ?_
    refine Flow.on rfl rfl ?_
    refine Flow.move (v := .int _ _) rfl ?_
    refine Flow.on rfl rfl ?_
    refine Flow.add rfl rfl (by omega) (by omega) ?_
    refine Flow.on rfl rfl ?_
    refine Flow.neqD (c := false) rfl rfl (decide_eq_false (by omega)) ?_
    refine Flow.pickF rfl rfl ?_
    refine hK _ _ _ ?_
    clear hK K
    refine W.cond (t := false) rfl (fun h => by simp at h) (fun _ => W.skip (hgo _ ?_))
    exact ⟨rfl, rfl, rfl, rfl, rfl, trivial⟩
  · refine W.seq fun K hK => ?_
    refine W.region (by rfl) ?_
    refine Flow.move (v := .int _ _) rfl ?_
    refine Flow.lssD (c := false) rfl rfl (decide_eq_false (by omega)) ?_
    refine Flow.move (v := .bool _) rfl ?_
    refine Flow.on rfl rfl ?_
    refine Flow.move (v := .int _ _) rfl ?_
    refine Flow.on rfl rfl ?_
    refine Flow.move (v := .int _ _) rfl ?_
    refine Flow.on rfl rfl ?_
    refine Flow.gtrD (c := false) rfl rfl (decide_eq_false (by omega)) ?_
    refine Flow.pickF rfl rfl ?_
    refine Flow.move (v := .bool _) rfl ?_
    refine Flow.on rfl rfl ?_
    refine Flow.move (v := .int _ _) rfl ?_
    refine Flow.on rfl rfl ?_
    refine Flow.lssD (c := false) rfl rfl (decide_eq_false (by omega)) ?_
    refine Flow.pickF rfl rfl ?_
    refine Flow.move (v := .bool _) rfl ?_
    refine Flow.on rfl rfl ?_
    refine Flow.move (v := .int _ _) rfl ?_
    refine Flow.on rfl rfl ?_
    refine Flow.move (v := .int _ _) rfl ?_
    refine Flow.on rfl rfl ?_
    refine Flow.gtrD (c := false) rfl rfl (decide_eq_false (by omega)) ?_
    refine Flow.pickF rfl rfl ?_
    refine Flow.move (v := .bool _) rfl ?_
    refine Flow.on rfl rfl ?_
    refine Flow.move (v := .int _ _) rfl ?_
    refine Flow.on rfl rfl ?_
    refine Flow.neqD (c := false) rfl rfl (decide_eq_false (by omega)) ?_
    refine Flow.pickF rfl rfl ?_
    refine Flow.move (v := .bool _) rfl ?_
    refine Flow.on rfl rfl ?_
    refine Flow.move (v := .int _ _) rfl ?_
    refine Flow.on rfl rfl ?_
    refine Flow.neqD (c := false) rfl rfl (decide_eq_false (by omega)) ?_
    refine Flow.pickF rfl rfl ?_
    refine Flow.move (v := .bool _) rfl ?_
    refine Flow.on rfl rfl ?_
    refine Flow.move (v := .int _ _) rfl ?_
    refine Flow.on rfl rfl ?_
    refine Flow.gtrD (c := false) rfl rfl (decide_eq_false (by omega)) ?_
    refine Flow.on rfl rfl ?_
    refine Flow.move (v := .bool _) rfl ?_
    refine Flow.off (c := false) rfl rfl rfl ?_
    refine Flow.off (c := false) rfl rfl rfl ?_
    refine Flow.on rfl rfl ?_
    refine Flow.pickF rfl rfl ?_
    refine Flow.pickF rfl rfl ?_
    refine Flow.move (v := .bool _) rfl ?_
    refine Flow.on rfl rfl ?_
    refine Flow.move (v := .int _ _) rfl ?_
    refine Flow.on rfl rfl ?_
    refine Flow.move (v := .int _ _) rfl ?_
    refine Flow.on rfl rfl ?_
    refine Flow.move (v := .int _ _) rfl ?_
    refine Flow.on rfl rfl ?_
    refine Flow.add rfl rfl (by omega) (by omega) ?_
    refine Flow.on rfl rfl ?_
    refine Flow.neqD (c := false) rfl rfl (decide_eq_false (by omega)) ?_
    refine Flow.pickF rfl rfl ?_
    refine hK _ _ _ ?_
    clear hK K
    refine W.cond (t := false) rfl (fun h => by simp at h) (fun _ => W.skip (hgo _ ?_))
    exact ⟨rfl, rfl, rfl, rfl, rfl, trivial⟩

end Go.Proofs.Ytkoejelglinmnaa

namespace Go.Proofs.Ytkoejelglinmnaa.mendMoreClaim
open Sg Go.ChangeShapes Go.WideShapes Go.ChangeAt Go.RowKit Go.Joins Go.Deep
set_option linter.unusedVariables false

set_option maxRecDepth 100000 in
theorem lifted (os : Os) (started : os.Started) (H : Type) (enc : TypeId × Value → H) :
    ReturnsInHanded {} Try.checked os 4 .any (Rows.mendMoreSpec.pre6 enc Try.prog Try.f4 Rows.mendMoreRow.domain false) (Rows.mendMoreSpec.post enc Try.prog Try.f4 false true false false) := by
  refine returnsInHanded_of_change (C := Try.checked) own started (by kernel_rfl) Try.func4
    (ChangeSpec.witness6 (enc := enc) (C := Try.checked) false ⟨#[], #[.agg #[.int .i64 0, .slice none 0 0, .slice none 0 0], .int .i64 0, .int .u8 0, .int .u8 0, .int .u8 0], []⟩ 8 (by kernel_rfl) (by kernel_rfl) (by kernel_rfl) (by kernel_rfl)) ?_
  intro W base args ds gs before hval0 hW hcnd _
  have hval : ∀ (j : Nat) t v, Try.f4.params[j]? = some t → args[j]? = some v → Value.okWide Try.prog W .any base t v := hval0
  have hW' := hW
  obtain ⟨p, q, hA0, hV, rfl, hfz, hnd⟩ := hW
  have hA : DataW.TrodAll enc Try.prog W 0 (fun _ => true) true Try.f4.params.toList args.toList ds p := hA0
  rw [Try.params4] at hA hval
  obtain ⟨v0, vs0, d0, ds0, p0, q0, hargs, rfl, rfl, h0, r0⟩ := trodAll_cons hA
  obtain ⟨v1, vs1, d1, ds1, p1, q1, rfl, rfl, rfl, h1, r1⟩ := trodAll_cons r0
  obtain ⟨v2, vs2, d2, ds2, p2, q2, rfl, rfl, rfl, h2, r2⟩ := trodAll_cons r1
  obtain ⟨v3, vs3, d3, ds3, p3, q3, rfl, rfl, rfl, h3, r3⟩ := trodAll_cons r2
  obtain ⟨v4, vs4, d4, ds4, p4, q4, rfl, rfl, rfl, h4, r4⟩ := trodAll_cons r3
  obtain ⟨rfl, rfl, rfl⟩ := trodAll_nil r4
  obtain rfl : args = #[v0, v1, v2, v3, v4] := by cases args; simp_all
  obtain ⟨rfl, rfl⟩ := trodVars_none hV
  have k0 := h0
  have lt0 : ∀ x ∈ p0, x.block < W.heap.size := by obtain ⟨m, hm⟩ := k0; exact DataW.trod_lt m _ _ _ hm
  obtain ⟨t0, ac0, af0, cc0, cf0, rfl, hC0, hF0⟩ := read_tour (hval 0 _ v0 rfl rfl) h0
  obtain ⟨a1, rfl, rfl, rfl, w1⟩ := open_int u_int (hval 1 _ v1 rfl rfl) h1
  obtain ⟨a2, rfl, rfl, rfl, w2⟩ := open_int u_u8 (hval 2 _ v2 rfl rfl) h2
  obtain ⟨a3, rfl, rfl, rfl, w3⟩ := open_int u_u8 (hval 3 _ v3 rfl rfl) h3
  obtain ⟨a4, rfl, rfl, rfl, w4⟩ := open_int u_u8 (hval 4 _ v4 rfl rfl) h4
  clear hA0 hval0
  refine Calls.mono (mendMore_ok W t0 ac0 af0 cc0 cf0 a1 a2 a3 a4 (bounds_u8 w2) (bounds_u8 w3) (bounds_u8 w4) hC0 hF0) ?_
  rintro e W' ⟨v, rfl, rfl, hc⟩
  have bel := chg_below hc
  exact ⟨_, rfl, _, _, _, [], _, [], hW', trodAll_mk1 (shut_bool u_bool _), (trodAll_cons_mk (Below.trod laidOut (by kernel_rfl) (of_decide_eq_true (by kernel_rfl)) k0 bel lt0) (trodAll_cons_mk (shut_int u_int w1) (trodAll_cons_mk (shut_int u_u8 w2) (trodAll_cons_mk (shut_int u_u8 w3) (trodAll_cons_mk (shut_int u_u8 w4) trodAll_mk0))))), rfl, bel.frame _, fun h => by cases h⟩

theorem over : Rows.mendMoreRow.holds Try.pinned (OpenSpec.ofChange Rows.mendMoreSpec) :=
  OpenClaim.holds_of_wide 4 Try.f4 rfl rfl rfl rfl rfl rfl rfl ⟨rfl, rfl, rfl, rfl, rfl⟩ rfl rfl rfl rfl rfl (by kernel_rfl) Try.func4 (by kernel_rfl)
    (of_decide_eq_true (by kernel_rfl)) (by unfold Func.isWrapper; first | (rw [if_pos (by decide +kernel)]; kernel_rfl) | (rw [if_neg (by decide +kernel)]; exact ⟨rfl, rfl⟩))
    (fun os started H enc _ => lifted os started H enc)

theorem proved : Rows.MendMoreSaid := over
#print axioms proved

end Go.Proofs.Ytkoejelglinmnaa.mendMoreClaim
