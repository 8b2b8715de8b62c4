/-
  Contracts: the laws' own helpers.
-/
import Derived.Test.YtkoejelglinmnaaGreatK4
import Derived.Test.YtkoejelglinmnaaGreatK2
import Derived.Laws.Small
import Derived.Test.YtkoejelglinmnaaGreatRows
import Derived.WalkKit
import Derived.ProofKit
import Derived.OpenShut
import Derived.ChangeOld
import Derived.Below
import Derived.Lib.SmallJoins
import Derived.Deep.Slices
import Derived.Carry
set_option linter.unusedSimpArgs false
set_option linter.unusedVariables false
namespace Go.Proofs.YtkoejelglinmnaaGreat
open Sg
set_option maxRecDepth 100000

/-! ### few -/
def fewB (t : Tour) : Bool := decide (t.closed.length ≤ 70) && (decide (t.flaws.length ≤ 8) || decide (40 < t.flaws.length) && decide (t.flaws.length ≤ 50))

theorem few_ok (w : World) (t : Tour) (ac af : Option Addr) (cc cf : Nat) :
    Ret Tryz.prog 15 #[.agg #[.int .i64 t.days, .slice ac t.closed.length cc, .slice af t.flaws.length cf]] w fun v w' => v = .bool (fewB t) ∧ Chg [] w w' := by
  by_cases h1 : t.closed.length ≤ 70
  case neg =>
    refine Ret.of_W (n := 25) Tryz.func15 rfl rfl (Nat.le_of_ble_eq_true rfl) ?_
    refine W.seq fun K hK => ?_
    refine W.region (by rfl) ?_
    refine Flow.box rfl (cs := [_, _, _]) rfl fun w1 c1 s1 b1 => ?_
    refine Flow.assignC ?_
    refine hK _ _ _ ?_
    clear hK K
    refine W.seq fun K hK => ?_
    refine W.region (by rfl) ?_
    refine Flow.fieldAddr Tf.fo_25_1 rfl ?_
    refine Flow.load1 Tf.ty_22 rfl (b1.cell 1) ?_
    refine Flow.len rfl Tf.us_22 rfl rfl ?_
    refine Flow.leqD (c := false) rfl rfl (decide_eq_false (by omega)) ?_
    refine Flow.move (v := .bool _) rfl ?_
    refine Flow.off (c := false) rfl rfl rfl ?_
    refine Flow.off (c := false) rfl rfl rfl ?_
    refine Flow.off (c := false) rfl rfl rfl ?_
    refine Flow.off (c := false) rfl rfl rfl ?_
    refine Flow.off (c := false) rfl rfl rfl ?_
    refine Flow.offU rfl rfl ?_
    refine Flow.offU rfl rfl ?_
    refine Flow.offU rfl rfl ?_
    refine Flow.offU rfl rfl ?_
    refine Flow.offU rfl rfl ?_
    refine Flow.offU rfl rfl ?_
    refine Flow.offU rfl rfl ?_
    refine Flow.offU rfl rfl ?_
    refine Flow.offU rfl rfl ?_
    refine Flow.offU rfl rfl ?_
    refine Flow.off (c := false) rfl rfl rfl ?_
    refine Flow.pickF rfl rfl ?_
    refine Flow.assign (v := .bool _) rfl ?_
    refine hK _ _ _ ?_
    clear hK K
    exact W.ret ⟨_, res1 rfl (v := .bool _) rfl, by simp [fewB, h1], c1⟩
  by_cases h2 : t.flaws.length ≤ 8
  · refine Ret.of_W (n := 25) Tryz.func15 rfl rfl (Nat.le_of_ble_eq_true rfl) ?_
    refine W.seq fun K hK => ?_
    refine W.region (by rfl) ?_
    refine Flow.box rfl (cs := [_, _, _]) rfl fun w1 c1 s1 b1 => ?_
    refine Flow.assignC ?_
    refine hK _ _ _ ?_
    clear hK K
    refine W.seq fun K hK => ?_
    refine W.region (by rfl) ?_
    refine Flow.fieldAddr Tf.fo_25_1 rfl ?_
    refine Flow.load1 Tf.ty_22 rfl (b1.cell 1) ?_
    refine Flow.len rfl Tf.us_22 rfl rfl ?_
    refine Flow.leqD (c := true) rfl rfl (decide_eq_true (by omega)) ?_
    refine Flow.move (v := .bool _) rfl ?_
    refine Flow.on rfl rfl ?_
    refine Flow.fieldAddr Tf.fo_25_2 rfl ?_
    refine Flow.on rfl rfl ?_
    refine Flow.load1 Tf.ty_23 rfl (b1.cell 2) ?_
    refine Flow.on rfl rfl ?_
    refine Flow.len rfl Tf.us_23 rfl rfl ?_
    refine Flow.on rfl rfl ?_
    refine Flow.leqD (c := true) rfl rfl (decide_eq_true (by omega)) ?_
    refine Flow.on rfl rfl ?_
    refine Flow.move (v := .bool _) rfl ?_
    refine Flow.off (c := true) rfl rfl rfl ?_
    refine Flow.off (c := true) rfl rfl rfl ?_
    refine Flow.off (c := true) rfl rfl rfl ?_
    refine Flow.off (c := true) rfl rfl rfl ?_
    refine Flow.off (c := true) rfl rfl rfl ?_
    refine Flow.offU rfl rfl ?_
    refine Flow.offU rfl rfl ?_
    refine Flow.offU rfl rfl ?_
    refine Flow.offU rfl rfl ?_
    refine Flow.off (c := true) rfl rfl rfl ?_
    refine Flow.on rfl rfl ?_
    refine Flow.pickT rfl rfl ?_
    refine Flow.pickT rfl rfl ?_
    refine Flow.assign (v := .bool _) rfl ?_
    refine hK _ _ _ ?_
    clear hK K
    exact W.ret ⟨_, res1 rfl (v := .bool _) rfl, by simp [fewB, h1, h2], c1⟩
  by_cases h3 : 40 < t.flaws.length
  · refine Ret.of_W (n := 25) Tryz.func15 rfl rfl (Nat.le_of_ble_eq_true rfl) ?_
    refine W.seq fun K hK => ?_
    refine W.region (by rfl) ?_
    refine Flow.box rfl (cs := [_, _, _]) rfl fun w1 c1 s1 b1 => ?_
    refine Flow.assignC ?_
    refine hK _ _ _ ?_
    clear hK K
    refine W.seq fun K hK => ?_
    refine W.region (by rfl) ?_
    refine Flow.fieldAddr Tf.fo_25_1 rfl ?_
    refine Flow.load1 Tf.ty_22 rfl (b1.cell 1) ?_
    refine Flow.len rfl Tf.us_22 rfl rfl ?_
    refine Flow.leqD (c := true) rfl rfl (decide_eq_true (by omega)) ?_
    refine Flow.move (v := .bool _) rfl ?_
    refine Flow.on rfl rfl ?_
    refine Flow.fieldAddr Tf.fo_25_2 rfl ?_
    refine Flow.on rfl rfl ?_
    refine Flow.load1 Tf.ty_23 rfl (b1.cell 2) ?_
    refine Flow.on rfl rfl ?_
    refine Flow.len rfl Tf.us_23 rfl rfl ?_
    refine Flow.on rfl rfl ?_
    refine Flow.leqD (c := false) rfl rfl (decide_eq_false (by omega)) ?_
    refine Flow.on rfl rfl ?_
    refine Flow.move (v := .bool _) rfl ?_
    refine Flow.on rfl rfl ?_
    refine Flow.fieldAddr Tf.fo_25_2 rfl ?_
    refine Flow.on rfl rfl ?_
    refine Flow.load1 Tf.ty_23 rfl (b1.cell 2) ?_
    refine Flow.on rfl rfl ?_
    refine Flow.len rfl Tf.us_23 rfl rfl ?_
    refine Flow.on rfl rfl ?_
    refine Flow.gtrD (c := true) rfl rfl (decide_eq_true (by omega)) ?_
    refine Flow.on rfl rfl ?_
    refine Flow.move (v := .bool _) rfl ?_
    refine Flow.on rfl rfl ?_
    refine Flow.fieldAddr Tf.fo_25_2 rfl ?_
    refine Flow.on rfl rfl ?_
    refine Flow.load1 Tf.ty_23 rfl (b1.cell 2) ?_
    refine Flow.on rfl rfl ?_
    refine Flow.len rfl Tf.us_23 rfl rfl ?_
    refine Flow.on rfl rfl ?_
    refine Flow.leq rfl rfl ?_
    refine Flow.on rfl rfl ?_
    refine Flow.pickT rfl rfl ?_
    refine Flow.on rfl rfl ?_
    refine Flow.pickF rfl rfl ?_
    refine Flow.pickT rfl rfl ?_
    refine Flow.assign (v := .bool _) rfl ?_
    refine hK _ _ _ ?_
    clear hK K
    refine W.ret ⟨_, res1 rfl (v := .bool _) rfl, ?_, c1⟩
    simp only [fewB, h1, h2, h3, decide_true, decide_false, Bool.true_and, Bool.false_or]
    congr 1
    simp only [decide_eq_decide]
    omega
  · refine Ret.of_W (n := 25) Tryz.func15 rfl rfl (Nat.le_of_ble_eq_true rfl) ?_
    refine W.seq fun K hK => ?_
    refine W.region (by rfl) ?_
    refine Flow.box rfl (cs := [_, _, _]) rfl fun w1 c1 s1 b1 => ?_
    refine Flow.assignC ?_
    refine hK _ _ _ ?_
    clear hK K
    refine W.seq fun K hK => ?_
    refine W.region (by rfl) ?_
    refine Flow.fieldAddr Tf.fo_25_1 rfl ?_
    refine Flow.load1 Tf.ty_22 rfl (b1.cell 1) ?_
    refine Flow.len rfl Tf.us_22 rfl rfl ?_
    refine Flow.leqD (c := true) rfl rfl (decide_eq_true (by omega)) ?_
    refine Flow.move (v := .bool _) rfl ?_
    refine Flow.on rfl rfl ?_
    refine Flow.fieldAddr Tf.fo_25_2 rfl ?_
    refine Flow.on rfl rfl ?_
    refine Flow.load1 Tf.ty_23 rfl (b1.cell 2) ?_
    refine Flow.on rfl rfl ?_
    refine Flow.len rfl Tf.us_23 rfl rfl ?_
    refine Flow.on rfl rfl ?_
    refine Flow.leqD (c := false) rfl rfl (decide_eq_false (by omega)) ?_
    refine Flow.on rfl rfl ?_
    refine Flow.move (v := .bool _) rfl ?_
    refine Flow.on rfl rfl ?_
    refine Flow.fieldAddr Tf.fo_25_2 rfl ?_
    refine Flow.on rfl rfl ?_
    refine Flow.load1 Tf.ty_23 rfl (b1.cell 2) ?_
    refine Flow.on rfl rfl ?_
    refine Flow.len rfl Tf.us_23 rfl rfl ?_
    refine Flow.on rfl rfl ?_
    refine Flow.gtrD (c := false) rfl rfl (decide_eq_false (by omega)) ?_
    refine Flow.on rfl rfl ?_
    refine Flow.move (v := .bool _) rfl ?_
    refine Flow.off (c := false) rfl rfl rfl ?_
    refine Flow.off (c := false) rfl rfl rfl ?_
    refine Flow.off (c := false) rfl rfl rfl ?_
    refine Flow.off (c := false) rfl rfl rfl ?_
    refine Flow.on rfl rfl ?_
    refine Flow.pickF rfl rfl ?_
    refine Flow.on rfl rfl ?_
    refine Flow.pickF rfl rfl ?_
    refine Flow.pickT rfl rfl ?_
    refine Flow.assign (v := .bool _) rfl ?_
    refine hK _ _ _ ?_
    clear hK K
    exact W.ret ⟨_, res1 rfl (v := .bool _) rfl, by simp [fewB, h1, h2, h3], c1⟩

/-! ### has -/
theorem has_ok (w : World) (a : Option Addr) (c : Nat) (l : List Int) (x : Int) (hl : IL w a l) (hn : l.length ≤ 1000000) :
    Ret Tryz.prog 42 #[.slice a l.length c, .int .i64 x] w fun v w' => v = .bool (decide (x ∈ l)) ∧ Chg [] w w' := by
  refine Ret.of_W (n := 18) Tryz.func42 rfl rfl (Nat.le_of_ble_eq_true rfl) ?_
  refine W.seq fun K hK => ?_
  refine W.region (by rfl) ?_
  refine Flow.assignC ?_
  refine hK _ _ _ ?_
  clear hK K
  refine W.seq fun K0 hK0 => ?_
  refine W.seq fun K hK => ?_
  refine W.region (by rfl) ?_
  refine Flow.assignC ?_
  refine hK _ _ _ ?_
  clear hK K
  refine W.block ?_
  refine W.loop (ι := Nat) (fun k ds e w' => ds = [] ∧ k ≤ l.length ∧ AllAt e [(0, .slice a l.length c), (1, .int .i64 x), (5, .int .i64 k)] ∧ Chg [] w w' ∧ ∀ j (h : j < l.length), j < k → l[j] ≠ x)
    (fun k => l.length - k) (i0 := 0) ⟨rfl, by omega, ⟨rfl, rfl, rfl, trivial⟩, Chg.refl _ _, fun _ _ h => absurd h (by omega)⟩ ?_
  rintro k ds e w' ⟨rfl, hk, hE, hc, hno⟩
  obtain ⟨e, rfl⟩ : ∃ e0, e = putL e0 _ := ⟨e, putL_self hE⟩
  clear hE
  refine W.seq fun K2 hK2 => ?_
  refine W.seq fun K hK => ?_
  refine W.region (by rfl) ?_
  refine Flow.move (v := .int _ _) rfl ?_
  refine Flow.move (v := .slice _ _ _) rfl ?_
  refine Flow.len rfl Tf.us_22 rfl rfl ?_
  refine Flow.lss rfl rfl ?_
  refine hK _ _ _ ?_
  clear hK K
  refine W.cond rfl (fun h => W.skip (hK2 _ _ _ ?_)) (fun h => W.exit ?_)
  · have hlt : k < l.length := by simpa using h
    obtain ⟨b, o, rfl, hcell⟩ := (hl.ext hc).get hlt
    refine W.seq fun K3 hK3 => ?_
    refine W.block ?_
    refine W.seq fun K hK => ?_
    refine W.region (by rfl) ?_
    refine Flow.move (v := .slice _ _ _) rfl ?_
    refine Flow.move (v := .int _ _) rfl ?_
    refine Flow.indexAddr1 Tf.sl_22 rfl rfl (by omega) (by omega) ?_
    refine Flow.load1 Tf.ty_3 rfl (hcell k hlt) ?_
    refine Flow.move (v := .int _ _) rfl ?_
    refine Flow.eql rfl rfl ?_
    refine hK _ _ _ ?_
    clear hK K
    refine W.cond rfl (fun h => ?_) (fun h => W.skip (hK3 _ _ _ ?_))
    · refine W.seq fun K hK => ?_
      refine W.region (by rfl) ?_
      refine Flow.assignC ?_
      refine hK _ _ _ ?_
      clear hK K
      have hx : l[k] = x := by simpa using h
      exact W.ret ⟨_, res1 rfl (v := .bool _) rfl, by rw [decide_eq_true (show x ∈ l from hx ▸ List.getElem_mem hlt)], hc⟩
    · have hx : l[k] ≠ x := by simpa using h
      refine W.region (by rfl) ?_
      refine Flow.move (v := .int _ _) rfl ?_
      refine Flow.add rfl rfl (by omega) (by omega) ?_
      refine Flow.assign (v := .int _ _) rfl ?_
      refine Flow.nil ⟨k + 1, by omega, rfl, by omega, ⟨rfl, rfl, rfl, trivial⟩, hc, fun j hj hjk => ?_⟩
      by_cases e : j = k
      · subst e; exact hx
      · exact hno j hj (by omega)
  · have hge : k = l.length := by simp at h; omega
    refine hK0 _ _ _ ?_
    refine W.seq fun K hK => ?_
    refine W.region (by rfl) ?_
    refine Flow.assignC ?_
    refine hK _ _ _ ?_
    clear hK K
    refine W.ret ⟨_, res1 rfl (v := .bool _) rfl, ?_, hc⟩
    rw [decide_eq_false ?_]
    intro hm
    obtain ⟨j, hj, he⟩ := List.getElem_of_mem hm
    exact hno j hj (by omega) he

/-! ### SameInts, SameLists -/
theorem sameInts_ok (w : World) (a b : Option Addr) (ca cb : Nat) (l m : List Int) (hl : IL w a l) (hm : IL w b m) (hn : l.length ≤ 1000000) (hn2 : m.length ≤ 1000000) :
    Ret Tryz.prog 22 #[.slice a l.length ca, .slice b m.length cb] w fun v w' => v = .bool (decide (l = m)) ∧ Chg [] w w' := by
  refine Ret.of_W (n := 26) Tryz.func22 rfl rfl (Nat.le_of_ble_eq_true rfl) ?_
  refine W.seq fun K hK => ?_
  refine W.region (by rfl) ?_
  refine Flow.assignC ?_
  refine hK _ _ _ ?_
  clear hK K
  refine W.seq fun K1 hK1 => ?_
  refine W.seq fun K hK => ?_
  refine W.region (by rfl) ?_
  refine Flow.move (v := .slice _ _ _) rfl ?_
  refine Flow.len rfl Tf.us_22 rfl rfl ?_
  refine Flow.move (v := .slice _ _ _) rfl ?_
  refine Flow.len rfl Tf.us_22 rfl rfl ?_
  refine Flow.neq rfl rfl ?_
  refine hK _ _ _ ?_
  clear hK K
  refine W.cond rfl (fun h => ?_) (fun h => W.skip (hK1 _ _ _ ?_))
  · have hne : (l.length : Int) ≠ m.length := by simpa using h
    refine W.seq fun K hK => ?_
    refine W.region (by rfl) ?_
    refine Flow.assignC ?_
    refine hK _ _ _ ?_
    clear hK K
    exact W.ret ⟨_, res1 rfl (v := .bool _) rfl, by rw [decide_eq_false (fun e => hne (by rw [e]))], Chg.refl _ _⟩
  have hlen : l.length = m.length := by
    have : (l.length : Int) = m.length := by simpa using h
    omega
  refine W.seq fun K0 hK0 => ?_
  refine W.seq fun K hK => ?_
  refine W.region (by rfl) ?_
  refine Flow.assignC ?_
  refine hK _ _ _ ?_
  clear hK K
  refine W.block ?_
  refine W.loop (ι := Nat) (fun k ds e w' => ds = [] ∧ k ≤ l.length ∧ AllAt e [(0, .slice a l.length ca), (1, .slice b m.length cb), (5, .int .i64 k)] ∧ Chg [] w w' ∧ l.take k = m.take k)
    (fun k => l.length - k) (i0 := 0) ⟨rfl, by omega, ⟨rfl, rfl, rfl, trivial⟩, Chg.refl _ _, by simp⟩ ?_
  rintro k ds e w' ⟨rfl, hk, hE, hc, heq⟩
  obtain ⟨e, rfl⟩ : ∃ e0, e = putL e0 _ := ⟨e, putL_self hE⟩
  clear hE
  refine W.seq fun K2 hK2 => ?_
  refine W.seq fun K hK => ?_
  refine W.region (by rfl) ?_
  refine Flow.move (v := .int _ _) rfl ?_
  refine Flow.move (v := .slice _ _ _) rfl ?_
  refine Flow.len rfl Tf.us_22 rfl rfl ?_
  refine Flow.lss rfl rfl ?_
  refine hK _ _ _ ?_
  clear hK K
  refine W.cond rfl (fun h => W.skip (hK2 _ _ _ ?_)) (fun h => W.exit ?_)
  · have hlt : k < l.length := by simpa using h
    have hlt2 : k < m.length := by omega
    obtain ⟨bl, ol, rfl, hcell⟩ := (hl.ext hc).get hlt
    obtain ⟨bm, om, rfl, hcellm⟩ := (hm.ext hc).get hlt2
    refine W.seq fun K3 hK3 => ?_
    refine W.block ?_
    refine W.seq fun K hK => ?_
    refine W.regionD [] [] (by kernel_rfl) (by kernel_rfl) fun w1 c1 h1 => ?_
    refine FD.val (fun _ hw => Rn.move (v := .slice _ _ _) rfl) ?_
    refine FD.val (fun _ hw => Rn.move (v := .int _ _) rfl) ?_
    refine FD.val (fun _ hw => Rn.indexAddr1 Tf.sl_22 rfl rfl (by omega) (by omega)) ?_
    refine FD.val (fun _ hw => Rn.load1 Tf.ty_3 rfl (cell_chg (hcell k hlt) c1 (by simp)) (hw rfl rfl)) ?_
    refine FD.val (fun _ hw => Rn.move (v := .slice _ _ _) rfl) ?_
    refine FD.val (fun _ hw => Rn.move (v := .int _ _) rfl) ?_
    refine FD.val (fun _ hw => Rn.indexAddr1 Tf.sl_22 rfl rfl (by omega) (by omega)) ?_
    refine FD.val (fun _ hw => Rn.load1 Tf.ty_3 rfl (cell_chg (hcellm k hlt2) c1 (by simp)) (hw rfl rfl)) ?_
    refine FD.val (fun _ hw => Rn.neqD rfl rfl rfl) ?_
    refine FD.nil ?_
    refine hK _ _ _ ?_
    clear hK K
    refine W.cond rfl (fun h => ?_) (fun h => W.skip (hK3 _ _ _ ?_))
    · have hne : l[k] ≠ m[k] := by simpa using h
      refine W.seq fun K hK => ?_
      refine W.region (by rfl) ?_
      refine Flow.assignC ?_
      refine hK _ _ _ ?_
      clear hK K
      refine W.ret ⟨_, res1 rfl (v := .bool _) rfl, ?_, hc.then c1⟩
      rw [decide_eq_false]
      rintro rfl
      exact hne rfl
    · have he : l[k] = m[k] := by simpa using h
      refine W.region (by rfl) ?_
      refine Flow.move (v := .int _ _) rfl ?_
      refine Flow.add rfl rfl (by omega) (by omega) ?_
      refine Flow.assign (v := .int _ _) rfl ?_
      refine Flow.nil ⟨k + 1, by omega, rfl, by omega, ⟨rfl, rfl, rfl, trivial⟩, hc.then c1, ?_⟩
      rw [List.take_add_one, List.take_add_one, heq, List.getElem?_eq_getElem hlt, List.getElem?_eq_getElem hlt2, he]
  · have hge : k = l.length := by simp at h; omega
    subst hge
    rw [List.take_length, hlen, List.take_length] at heq
    refine hK0 _ _ _ ?_
    refine W.seq fun K hK => ?_
    refine W.region (by rfl) ?_
    refine Flow.assignC ?_
    refine hK _ _ _ ?_
    clear hK K
    exact W.ret ⟨_, res1 rfl (v := .bool _) rfl, by rw [decide_eq_true heq], hc⟩

theorem LL.get {w : World} {a : Option Addr} {ls : List (List Int)} (h : LL w a ls) {i : Nat} (hi : i < ls.length) :
    ∃ b o, a = some ⟨b, o, none⟩ ∧ ∀ i (h : i < ls.length), ∃ ai ci, w.cell? ⟨b, o + i, none⟩ = some (.slice ai ls[i].length ci) ∧ IL w ai ls[i] := by
  rcases h with rfl | h
  · simp at hi
  · exact h

theorem sameLists_ok (w : World) (a b : Option Addr) (ca cb : Nat) (l m : List (List Int)) (hl : LL w a l) (hm : LL w b m) (hn : l.length ≤ 1000000) (hn2 : m.length ≤ 1000000) (hx : ∀ x ∈ l, x.length ≤ 1000000) (hx2 : ∀ x ∈ m, x.length ≤ 1000000) :
    Ret Tryz.prog 36 #[.slice a l.length ca, .slice b m.length cb] w fun v w' => v = .bool (decide (l = m)) ∧ Chg [] w w' := by
  refine Ret.of_W (n := 29) Tryz.func36 rfl rfl (Nat.le_of_ble_eq_true rfl) ?_
  refine W.seq fun K hK => ?_
  refine W.region (by rfl) ?_
  refine Flow.assignC ?_
  refine hK _ _ _ ?_
  clear hK K
  refine W.seq fun K1 hK1 => ?_
  refine W.seq fun K hK => ?_
  refine W.region (by rfl) ?_
  refine Flow.move (v := .slice _ _ _) rfl ?_
  refine Flow.len rfl Tf.us_56 rfl rfl ?_
  refine Flow.move (v := .slice _ _ _) rfl ?_
  refine Flow.len rfl Tf.us_56 rfl rfl ?_
  refine Flow.neq rfl rfl ?_
  refine hK _ _ _ ?_
  clear hK K
  refine W.cond rfl (fun h => ?_) (fun h => W.skip (hK1 _ _ _ ?_))
  · have hne : (l.length : Int) ≠ m.length := by simpa using h
    refine W.seq fun K hK => ?_
    refine W.region (by rfl) ?_
    refine Flow.assignC ?_
    refine hK _ _ _ ?_
    clear hK K
    exact W.ret ⟨_, res1 rfl (v := .bool _) rfl, by rw [decide_eq_false (fun e => hne (by rw [e]))], Chg.refl _ _⟩
  have hlen : l.length = m.length := by
    have : (l.length : Int) = m.length := by simpa using h
    omega
  refine W.seq fun K0 hK0 => ?_
  refine W.seq fun K hK => ?_
  refine W.region (by rfl) ?_
  refine Flow.assignC ?_
  refine hK _ _ _ ?_
  clear hK K
  refine W.block ?_
  refine W.loop (ι := Nat) (fun k ds e w' => ds = [] ∧ k ≤ l.length ∧ AllAt e [(0, .slice a l.length ca), (1, .slice b m.length cb), (5, .int .i64 k)] ∧ Chg [] w w' ∧ l.take k = m.take k)
    (fun k => l.length - k) (i0 := 0) ⟨rfl, by omega, ⟨rfl, rfl, rfl, trivial⟩, Chg.refl _ _, by simp⟩ ?_
  rintro k ds e w' ⟨rfl, hk, hE, hc, heq⟩
  obtain ⟨e, rfl⟩ : ∃ e0, e = putL e0 _ := ⟨e, putL_self hE⟩
  clear hE
  refine W.seq fun K2 hK2 => ?_
  refine W.seq fun K hK => ?_
  refine W.region (by rfl) ?_
  refine Flow.move (v := .int _ _) rfl ?_
  refine Flow.move (v := .slice _ _ _) rfl ?_
  refine Flow.len rfl Tf.us_56 rfl rfl ?_
  refine Flow.lss rfl rfl ?_
  refine hK _ _ _ ?_
  clear hK K
  refine W.cond rfl (fun h => W.skip (hK2 _ _ _ ?_)) (fun h => W.exit ?_)
  · have hlt : k < l.length := by simpa using h
    have hlt2 : k < m.length := by omega
    obtain ⟨bl, ol, rfl, hcell⟩ := (hl.ext hc).get hlt
    obtain ⟨bm, om, rfl, hcellm⟩ := (hm.ext hc).get hlt2
    obtain ⟨ai, ci, h1, h2⟩ := hcell k hlt
    obtain ⟨aj, cj, h3, h4⟩ := hcellm k hlt2
    refine W.seq fun K3 hK3 => ?_
    refine W.block ?_
    refine W.seq fun K hK => ?_
    refine W.regionD [8] [] (by kernel_rfl) (by kernel_rfl) fun w1 c1 hh1 => ?_
    refine FD.val (fun _ hw => Rn.move (v := .slice _ _ _) rfl) ?_
    refine FD.val (fun _ hw => Rn.move (v := .int _ _) rfl) ?_
    refine FD.val (fun _ hw => Rn.indexAddr1 Tf.sl_56 rfl rfl (by omega) (by omega)) ?_
    refine FD.val (fun _ hw => Rn.load1 Tf.ty_22 rfl (cell_chg h1 c1 (by simp)) (hw rfl rfl)) ?_
    refine FD.val (fun _ hw => Rn.move (v := .slice _ _ _) rfl) ?_
    refine FD.val (fun _ hw => Rn.move (v := .int _ _) rfl) ?_
    refine FD.val (fun _ hw => Rn.indexAddr1 Tf.sl_56 rfl rfl (by omega) (by omega)) ?_
    refine FD.val (fun _ hw => Rn.load1 Tf.ty_22 rfl (cell_chg h3 c1 (by simp)) (hw rfl rfl)) ?_
    refine FD.eff (by rfl) (Chg.refl _ _) ?_
    refine Flow.call2 Tf.hb_22 (v1 := .slice _ _ _) rfl (v2 := .slice _ _ _) rfl ?_
    refine Ret.mono (sameInts_ok _ _ _ _ _ _ _ (h2.ext c1) (h4.ext c1) (hx _ (List.getElem_mem hlt)) (hx2 _ (List.getElem_mem hlt2))) ?_
    rintro _ w2 ⟨rfl, c2⟩
    refine Flow.nil ⟨c2, ?_⟩
    refine FD.val (fun _ hw => Rn.assign (v := .bool _) rfl) ?_
    refine FD.nil ?_
    refine hK _ _ _ ?_
    clear hK K
    have c12 := c1.then c2
    refine W.seq fun K hK => ?_
    refine W.region (by rfl) ?_
    refine Flow.move (v := .bool _) rfl ?_
    refine Flow.not rfl ?_
    refine hK _ _ _ ?_
    clear hK K
    refine W.cond rfl (fun h => ?_) (fun h => W.skip (hK3 _ _ _ ?_))
    · have hne : l[k] ≠ m[k] := by simpa using h
      refine W.seq fun K hK => ?_
      refine W.region (by rfl) ?_
      refine Flow.assignC ?_
      refine hK _ _ _ ?_
      clear hK K
      refine W.ret ⟨_, res1 rfl (v := .bool _) rfl, ?_, hc.then c12⟩
      rw [decide_eq_false]
      rintro rfl
      exact hne rfl
    · have he : l[k] = m[k] := by simpa using h
      refine W.region (by rfl) ?_
      refine Flow.move (v := .int _ _) rfl ?_
      refine Flow.add rfl rfl (by omega) (by omega) ?_
      refine Flow.assign (v := .int _ _) rfl ?_
      refine Flow.nil ⟨k + 1, by omega, rfl, by omega, ⟨rfl, rfl, rfl, trivial⟩, hc.then c12, ?_⟩
      rw [List.take_add_one, List.take_add_one, heq, List.getElem?_eq_getElem hlt, List.getElem?_eq_getElem hlt2, he]
  · have hge : k = l.length := by simp at h; omega
    subst hge
    rw [List.take_length, hlen, List.take_length] at heq
    refine hK0 _ _ _ ?_
    refine W.seq fun K hK => ?_
    refine W.region (by rfl) ?_
    refine Flow.assignC ?_
    refine hK _ _ _ ?_
    clear hK K
    exact W.ret ⟨_, res1 rfl (v := .bool _) rfl, by rw [decide_eq_true heq], hc⟩

/-! ### worth -/
theorem worthS_bd {fl : List Flaw} (h : ∀ f ∈ fl, 0 ≤ f.merit ∧ f.merit ≤ 4194304) : ∀ (on : List Int), 0 ≤ worthS fl on ∧ worthS fl on ≤ fl.length * 4194304 := by
  induction fl with
  | nil => intro on; simp [worthS]
  | cons f fl ih =>
    intro on
    cases on with
    | nil => simp [worthS]; omega
    | cons d on =>
      have h1 := h f (by simp)
      have h2 := ih (fun g hg => h g (List.mem_cons_of_mem _ hg)) on
      simp only [worthS, List.length_cons]
      split <;> omega

theorem worthS_nil2 (on : List Int) : worthS [] on = 0 := by cases on <;> rfl
theorem worthS_nil (fl : List Flaw) : worthS fl [] = 0 := by cases fl <;> rfl

theorem worth_ok (w : World) (t : Tour) (ac af : Option Addr) (cc cf : Nat) (ao : Option Addr) (co : Nat) (on : List Int) (hF : FL w af t.flaws) (hs : Small t) (hO : IL w ao on) (hn : on.length ≤ 1000) :
    Ret Tryz.prog 65 #[.agg #[.int .i64 t.days, .slice ac t.closed.length cc, .slice af t.flaws.length cf], .slice ao on.length co] w fun v w' => v = .int .i64 (worthS t.flaws on) ∧ Chg [] w w' := by
  have hfl := hs.fl
  refine Ret.of_W (n := 34) Tryz.func65 rfl rfl (Nat.le_of_ble_eq_true rfl) ?_
  refine W.seq fun K hK => ?_
  refine W.region (by rfl) ?_
  refine Flow.box rfl (cs := [_, _, _]) rfl fun w1 c1 s1 b1 => ?_
  refine Flow.assignC ?_
  refine hK _ _ _ ?_
  clear hK K
  refine W.seq fun K hK => ?_
  refine W.region (by rfl) ?_
  refine Flow.assignC ?_
  refine hK _ _ _ ?_
  clear hK K
  refine W.seq fun K0 hK0 => ?_
  refine W.seq fun K hK => ?_
  refine W.region (by rfl) ?_
  refine Flow.assignC ?_
  refine hK _ _ _ ?_
  clear hK K
  refine W.block ?_
  refine W.loop (ι := Nat × Int) (fun k ds e w' => ds = [] ∧ k.1 ≤ on.length ∧ k.1 ≤ t.flaws.length ∧ AllAt e [(1, .slice ao on.length co), (2, .pointer (some ⟨w.heap.size, 0, none⟩)), (5, .int .i64 k.2), (6, .int .i64 k.1)] ∧ Chg [] w1 w' ∧
      worthS t.flaws on = k.2 + worthS (t.flaws.drop k.1) (on.drop k.1) ∧ 0 ≤ k.2 ∧ k.2 ≤ k.1 * 4194304)
    (fun k => on.length - k.1) (i0 := (0, 0)) ⟨rfl, by omega, by omega, ⟨rfl, rfl, rfl, rfl, trivial⟩, Chg.refl _ _, by simp, by simp, by simp⟩ ?_
  rintro ⟨k, n⟩ ds e w2 ⟨rfl, hk, hk2, hE, hc, hw, hn0, hn1⟩
  obtain ⟨e, rfl⟩ : ∃ e0, e = putL e0 _ := ⟨e, putL_self hE⟩
  clear hE
  simp only at hk hk2 hw hn0 hn1 ⊢
  have b12 := b1.chg hc (by simp)
  refine W.seq fun K2 hK2 => ?_
  by_cases hlt : k < on.length
  case neg =>
    rw [List.drop_eq_nil_of_le (by omega : on.length ≤ k), worthS_nil, Int.add_zero] at hw
    refine W.seq fun K hK => ?_
    refine W.region (by rfl) ?_
    refine Flow.move (v := .int _ _) rfl ?_
    refine Flow.move (v := .slice _ _ _) rfl ?_
    refine Flow.len rfl Tf.us_22 rfl rfl ?_
    refine Flow.lssD (c := false) rfl rfl (decide_eq_false (by omega)) ?_
    refine Flow.move (v := .bool _) rfl ?_
    refine Flow.off (c := false) rfl rfl rfl ?_
    refine Flow.off (c := false) rfl rfl rfl ?_
    refine Flow.off (c := false) rfl rfl rfl ?_
    refine Flow.off (c := false) rfl rfl rfl ?_
    refine Flow.off (c := false) rfl rfl rfl ?_
    refine Flow.pickF rfl rfl ?_
    refine hK _ _ _ ?_
    clear hK K
    refine W.cond (t := false) rfl (fun h => by simp at h) (fun _ => W.exit ?_)
    refine hK0 _ _ _ ?_
    refine W.seq fun K hK => ?_
    refine W.region (by rfl) ?_
    refine Flow.move (v := .int _ _) rfl ?_
    refine Flow.assign (v := .int _ _) rfl ?_
    refine hK _ _ _ ?_
    clear hK K
    exact W.ret ⟨_, res1 rfl (v := .int _ _) rfl, by rw [hw], c1.then hc⟩
  refine W.seq fun K hK => ?_
  refine W.region (by rfl) ?_
  refine Flow.move (v := .int _ _) rfl ?_
  refine Flow.move (v := .slice _ _ _) rfl ?_
  refine Flow.len rfl Tf.us_22 rfl rfl ?_
  refine Flow.lssD (c := true) rfl rfl (decide_eq_true (by omega)) ?_
  refine Flow.move (v := .bool _) rfl ?_
  refine Flow.on rfl rfl ?_
  refine Flow.move (v := .int _ _) rfl ?_
  refine Flow.on rfl rfl ?_
  refine Flow.fieldAddr Tf.fo_25_2 rfl ?_
  refine Flow.on rfl rfl ?_
  refine Flow.load1 Tf.ty_23 rfl (b12.cell 2) ?_
  refine Flow.on rfl rfl ?_
  refine Flow.len rfl Tf.us_23 rfl rfl ?_
  refine Flow.on rfl rfl ?_
  refine Flow.lss rfl rfl ?_
  refine Flow.pickT rfl rfl ?_
  refine hK _ _ _ ?_
  clear hK K
  refine W.cond rfl (fun h => W.skip (hK2 _ _ _ ?_)) (fun h => W.exit ?_)
  case refine_2 =>
    have hge : ¬ k < t.flaws.length := by simpa using h
    rw [List.drop_eq_nil_of_le (by omega : t.flaws.length ≤ k), worthS_nil2, Int.add_zero] at hw
    refine hK0 _ _ _ ?_
    refine W.seq fun K hK => ?_
    refine W.region (by rfl) ?_
    refine Flow.move (v := .int _ _) rfl ?_
    refine Flow.assign (v := .int _ _) rfl ?_
    refine hK _ _ _ ?_
    clear hK K
    exact W.ret ⟨_, res1 rfl (v := .int _ _) rfl, by rw [hw], c1.then hc⟩
  have hlt2 : k < t.flaws.length := by simpa using h
  obtain ⟨bo, oo, rfl, hcellO⟩ := (hO.ext (c1.then hc)).get hlt
  obtain ⟨bf, of_, rfl, hcellF⟩ := (hF.ext (c1.then hc)).get hlt2
  have hme := hs.me _ (List.getElem_mem hlt2)
  rw [List.drop_eq_getElem_cons hlt, List.drop_eq_getElem_cons hlt2, worthS] at hw
  refine W.seq fun K3 hK3 => ?_
  refine W.block ?_
  refine W.seq fun K hK => ?_
  refine W.region (by rfl) ?_
  refine Flow.move (v := .slice _ _ _) rfl ?_
  refine Flow.move (v := .int _ _) rfl ?_
  refine Flow.indexAddr1 Tf.sl_22 rfl rfl (by omega) (by omega) ?_
  refine Flow.load1 Tf.ty_3 rfl (hcellO k hlt) ?_
  refine Flow.geq rfl rfl ?_
  refine hK _ _ _ ?_
  clear hK K
  refine W.cond rfl (fun h => ?_) (fun h => W.skip (hK3 _ _ _ ?_))
  · have h0 : 0 ≤ on[k] := by simpa using h
    rw [if_pos h0] at hw
    refine W.region (by rfl) ?_
    refine Flow.move (v := .int _ _) rfl ?_
    refine Flow.fieldAddr Tf.fo_25_2 rfl ?_
    refine Flow.load1 Tf.ty_23 rfl (b12.cell 2) ?_
    refine Flow.move (v := .int _ _) rfl ?_
    refine Flow.indexAddr Tf.sl_23 rfl rfl (by omega) (by omega) ?_
    refine Flow.fieldAddr Tf.fo_81_2 rfl ?_
    refine Flow.load1 Tf.ty_3 rfl ((hcellF k hlt2).2.2.2.1) ?_
    refine Flow.add rfl rfl (by omega) (by omega) ?_
    refine Flow.assign (v := .int _ _) rfl ?_
    refine Flow.nil (hK3 _ _ _ ?_)
    refine W.region (by rfl) ?_
    refine Flow.move (v := .int _ _) rfl ?_
    refine Flow.add rfl rfl (by omega) (by omega) ?_
    refine Flow.assign (v := .int _ _) rfl ?_
    exact Flow.nil ⟨(k + 1, n + t.flaws[k].merit), by simp only; omega, rfl, by simp only; omega, by simp only; omega, ⟨rfl, rfl, rfl, rfl, trivial⟩, hc, by simp only; omega, by simp only; omega, by simp only; omega⟩
  · have h0 : ¬ 0 ≤ on[k] := by simpa using h
    rw [if_neg h0] at hw
    refine W.region (by rfl) ?_
    refine Flow.move (v := .int _ _) rfl ?_
    refine Flow.add rfl rfl (by omega) (by omega) ?_
    refine Flow.assign (v := .int _ _) rfl ?_
    exact Flow.nil ⟨(k + 1, n), by simp only; omega, rfl, by simp only; omega, by simp only; omega, ⟨rfl, rfl, rfl, rfl, trivial⟩, hc, by simp only; omega, by simp only; omega, by simp only; omega⟩

end Go.Proofs.YtkoejelglinmnaaGreat

/-
  Contracts: Example; head (the chapter's examples).
-/
namespace Go.Proofs.YtkoejelglinmnaaGreat
open Sg
set_option maxRecDepth 100000

def exT : Tour := ⟨5, [2], [⟨1, 0, 1, 5⟩, ⟨2, 0, 1, 3⟩, ⟨3, 1, 2, 4⟩, ⟨4, 1, 3, 2⟩, ⟨5, 3, 4, 1⟩]⟩

theorem FL.of_blk {w : World} {g : Nat} {l : List Flaw} {T : TypeId} (h : Blk w g (flawsC l) T) : FL w (some ⟨g, 0, none⟩) l := .inr ⟨g, 0, rfl, flawsC_cells.1 h.cells0⟩

set_option maxHeartbeats 1000000 in
theorem example_ok (w : World) :
    Ret Tryz.prog 67 #[] w fun v w' => Chg [] w w' ∧ ∃ ga gf, v = .agg #[.int .i64 5, .slice (some ⟨ga, 0, none⟩) 1 1, .slice (some ⟨gf, 0, none⟩) 5 5] ∧ IL w' (some ⟨ga, 0, none⟩) exT.closed ∧ FL w' (some ⟨gf, 0, none⟩) exT.flaws := by
  refine Ret.of_W (n := 14) Tryz.func67 rfl rfl (Nat.le_of_ble_eq_true rfl) ?_
  refine W.seq fun K hK => ?_
  refine W.region (by rfl) ?_
  refine Flow.alloc Tf.ty_25 (cs := [_, _, _]) rfl fun w1 c1 s1 b1 => ?_
  refine hK _ _ _ ?_
  clear hK K
  refine W.seq fun K hK => ?_
  refine W.region (by rfl) ?_
  refine Flow.buildSlice1 Tf.sl_22 Tf.us_22 rfl (by decide) (by decide) rfl (cs := [_]) rfl rfl fun w2 c2 s2 b2 => ?_
  refine Flow.buildL Tf.ty_44 Tf.pl_44 (l := [(_, _)]) (zs := [_, _]) (cs := [_, _]) rfl rfl rfl ?_
  refine Flow.buildL Tf.ty_81 Tf.pl_81 (l := [(_, _), (_, _), (_, _)]) (zs := [_, _, _, _]) (cs := [_, _, _, _]) rfl rfl rfl ?_
  refine Flow.buildL Tf.ty_44 Tf.pl_44 (l := [(_, _)]) (zs := [_, _]) (cs := [_, _]) rfl rfl rfl ?_
  refine Flow.buildL Tf.ty_81 Tf.pl_81 (l := [(_, _), (_, _), (_, _)]) (zs := [_, _, _, _]) (cs := [_, _, _, _]) rfl rfl rfl ?_
  refine Flow.buildL Tf.ty_44 Tf.pl_44 (l := [(_, _), (_, _)]) (zs := [_, _]) (cs := [_, _]) rfl rfl rfl ?_
  refine Flow.buildL Tf.ty_81 Tf.pl_81 (l := [(_, _), (_, _), (_, _)]) (zs := [_, _, _, _]) (cs := [_, _, _, _]) rfl rfl rfl ?_
  refine Flow.buildL Tf.ty_44 Tf.pl_44 (l := [(_, _), (_, _)]) (zs := [_, _]) (cs := [_, _]) rfl rfl rfl ?_
  refine Flow.buildL Tf.ty_81 Tf.pl_81 (l := [(_, _), (_, _), (_, _)]) (zs := [_, _, _, _]) (cs := [_, _, _, _]) rfl rfl rfl ?_
  refine Flow.buildL Tf.ty_44 Tf.pl_44 (l := [(_, _), (_, _)]) (zs := [_, _]) (cs := [_, _]) rfl rfl rfl ?_
  refine Flow.buildL Tf.ty_81 Tf.pl_81 (l := [(_, _), (_, _), (_, _)]) (zs := [_, _, _, _]) (cs := [_, _, _, _]) rfl rfl rfl ?_
  refine Flow.buildSliceL Tf.sl_23 Tf.us_23 (by decide) (by decide) (l := [(_, _), (_, _), (_, _), (_, _), (_, _)]) rfl (zs := [.int .i64 0, .int .i64 0, .int .i64 0, .int .i64 0, .int .i64 0, .int .i64 0, .int .i64 0, .int .i64 0, .int .i64 0, .int .i64 0, .int .i64 0, .int .i64 0, .int .i64 0, .int .i64 0, .int .i64 0, .int .i64 0, .int .i64 0, .int .i64 0, .int .i64 0, .int .i64 0]) (by kernel_rfl) (cs := [_, _, _, _, _, _, _, _, _, _, _, _, _, _, _, _, _, _, _, _]) rfl fun w3 c3 s3 b3 => ?_
  refine Flow.buildL Tf.ty_25 Tf.pl_25 (l := [(_, _), (_, _), (_, _)]) (zs := [_, _, _]) (cs := [_, _, _]) rfl rfl rfl ?_
  refine Flow.store Tf.ty_25 rfl rfl (b1.chg (c2.then c3) (by simp)) (vs := [_, _, _]) rfl rfl (by simp) rfl fun w4 c4 s4 b4 => ?_
  refine hK _ _ _ ?_
  clear hK K
  have b24 := (b2.chg c3 (by simp)).chg c4 (by simp; omega)
  have b34 := b3.chg c4 (by simp; omega)
  exact W.ret ⟨_, resG1 rfl (OneR.cellA Tf.ty_25 rfl (l := [_, _, _]) rfl b4.cells0), (c1.then (c2.then c3)).step c4 (by simp), w1.heap.size, w2.heap.size, rfl, b2il (l := [2]) b24, FL.of_blk (l := exT.flaws) b34⟩

end Go.Proofs.YtkoejelglinmnaaGreat

/-
  The chapter's examples: what the specifications say of them.
-/
namespace Go.Proofs.YtkoejelglinmnaaGreat
set_option maxRecDepth 100000

theorem ex_chk : chk exT = 0 := by kernel_rfl
theorem ex_on : bestOn exT = [0, -1, 1, 3, 4] := by kernel_rfl
theorem ex_merit : meritR exT = 12 := by kernel_rfl
theorem ex_jam : jamF exT [1, 2, 3] = some (0, 2) := by kernel_rfl
theorem ex_jamE : flawsE exT [1, 2, 3] = 0 := by kernel_rfl
theorem ex_sureA : surelyA exT = [1, 3, 4, 5] := by kernel_rfl
theorem ex_sureB : surelyB exT = [1, 3, 4, 5] := by kernel_rfl
theorem ex_days : daysR exT 1 = [0] := by kernel_rfl
theorem ex_daysE : idE exT 1 = 0 := by kernel_rfl
theorem ex_earliest : earliestR exT = [0, -1, 1, 3, 4] := by kernel_rfl
theorem ex_gain : gainR exT 2 = 3 := by kernel_rfl
theorem ex_gainE : dayE exT 2 = 0 := by kernel_rfl
theorem ex_lost : lostR exT 4 = 1 := by kernel_rfl
theorem ex_lostE : dayE exT 4 = 0 := by kernel_rfl
theorem ex_wider : widerR exT 2 0 4 = 2 := by kernel_rfl
theorem ex_widerE : widerE exT 2 0 4 = 0 := by kernel_rfl
theorem ex_spread : spreadL exT [0, -1, 1, 3, 4] [⟨8, 1, [1, 2, 3]⟩] = [[2, 3]] := by kernel_rfl
theorem ex_spreadE : spreadE exT [0, -1, 1, 3, 4] [⟨8, 1, [1, 2, 3]⟩] = 0 := by kernel_rfl

end Go.Proofs.YtkoejelglinmnaaGreat

/-
  The program logic: structs held against each other.
-/
namespace Go.Proofs.YtkoejelglinmnaaGreat
namespace Sg

/-- A struct type of two ints. -/
structure PairTy (P : Program) (t ti : TypeId) : Prop where
  ex : ∃ n0 n1 e0 e1 g0 g1 k0 k1 b0 b1, P.underlying t = some (.struct #[⟨n0, ti, 0, e0, g0, k0, b0⟩, ⟨n1, ti, 1, e1, g1, k1, b1⟩]) ∧ n0 ≠ "_" ∧ n1 ≠ "_"
  ti : ∃ k, P.underlying ti = some (.int k)
  st : P.stoodInHeld t = false
  gd : P.eqGuardType P.depth t = false

section
variable {P : Program} {n : Nat} {rest : List Oper} {A : Array Oper} {e : Env} {w : World} {K : Env → World → Prop} {d : Option Tmp} {ty : TypeId} {pos : String} {aft : Array Edge}

theorem run_equalInt {ti : TypeId} {k : IntKind} (hk : P.underlying ti = some (.int k)) (m : Nat) (a b : Int) : (Op.equalIn (m + 1) ti (.int .i64 a) (.int .i64 b)).run P w = .ok (a == b) w := by
  simp [Op.equalIn, Sem.run_bind, Go.run_underlying hk, Result.andThen, pure, Sem.run]

theorem run_partInt {ti : TypeId} {k : IntKind} (hk : P.underlying ti = some (.int k)) (cs : Array Value) (o : Nat) (v : Value) (h : cs[o]? = some v) : (part ti cs o).run P w = .ok v w := by
  simp [part, isAgg, Sem.run_bind, Go.run_underlying hk, Result.andThen, pure, Sem.run, h]

theorem run_equalPair {t ti : TypeId} (ht : PairTy P t ti) (m : Nat) (a b c f : Int) : (Op.equalIn (m + 2) t (.agg #[.int .i64 a, .int .i64 b]) (.agg #[.int .i64 c, .int .i64 f])).run P w = .ok (a == c && b == f) w := by
  obtain ⟨n0, n1, e0, e1, g0, g1, k0, k1, b0, b1, hu, h0, h1⟩ := ht.ex
  obtain ⟨k, hk⟩ := ht.ti
  have p0 : ∀ x y : Int, (part ti #[.int .i64 x, .int .i64 y] 0).run P w = .ok (.int .i64 x) w := fun x y => run_partInt hk _ _ _ rfl
  have p1 : ∀ x y : Int, (part ti #[.int .i64 x, .int .i64 y] 1).run P w = .ok (.int .i64 y) w := fun x y => run_partInt hk _ _ _ rfl
  have q := fun x y : Int => run_equalInt (P := P) (w := w) hk m x y
  unfold Op.equalIn
  simp only [Sem.run_bind, Go.run_underlying hu, Result.andThen]
  simp [program, Sem.run_bind, Sem.run, Result.andThen, ht.st, h0, h1, p0, p1, q, pure]
  by_cases h : a = c
  · by_cases h' : b = f <;> simp [h, h', p0, p1, q, Result.andThen, Sem.run, Sem.run_bind, pure]
  · simp [h, Result.andThen, Sem.run, pure]

theorem Flow.eqPair {t t' ti : TypeId} {x y : Operand} {a b c f : Int} (ht : PairTy P t ti) (hx : ev n e x = .agg #[.int .i64 a, .int .i64 b]) (hy : ev n e y = .agg #[.int .i64 c, .int .i64 f]) (h : Flow P n A rest (updO e d (.bool (a == c && b == f))) w K) :
    Flow P n A (⟨d, .binOp .eql t x y t', ty, pos, aft, none⟩ :: rest) e w K := by
  refine Flow.val rfl (v := .bool (a == c && b == f)) (w' := w) ?_ h
  have hd : Op.maxDepth = 9998 + 2 := rfl
  have hr := run_equalPair (w := w) ht 9998 a b c f
  rw [← hd] at hr
  simp only [execOp, hx, hy, eqGuard, binOp, Op.equal]
  simp [Sem.run_bind, hr, Result.andThen, pure, Sem.run, ht.gd]

theorem Flow.nePair {t t' ti : TypeId} {x y : Operand} {a b c f : Int} (ht : PairTy P t ti) (hx : ev n e x = .agg #[.int .i64 a, .int .i64 b]) (hy : ev n e y = .agg #[.int .i64 c, .int .i64 f]) (h : Flow P n A rest (updO e d (.bool (!(a == c && b == f)))) w K) :
    Flow P n A (⟨d, .binOp .neq t x y t', ty, pos, aft, none⟩ :: rest) e w K := by
  refine Flow.val rfl (v := .bool (!(a == c && b == f))) (w' := w) ?_ h
  have hd : Op.maxDepth = 9998 + 2 := rfl
  have hr := run_equalPair (w := w) ht 9998 a b c f
  rw [← hd] at hr
  simp only [execOp, hx, hy, eqGuard, binOp, Op.equal]
  simp [Sem.run_bind, hr, Result.andThen, pure, Sem.run, ht.gd]

def pairTyB (P : Program) (t ti : TypeId) : Bool :=
  (match P.underlying t with
   | some (.struct fs) => match fs.toList with
     | [f0, f1] => (f0.type == ti && f0.offset == 0 && f0.name != "_") && (f1.type == ti && f1.offset == 1 && f1.name != "_")
     | _ => false
   | _ => false) && (match P.underlying ti with | some (.int _) => true | _ => false) && !P.stoodInHeld t && !P.eqGuardType P.depth t

theorem PairTy.lay {t ti : TypeId} (h : pairTyB P t ti = true) : PairTy P t ti := by
  simp only [pairTyB, Bool.and_eq_true] at h
  obtain ⟨⟨⟨h1, h2⟩, h3⟩, h4⟩ := h
  refine ⟨?_, ?_, by simpa using h3, by simpa using h4⟩
  · cases hu : P.underlying t with
    | none => rw [hu] at h1; cases h1
    | some dd =>
      rw [hu] at h1
      cases dd <;> simp only at h1 <;> try cases h1
      rename_i fs
      obtain ⟨fs⟩ := fs
      match fs, h1 with
      | [⟨n0, t0, o0, e0, g0, k0, b0⟩, ⟨n1, t1, o1, e1, g1, k1, b1⟩], hh =>
        simp at hh
        obtain ⟨⟨⟨rfl, rfl⟩, q0⟩, ⟨rfl, rfl⟩, q1⟩ := hh
        exact ⟨n0, n1, e0, e1, g0, g1, k0, k1, b0, b1, rfl, q0, q1⟩
  · cases hu : P.underlying ti with
    | none => rw [hu] at h2; cases h2
    | some dd =>
      rw [hu] at h2
      cases dd <;> simp only at h2 <;> first | exact ⟨_, rfl⟩ | cases h2

theorem pair_span : PairTy Tryz.prog 44 3 := PairTy.lay (by kernel_rfl)

end
end Sg
end Go.Proofs.YtkoejelglinmnaaGreat

/-
  Contract: head (the chapter's examples).
-/
namespace Go.Proofs.YtkoejelglinmnaaGreat
open Sg
set_option maxRecDepth 100000


/-- What of a frame is still wanted. -/
theorem W.forget {P : Program} {n : Nat} {r : Option Nat} {c : Code} {q : Post} {ds : List Nat} {e : Env} {w : World} (l : List (Nat × Value)) (h : AllAt e l) (k : ∀ e, W P n r c q ds (putL e l) w) : W P n r c q ds e w := by
  rw [putL_self h]; exact k e

theorem exBest_ok (w : World) (ga gf : Nat) (hC : IL w (some ⟨ga, 0, none⟩) exT.closed) (hF : FL w (some ⟨gf, 0, none⟩) exT.flaws) : Ret Tryz.prog 43 #[.agg #[.int .i64 5, .slice (some ⟨ga, 0, none⟩) 1 1, .slice (some ⟨gf, 0, none⟩) 5 5]] w fun v w' => Chg [] w w' ∧ ∃ ao co ar nr cr, v = .tuple #[.agg #[.slice ao 5 co, .int .i64 12, .slice ar nr cr], .int .i64 0] ∧ IL w' ao [0, -1, 1, 3, 4] := by
  refine Ret.mono (Best_ok w exT _ _ 1 5 hC hF (by decide) (by decide) (fun _ => by decide)) ?_
  rintro v w' ⟨hc, m, rfl, ao, co, ar, cr, rfl, hO, hR⟩
  rw [ex_on] at hO ⊢
  rw [ex_merit, ex_chk]
  exact ⟨hc, ao, co, ar, _, cr, rfl, hO⟩

theorem exMerit_ok (w : World) (ga gf : Nat) (hC : IL w (some ⟨ga, 0, none⟩) exT.closed) (hF : FL w (some ⟨gf, 0, none⟩) exT.flaws) : Ret Tryz.prog 44 #[.agg #[.int .i64 5, .slice (some ⟨ga, 0, none⟩) 1 1, .slice (some ⟨gf, 0, none⟩) 5 5]] w fun v w' => v = .tuple #[.int .i64 12, .int .i64 0] ∧ Chg [] w w' := by
  refine Ret.mono (Merit_ok w exT _ _ 1 5 hC hF (by decide) (by decide) (fun _ => by decide)) ?_
  rintro v w' ⟨rfl, hc⟩
  rw [ex_merit, ex_chk]
  exact ⟨rfl, hc⟩

theorem exJam_ok (w : World) (ga gf : Nat) (hC : IL w (some ⟨ga, 0, none⟩) exT.closed) (hF : FL w (some ⟨gf, 0, none⟩) exT.flaws) (g : Nat) (hI : IL w (some ⟨g, 0, none⟩) [1, 2, 3]) : Ret Tryz.prog 39 #[.agg #[.int .i64 5, .slice (some ⟨ga, 0, none⟩) 1 1, .slice (some ⟨gf, 0, none⟩) 5 5], .slice (some ⟨g, 0, none⟩) 3 3] w fun v w' => v = .tuple #[.agg #[.int .i64 0, .int .i64 2], .bool true, .int .i64 0] ∧ Chg [] w w' := by
  refine Ret.mono (Jam_ok w exT _ _ 1 5 (some ⟨g, 0, none⟩) 3 [1, 2, 3] hC hF (by decide) (by decide) hI (by decide)) ?_
  rintro v w' ⟨rfl, hc⟩
  rw [ex_jam, ex_jamE]
  exact ⟨rfl, hc⟩

theorem exSurely_ok (w : World) (ga gf : Nat) (hC : IL w (some ⟨ga, 0, none⟩) exT.closed) (hF : FL w (some ⟨gf, 0, none⟩) exT.flaws) : Ret Tryz.prog 16 #[.agg #[.int .i64 5, .slice (some ⟨ga, 0, none⟩) 1 1, .slice (some ⟨gf, 0, none⟩) 5 5]] w fun v w' => Chg [] w w' ∧ ∃ a c a' c', v = .tuple #[.slice a 4 c, .slice a' 4 c', .int .i64 0] ∧ IL w' a [1, 3, 4, 5] ∧ IL w' a' [1, 3, 4, 5] := by
  refine Ret.mono (Surely_ok w exT _ _ 1 5 hC hF (by decide) (by decide) (fun _ => by decide)) ?_
  rintro v w' ⟨hc, a, c, a', c', rfl, h1, h2⟩
  rw [ex_sureA] at h1 ⊢
  rw [ex_sureB] at h2 ⊢
  rw [ex_chk]
  exact ⟨hc, a, c, a', c', rfl, h1, h2⟩

theorem exDays_ok (w : World) (ga gf : Nat) (hC : IL w (some ⟨ga, 0, none⟩) exT.closed) (hF : FL w (some ⟨gf, 0, none⟩) exT.flaws) : Ret Tryz.prog 18 #[.agg #[.int .i64 5, .slice (some ⟨ga, 0, none⟩) 1 1, .slice (some ⟨gf, 0, none⟩) 5 5], .int .i64 1] w fun v w' => Chg [] w w' ∧ ∃ a c, v = .tuple #[.slice a 1 c, .int .i64 0] ∧ IL w' a [0] := by
  refine Ret.mono (Days_ok w exT _ _ 1 5 1 hC hF (by decide) (by decide) (fun _ => by decide)) ?_
  rintro v w' ⟨hc, a, c, rfl, h1⟩
  rw [ex_days] at h1 ⊢
  rw [ex_daysE]
  exact ⟨hc, a, c, rfl, h1.il⟩

theorem exEarliest_ok (w : World) (ga gf : Nat) (hC : IL w (some ⟨ga, 0, none⟩) exT.closed) (hF : FL w (some ⟨gf, 0, none⟩) exT.flaws) : Ret Tryz.prog 20 #[.agg #[.int .i64 5, .slice (some ⟨ga, 0, none⟩) 1 1, .slice (some ⟨gf, 0, none⟩) 5 5]] w fun v w' => Chg [] w w' ∧ ∃ a c, v = .tuple #[.slice a 5 c, .int .i64 0] ∧ IL w' a [0, -1, 1, 3, 4] := by
  refine Ret.mono (Earliest_ok w exT _ _ 1 5 hC hF (by decide) (by decide) (fun _ => by decide)) ?_
  rintro v w' ⟨hc, a, c, rfl, h1⟩
  rw [ex_earliest] at h1 ⊢
  rw [ex_chk]
  exact ⟨hc, a, c, rfl, h1.il⟩

theorem exGain_ok (w : World) (ga gf : Nat) (hC : IL w (some ⟨ga, 0, none⟩) exT.closed) (hF : FL w (some ⟨gf, 0, none⟩) exT.flaws) : Ret Tryz.prog 23 #[.agg #[.int .i64 5, .slice (some ⟨ga, 0, none⟩) 1 1, .slice (some ⟨gf, 0, none⟩) 5 5], .int .i64 2] w fun v w' => v = .tuple #[.int .i64 3, .int .i64 0] ∧ Chg [] w w' := by
  refine Ret.mono (Gain_ok w exT _ _ 1 5 2 hC hF (by decide) (by decide) (fun _ => by decide)) ?_
  rintro v w' ⟨rfl, hc⟩
  rw [ex_gain, ex_gainE]
  exact ⟨rfl, hc⟩

theorem exLost_ok (w : World) (ga gf : Nat) (hC : IL w (some ⟨ga, 0, none⟩) exT.closed) (hF : FL w (some ⟨gf, 0, none⟩) exT.flaws) : Ret Tryz.prog 25 #[.agg #[.int .i64 5, .slice (some ⟨ga, 0, none⟩) 1 1, .slice (some ⟨gf, 0, none⟩) 5 5], .int .i64 4] w fun v w' => v = .tuple #[.int .i64 1, .int .i64 0] ∧ Chg [] w w' := by
  refine Ret.mono (Lost_ok w exT _ _ 1 5 4 hC hF (by decide) (by decide) (fun _ => by decide)) ?_
  rintro v w' ⟨rfl, hc⟩
  rw [ex_lost, ex_lostE]
  exact ⟨rfl, hc⟩

theorem exWider_ok (w : World) (ga gf : Nat) (hC : IL w (some ⟨ga, 0, none⟩) exT.closed) (hF : FL w (some ⟨gf, 0, none⟩) exT.flaws) : Ret Tryz.prog 27 #[.agg #[.int .i64 5, .slice (some ⟨ga, 0, none⟩) 1 1, .slice (some ⟨gf, 0, none⟩) 5 5], .int .i64 2, .agg #[.int .i64 0, .int .i64 4]] w fun v w' => v = .tuple #[.int .i64 2, .int .i64 0] ∧ Chg [] w w' := by
  refine Ret.mono (Wider_ok w exT _ _ 1 5 2 0 4 hC hF (by decide) (by decide) (fun _ => by decide)) ?_
  rintro v w' ⟨rfl, hc⟩
  rw [ex_wider, ex_widerE]
  exact ⟨rfl, hc⟩

theorem exSpread_ok (w : World) (ga gf : Nat) (hC : IL w (some ⟨ga, 0, none⟩) exT.closed) (hF : FL w (some ⟨gf, 0, none⟩) exT.flaws) (ao : Option Addr) (co : Nat) (ar : Option Addr) (nr cr g g2 : Nat) (T : TypeId) (hO : IL w ao [0, -1, 1, 3, 4]) (hI : IL w (some ⟨g, 0, none⟩) [1, 2, 3]) (hB : Blk w g2 [.int .i64 8, .int .i64 1, .slice (some ⟨g, 0, none⟩) 3 3] T) :
    Ret Tryz.prog 30 #[.agg #[.int .i64 5, .slice (some ⟨ga, 0, none⟩) 1 1, .slice (some ⟨gf, 0, none⟩) 5 5], .agg #[.slice ao 5 co, .int .i64 12, .slice ar nr cr], .slice (some ⟨g2, 0, none⟩) 1 1] w fun v w' => Chg [] w w' ∧ ∃ a c, v = .tuple #[.slice a 1 c, .int .i64 0] ∧ LL w' a [[2, 3]] := by
  refine Ret.mono (Spread_ok w exT _ _ 1 5 ao co [0, -1, 1, 3, 4] 12 ar nr cr (some ⟨g2, 0, none⟩) 1 [⟨8, 1, [1, 2, 3]⟩] hC hF (by decide) (by decide) hO (.inr ⟨g2, 0, rfl, fun i hi => ?_⟩) (by decide) (by simp)) ?_
  · obtain rfl : i = 0 := by simp at hi; omega
    exact ⟨some ⟨g, 0, none⟩, 3, hB.cells0, hI⟩
  · rintro v w' ⟨hc, a, c, rfl, h1⟩
    rw [ex_spread] at h1 ⊢
    rw [ex_spreadE]
    exact ⟨hc, a, c, rfl, h1⟩

theorem sameT_ok (w : World) (a b : Option Addr) (ca cb n : Nat) (l : List Int) (hn : l.length = n) (hl : IL w a l) (hm : IL w b l) (hs : n ≤ 1000) :
    Ret Tryz.prog 22 #[.slice a n ca, .slice b n cb] w fun v w' => v = .bool true ∧ Chg [] w w' := by
  subst hn
  refine Ret.mono (sameInts_ok w a b ca cb l l hl hm (by omega) (by omega)) ?_
  rintro v w' ⟨rfl, hc⟩
  exact ⟨by simp, hc⟩

set_option maxHeartbeats 2000000 in
theorem head_ok (w : World) : Ret Tryz.prog 14 #[] w fun v w' => v = .bool true ∧ Chg [] w w' := by
  refine Ret.of_W (n := 185) Tryz.func14 rfl rfl (Nat.le_of_ble_eq_true rfl) ?_
  refine W.seq fun K hK => ?_
  refine W.region (by rfl) ?_
  refine Flow.assignC ?_
  refine hK _ _ _ ?_
  clear hK K
  refine W.seq fun K hK => ?_
  refine W.region (by rfl) ?_
  refine Flow.call0 Tf.hb_67  ?_
  refine Ret.mono (example_ok _) ?_
  rintro _ w1 ⟨c1, ga, gf, rfl, hC1, hF1⟩
  refine Flow.alloc Tf.ty_25 (cs := [_, _, _]) rfl fun w2 c2 s2 b2 => ?_
  refine Flow.store Tf.ty_25 rfl rfl (b2) (vs := [_, _, _]) rfl rfl (by simp) rfl fun w3 c3 s3 b3 => ?_
  refine hK _ _ _ ?_
  clear hK K
  have e13 : Chg [] w1 w3 := c2.step c3 (by simp)
  have hC := hC1.ext e13
  have hF := hF1.ext e13
  refine W.seq fun K hK => ?_
  refine W.region (by rfl) ?_
  refine Flow.loadA Tf.ty_25 rfl rfl (b3.cells0) ?_
  refine Flow.call1 Tf.hb_43 (v1 := .agg _) rfl ?_
  refine Ret.mono (exBest_ok _ ga gf hC hF) ?_
  rintro _ w4 ⟨c4, ao, co, ar, nr, cr, rfl, hO⟩
  refine Flow.move (v := .tuple _) rfl ?_
  refine Flow.extract (v := .agg _) rfl rfl ?_
  refine Flow.extract (v := .int _ _) rfl rfl ?_
  refine Flow.alloc Tf.ty_51 (cs := [_, _, _]) rfl fun w5 c5 s5 b5 => ?_
  refine Flow.store Tf.ty_51 rfl rfl (b5) (vs := [_, _, _]) rfl rfl (by simp) rfl fun w6 c6 s6 b6 => ?_
  refine Flow.assign (v := .int _ _) rfl ?_
  refine hK _ _ _ ?_
  clear hK K
  have d6 : Chg [] w3 w6 := (c4.then c5).step c6 (by have := c4.size; simp; omega)
  have hO6 := hO.ext (c5.step c6 (by simp) : Chg [] w4 w6)
  refine W.forget [(1, .pointer (some ⟨w1.heap.size, 0, none⟩)), (2, .pointer (some ⟨w4.heap.size, 0, none⟩)), (3, .int .i64 0)] ⟨rfl, rfl, rfl, trivial⟩ fun e => ?_
  refine W.seq fun K hK => ?_
  refine W.region (by rfl) ?_
  refine Flow.loadA Tf.ty_25 rfl rfl ((b3.chg d6 (by simp)).cells0) ?_
  refine Flow.call1 Tf.hb_44 (v1 := .agg _) rfl ?_
  refine Ret.mono (exMerit_ok _ ga gf (hC.ext d6) (hF.ext d6)) ?_
  rintro _ w7 ⟨rfl, c7⟩
  refine Flow.move (v := .tuple _) rfl ?_
  refine Flow.extract (v := .int _ _) rfl rfl ?_
  refine Flow.extract (v := .int _ _) rfl rfl ?_
  refine Flow.assign (v := .int _ _) rfl ?_
  refine Flow.assign (v := .int _ _) rfl ?_
  refine hK _ _ _ ?_
  clear hK K
  have d7 := d6.then c7
  refine W.seq fun K hK => ?_
  refine W.region (by rfl) ?_
  refine Flow.loadA Tf.ty_25 rfl rfl ((b3.chg d7 (by simp)).cells0) ?_
  refine Flow.buildSliceL Tf.sl_22 Tf.us_22 (by decide) (by decide) (l := [(_, _), (_, _), (_, _)]) rfl (zs := [.int .i64 0, .int .i64 0, .int .i64 0]) (by kernel_rfl) (cs := [_, _, _]) rfl fun w8 c8 s8 b8 => ?_
  refine Flow.call2 Tf.hb_39 (v1 := .agg _) rfl (v2 := .slice _ _ _) rfl ?_
  refine Ret.mono (exJam_ok _ ga gf (hC.ext (d7.then c8)) (hF.ext (d7.then c8)) _ (b2il (l := [1, 2, 3]) b8)) ?_
  rintro _ w9 ⟨rfl, c9⟩
  refine Flow.move (v := .tuple _) rfl ?_
  refine Flow.extract (v := .agg _) rfl rfl ?_
  refine Flow.extract (v := .bool _) rfl rfl ?_
  refine Flow.extract (v := .int _ _) rfl rfl ?_
  refine Flow.alloc Tf.ty_44 (cs := [_, _]) rfl fun w10 c10 s10 b10 => ?_
  refine Flow.store Tf.ty_44 rfl rfl (b10) (vs := [_, _]) rfl rfl (by simp) rfl fun w11 c11 s11 b11 => ?_
  refine Flow.assign (v := .bool _) rfl ?_
  refine Flow.assign (v := .int _ _) rfl ?_
  refine hK _ _ _ ?_
  clear hK K
  have z8 := c8.size
  have z9 := c9.size
  have d711 : Chg [] w7 w11 := (c8.then (c9.then c10)).step c11 (by simp; omega)
  have d11 := d7.then d711
  refine W.forget [(1, .pointer (some ⟨w1.heap.size, 0, none⟩)), (2, .pointer (some ⟨w4.heap.size, 0, none⟩)), (3, .int .i64 0), (4, .int .i64 12), (5, .int .i64 0), (6, .pointer (some ⟨w9.heap.size, 0, none⟩)), (7, .bool true), (8, .int .i64 0)] ⟨rfl, rfl, rfl, rfl, rfl, rfl, rfl, rfl, trivial⟩ fun e => ?_
  refine W.seq fun K hK => ?_
  refine W.region (by rfl) ?_
  refine Flow.loadA Tf.ty_25 rfl rfl ((b3.chg d11 (by simp)).cells0) ?_
  refine Flow.call1 Tf.hb_16 (v1 := .agg _) rfl ?_
  refine Ret.mono (exSurely_ok _ ga gf (hC.ext d11) (hF.ext d11)) ?_
  rintro _ w12 ⟨c12, a1, k1, a2, k2, rfl, hA, hB⟩
  refine Flow.move (v := .tuple _) rfl ?_
  refine Flow.extract (v := .slice _ _ _) rfl rfl ?_
  refine Flow.extract (v := .slice _ _ _) rfl rfl ?_
  refine Flow.extract (v := .int _ _) rfl rfl ?_
  refine Flow.assign (v := .slice _ _ _) rfl ?_
  refine Flow.assign (v := .slice _ _ _) rfl ?_
  refine Flow.assign (v := .int _ _) rfl ?_
  refine hK _ _ _ ?_
  clear hK K
  have d12 := d11.then c12
  refine W.seq fun K hK => ?_
  refine W.region (by rfl) ?_
  refine Flow.loadA Tf.ty_25 rfl rfl ((b3.chg d12 (by simp)).cells0) ?_
  refine Flow.call2 Tf.hb_18 (v1 := .agg _) rfl (v2 := .int _ _) rfl ?_
  refine Ret.mono (exDays_ok _ ga gf (hC.ext d12) (hF.ext d12)) ?_
  rintro _ w13 ⟨c13, a3, k3, rfl, hD⟩
  refine Flow.move (v := .tuple _) rfl ?_
  refine Flow.extract (v := .slice _ _ _) rfl rfl ?_
  refine Flow.extract (v := .int _ _) rfl rfl ?_
  refine Flow.assign (v := .slice _ _ _) rfl ?_
  refine Flow.assign (v := .int _ _) rfl ?_
  refine hK _ _ _ ?_
  clear hK K
  have d13 := d12.then c13
  refine W.seq fun K hK => ?_
  refine W.region (by rfl) ?_
  refine Flow.loadA Tf.ty_25 rfl rfl ((b3.chg d13 (by simp)).cells0) ?_
  refine Flow.call1 Tf.hb_20 (v1 := .agg _) rfl ?_
  refine Ret.mono (exEarliest_ok _ ga gf (hC.ext d13) (hF.ext d13)) ?_
  rintro _ w14 ⟨c14, a4, k4, rfl, hE⟩
  refine Flow.move (v := .tuple _) rfl ?_
  refine Flow.extract (v := .slice _ _ _) rfl rfl ?_
  refine Flow.extract (v := .int _ _) rfl rfl ?_
  refine Flow.assign (v := .slice _ _ _) rfl ?_
  refine Flow.assign (v := .int _ _) rfl ?_
  refine hK _ _ _ ?_
  clear hK K
  have d14 := d13.then c14
  refine W.forget [(1, .pointer (some ⟨w1.heap.size, 0, none⟩)), (2, .pointer (some ⟨w4.heap.size, 0, none⟩)), (3, .int .i64 0), (4, .int .i64 12), (5, .int .i64 0), (6, .pointer (some ⟨w9.heap.size, 0, none⟩)), (7, .bool true), (8, .int .i64 0), (9, .slice a1 4 k1), (10, .slice a2 4 k2), (11, .int .i64 0), (12, .slice a3 1 k3), (13, .int .i64 0), (14, .slice a4 5 k4), (15, .int .i64 0)] ⟨rfl, rfl, rfl, rfl, rfl, rfl, rfl, rfl, rfl, rfl, rfl, rfl, rfl, rfl, rfl, trivial⟩ fun e => ?_
  refine W.seq fun K hK => ?_
  refine W.region (by rfl) ?_
  refine Flow.loadA Tf.ty_25 rfl rfl ((b3.chg d14 (by simp)).cells0) ?_
  refine Flow.call2 Tf.hb_23 (v1 := .agg _) rfl (v2 := .int _ _) rfl ?_
  refine Ret.mono (exGain_ok _ ga gf (hC.ext d14) (hF.ext d14)) ?_
  rintro _ w15 ⟨rfl, c15⟩
  refine Flow.move (v := .tuple _) rfl ?_
  refine Flow.extract (v := .int _ _) rfl rfl ?_
  refine Flow.extract (v := .int _ _) rfl rfl ?_
  refine Flow.assign (v := .int _ _) rfl ?_
  refine Flow.assign (v := .int _ _) rfl ?_
  refine hK _ _ _ ?_
  clear hK K
  have d15 := d14.then c15
  refine W.seq fun K hK => ?_
  refine W.region (by rfl) ?_
  refine Flow.loadA Tf.ty_25 rfl rfl ((b3.chg d15 (by simp)).cells0) ?_
  refine Flow.call2 Tf.hb_25 (v1 := .agg _) rfl (v2 := .int _ _) rfl ?_
  refine Ret.mono (exLost_ok _ ga gf (hC.ext d15) (hF.ext d15)) ?_
  rintro _ w16 ⟨rfl, c16⟩
  refine Flow.move (v := .tuple _) rfl ?_
  refine Flow.extract (v := .int _ _) rfl rfl ?_
  refine Flow.extract (v := .int _ _) rfl rfl ?_
  refine Flow.assign (v := .int _ _) rfl ?_
  refine Flow.assign (v := .int _ _) rfl ?_
  refine hK _ _ _ ?_
  clear hK K
  have d16 := d15.then c16
  refine W.seq fun K hK => ?_
  refine W.region (by rfl) ?_
  refine Flow.loadA Tf.ty_25 rfl rfl ((b3.chg d16 (by simp)).cells0) ?_
  refine Flow.buildL Tf.ty_44 Tf.pl_44 (l := [(_, _)]) (zs := [_, _]) (cs := [_, _]) rfl rfl rfl ?_
  refine Flow.call3 Tf.hb_27 (v1 := .agg _) rfl (v2 := .int _ _) rfl (v3 := .agg _) rfl ?_
  refine Ret.mono (exWider_ok _ ga gf (hC.ext d16) (hF.ext d16)) ?_
  rintro _ w17 ⟨rfl, c17⟩
  refine Flow.move (v := .tuple _) rfl ?_
  refine Flow.extract (v := .int _ _) rfl rfl ?_
  refine Flow.extract (v := .int _ _) rfl rfl ?_
  refine Flow.assign (v := .int _ _) rfl ?_
  refine Flow.assign (v := .int _ _) rfl ?_
  refine hK _ _ _ ?_
  clear hK K
  have d17 := d16.then c17
  have d617 : Chg [] w6 w17 := (c7.then d711).then (c12.then (c13.then (c14.then (c15.then (c16.then c17)))))
  refine W.forget [(1, .pointer (some ⟨w1.heap.size, 0, none⟩)), (2, .pointer (some ⟨w4.heap.size, 0, none⟩)), (3, .int .i64 0), (4, .int .i64 12), (5, .int .i64 0), (6, .pointer (some ⟨w9.heap.size, 0, none⟩)), (7, .bool true), (8, .int .i64 0), (9, .slice a1 4 k1), (10, .slice a2 4 k2), (11, .int .i64 0), (12, .slice a3 1 k3), (13, .int .i64 0), (14, .slice a4 5 k4), (15, .int .i64 0), (16, .int .i64 3), (17, .int .i64 0), (18, .int .i64 1), (19, .int .i64 0), (20, .int .i64 2), (21, .int .i64 0)] ⟨rfl, rfl, rfl, rfl, rfl, rfl, rfl, rfl, rfl, rfl, rfl, rfl, rfl, rfl, rfl, rfl, rfl, rfl, rfl, rfl, rfl, trivial⟩ fun e => ?_
  refine W.seq fun K hK => ?_
  refine W.region (by rfl) ?_
  refine Flow.loadA Tf.ty_25 rfl rfl ((b3.chg d17 (by simp)).cells0) ?_
  refine Flow.loadA Tf.ty_51 rfl rfl ((b6.chg d617 (by simp)).cells0) ?_
  refine Flow.buildSliceL Tf.sl_22 Tf.us_22 (by decide) (by decide) (l := [(_, _), (_, _), (_, _)]) rfl (zs := [.int .i64 0, .int .i64 0, .int .i64 0]) (by kernel_rfl) (cs := [_, _, _]) rfl fun w18 c18 s18 b18 => ?_
  refine Flow.buildL Tf.ty_55 Tf.pl_55 (l := [(_, _), (_, _), (_, _)]) (zs := [_, _, _]) (cs := [_, _, _]) rfl rfl rfl ?_
  refine Flow.buildSlice1 Tf.sl_52 Tf.us_52 rfl (by decide) (by decide) rfl (cs := [_, _, _]) rfl rfl fun w19 c19 s19 b19 => ?_
  refine Flow.call3 Tf.hb_30 (v1 := .agg _) rfl (v2 := .agg _) rfl (v3 := .slice _ _ _) rfl ?_
  refine Ret.mono (exSpread_ok _ ga gf (hC.ext (d17.then (c18.then c19))) (hF.ext (d17.then (c18.then c19))) ao co ar nr cr _ _ _ (hO6.ext (d617.then (c18.then c19))) ((b2il (l := [1, 2, 3]) b18).ext c19) b19) ?_
  rintro _ w20 ⟨c20, a5, k5, rfl, hL⟩
  refine Flow.move (v := .tuple _) rfl ?_
  refine Flow.extract (v := .slice _ _ _) rfl rfl ?_
  refine Flow.extract (v := .int _ _) rfl rfl ?_
  refine Flow.assign (v := .slice _ _ _) rfl ?_
  refine Flow.assign (v := .int _ _) rfl ?_
  refine hK _ _ _ ?_
  clear hK K
  have d1720 := c18.then (c19.then c20)
  have d620 := d617.then d1720
  refine W.forget [(1, .pointer (some ⟨w1.heap.size, 0, none⟩)), (2, .pointer (some ⟨w4.heap.size, 0, none⟩)), (3, .int .i64 0), (4, .int .i64 12), (5, .int .i64 0), (6, .pointer (some ⟨w9.heap.size, 0, none⟩)), (7, .bool true), (8, .int .i64 0), (9, .slice a1 4 k1), (10, .slice a2 4 k2), (11, .int .i64 0), (12, .slice a3 1 k3), (13, .int .i64 0), (14, .slice a4 5 k4), (15, .int .i64 0), (16, .int .i64 3), (17, .int .i64 0), (18, .int .i64 1), (19, .int .i64 0), (20, .int .i64 2), (21, .int .i64 0), (22, .slice a5 1 k5), (23, .int .i64 0)] ⟨rfl, rfl, rfl, rfl, rfl, rfl, rfl, rfl, rfl, rfl, rfl, rfl, rfl, rfl, rfl, rfl, rfl, rfl, rfl, rfl, rfl, rfl, rfl, trivial⟩ fun e => ?_
  refine W.seq fun K12 hK12 => ?_
  refine W.seq fun K hK => ?_
  refine W.region (by rfl) ?_
  refine Flow.move (v := .int _ _) rfl ?_
  refine Flow.neqD (c := false) rfl rfl (decide_eq_false (by omega)) ?_
  refine Flow.move (v := .bool _) rfl ?_
  refine Flow.on rfl rfl ?_
  refine Flow.move (v := .int _ _) rfl ?_
  refine Flow.on rfl rfl ?_
  refine Flow.neqD (c := false) rfl rfl (decide_eq_false (by omega)) ?_
  refine Flow.pickF rfl rfl ?_
  refine Flow.move (v := .bool _) rfl ?_
  refine Flow.on rfl rfl ?_
  refine Flow.move (v := .int _ _) rfl ?_
  refine Flow.on rfl rfl ?_
  refine Flow.neqD (c := false) rfl rfl (decide_eq_false (by omega)) ?_
  refine Flow.pickF rfl rfl ?_
  refine Flow.move (v := .bool _) rfl ?_
  refine Flow.on rfl rfl ?_
  refine Flow.move (v := .int _ _) rfl ?_
  refine Flow.on rfl rfl ?_
  refine Flow.neqD (c := false) rfl rfl (decide_eq_false (by omega)) ?_
  refine Flow.pickF rfl rfl ?_
  refine Flow.move (v := .bool _) rfl ?_
  refine Flow.on rfl rfl ?_
  refine Flow.move (v := .int _ _) rfl ?_
  refine Flow.on rfl rfl ?_
  refine Flow.neqD (c := false) rfl rfl (decide_eq_false (by omega)) ?_
  refine Flow.pickF rfl rfl ?_
  refine Flow.move (v := .bool _) rfl ?_
  refine Flow.on rfl rfl ?_
  refine Flow.move (v := .int _ _) rfl ?_
  refine Flow.on rfl rfl ?_
  refine Flow.neqD (c := false) rfl rfl (decide_eq_false (by omega)) ?_
  refine Flow.pickF rfl rfl ?_
  refine Flow.move (v := .bool _) rfl ?_
  refine Flow.on rfl rfl ?_
  refine Flow.move (v := .int _ _) rfl ?_
  refine Flow.on rfl rfl ?_
  refine Flow.neqD (c := false) rfl rfl (decide_eq_false (by omega)) ?_
  refine Flow.pickF rfl rfl ?_
  refine Flow.move (v := .bool _) rfl ?_
  refine Flow.on rfl rfl ?_
  refine Flow.move (v := .int _ _) rfl ?_
  refine Flow.on rfl rfl ?_
  refine Flow.neqD (c := false) rfl rfl (decide_eq_false (by omega)) ?_
  refine Flow.pickF rfl rfl ?_
  refine Flow.move (v := .bool _) rfl ?_
  refine Flow.on rfl rfl ?_
  refine Flow.move (v := .int _ _) rfl ?_
  refine Flow.on rfl rfl ?_
  refine Flow.neqD (c := false) rfl rfl (decide_eq_false (by omega)) ?_
  refine Flow.pickF rfl rfl ?_
  refine Flow.move (v := .bool _) rfl ?_
  refine Flow.on rfl rfl ?_
  refine Flow.move (v := .int _ _) rfl ?_
  refine Flow.on rfl rfl ?_
  refine Flow.neq rfl rfl ?_
  refine Flow.pickF rfl rfl ?_
  refine hK _ _ _ ?_
  clear hK K
  refine W.cond rfl (fun h => by simp at h) (fun _ => W.skip (hK12 _ _ _ ?_))
  refine W.forget [(2, .pointer (some ⟨w4.heap.size, 0, none⟩)), (4, .int .i64 12), (6, .pointer (some ⟨w9.heap.size, 0, none⟩)), (7, .bool true), (9, .slice a1 4 k1), (10, .slice a2 4 k2), (12, .slice a3 1 k3), (14, .slice a4 5 k4), (16, .int .i64 3), (18, .int .i64 1), (20, .int .i64 2), (22, .slice a5 1 k5)] ⟨rfl, rfl, rfl, rfl, rfl, rfl, rfl, rfl, rfl, rfl, rfl, rfl, trivial⟩ fun e => ?_
  refine W.seq fun K hK => ?_
  refine W.region (by rfl) ?_
  refine Flow.buildSliceL Tf.sl_22 Tf.us_22 (by decide) (by decide) (l := [(_, _), (_, _), (_, _), (_, _)]) rfl (zs := [.int .i64 0, .int .i64 0, .int .i64 0, .int .i64 0]) (by kernel_rfl) (cs := [_, _, _, _]) rfl fun w21 c21 s21 b21 => ?_
  refine Flow.assign (v := .slice _ _ _) rfl ?_
  refine hK _ _ _ ?_
  clear hK K
  have d621 := d620.then c21
  have hb21 : IL w21 (some ⟨w20.heap.size, 0, none⟩) [1, 3, 4, 5] := b2il (l := [1, 3, 4, 5]) b21
  have x12 : Chg [] w12 w21 := (c13.then (c14.then (c15.then (c16.then c17)))).then (d1720.then c21)
  have x13 : Chg [] w13 w21 := (c14.then (c15.then (c16.then c17))).then (d1720.then c21)
  have x14 : Chg [] w14 w21 := (c15.then (c16.then c17)).then (d1720.then c21)
  have hO21 := hO6.ext d621
  have hA21 := hA.ext x12
  have hB21 := hB.ext x12
  have hD21 := hD.ext x13
  have hE21 := hE.ext x14
  have hL21 := hL.ext c21
  have b621 := b6.chg d621 (by simp)
  refine W.forget [(2, .pointer (some ⟨w4.heap.size, 0, none⟩)), (4, .int .i64 12), (6, .pointer (some ⟨w9.heap.size, 0, none⟩)), (7, .bool true), (9, .slice a1 4 k1), (10, .slice a2 4 k2), (12, .slice a3 1 k3), (14, .slice a4 5 k4), (16, .int .i64 3), (18, .int .i64 1), (20, .int .i64 2), (22, .slice a5 1 k5), (24, .slice (some ⟨w20.heap.size, 0, none⟩) 4 4)] ⟨rfl, rfl, rfl, rfl, rfl, rfl, rfl, rfl, rfl, rfl, rfl, rfl, rfl, trivial⟩ fun e => ?_
  refine W.seq fun K hK => ?_
  refine W.region (by rfl) ?_
  refine Flow.fieldAddr Tf.fo_51_0 rfl ?_
  refine Flow.load1 Tf.ty_22 rfl (b621.cell 0) ?_
  refine Flow.buildSliceL Tf.sl_22 Tf.us_22 (by decide) (by decide) (l := [(_, _), (_, _), (_, _), (_, _), (_, _)]) rfl (zs := [.int .i64 0, .int .i64 0, .int .i64 0, .int .i64 0, .int .i64 0]) (by kernel_rfl) (cs := [_, _, _, _, _]) rfl fun w22 c22 s22 b22 => ?_
  refine Flow.call2 Tf.hb_22 (v1 := .slice _ _ _) rfl (v2 := .slice _ _ _) rfl ?_
  refine Ret.mono (sameT_ok _ _ _ _ _ 5 [0, -1, 1, 3, 4] rfl (hO21.ext c22) (b2il (l := [0, -1, 1, 3, 4]) b22) (by omega)) ?_
  rintro _ w23 ⟨rfl, c23⟩
  refine Flow.move (v := .bool _) rfl ?_
  refine Flow.on rfl rfl ?_
  refine Flow.move (v := .slice _ _ _) rfl ?_
  refine Flow.on rfl rfl ?_
  refine Flow.move (v := .slice _ _ _) rfl ?_
  refine Flow.on rfl rfl ?_
  refine Flow.call2 Tf.hb_22 (v1 := .slice _ _ _) rfl (v2 := .slice _ _ _) rfl ?_
  refine Ret.mono (sameT_ok _ _ _ _ _ 4 [1, 3, 4, 5] rfl (hA21.ext (c22.then c23)) (hb21.ext (c22.then c23)) (by omega)) ?_
  rintro _ w24 ⟨rfl, c24⟩
  refine Flow.pickT rfl rfl ?_
  refine Flow.move (v := .bool _) rfl ?_
  refine Flow.on rfl rfl ?_
  refine Flow.move (v := .slice _ _ _) rfl ?_
  refine Flow.on rfl rfl ?_
  refine Flow.move (v := .slice _ _ _) rfl ?_
  refine Flow.on rfl rfl ?_
  refine Flow.call2 Tf.hb_22 (v1 := .slice _ _ _) rfl (v2 := .slice _ _ _) rfl ?_
  refine Ret.mono (sameT_ok _ _ _ _ _ 4 [1, 3, 4, 5] rfl (hB21.ext (c22.then (c23.then c24))) (hb21.ext (c22.then (c23.then c24))) (by omega)) ?_
  rintro _ w25 ⟨rfl, c25⟩
  refine Flow.pickT rfl rfl ?_
  refine Flow.move (v := .bool _) rfl ?_
  refine Flow.on rfl rfl ?_
  refine Flow.move (v := .slice _ _ _) rfl ?_
  refine Flow.on rfl rfl ?_
  refine Flow.buildSlice1 Tf.sl_22 Tf.us_22 rfl (by decide) (by decide) rfl (cs := [_]) rfl rfl fun w26 c26 s26 b26 => ?_
  refine Flow.on rfl rfl ?_
  refine Flow.call2 Tf.hb_22 (v1 := .slice _ _ _) rfl (v2 := .slice _ _ _) rfl ?_
  refine Ret.mono (sameT_ok _ _ _ _ _ 1 [0] rfl (hD21.ext ((c22.then (c23.then c24)).then (c25.then c26))) (b2il (l := [0]) b26) (by omega)) ?_
  rintro _ w27 ⟨rfl, c27⟩
  refine Flow.pickT rfl rfl ?_
  refine Flow.move (v := .bool _) rfl ?_
  refine Flow.on rfl rfl ?_
  refine Flow.move (v := .slice _ _ _) rfl ?_
  refine Flow.on rfl rfl ?_
  refine Flow.fieldAddr Tf.fo_51_0 rfl ?_
  refine Flow.on rfl rfl ?_
  refine Flow.load1 Tf.ty_22 rfl ((b621.chg ((c22.then (c23.then c24)).then (c25.then (c26.then c27))) (by simp)).cell 0) ?_
  refine Flow.on rfl rfl ?_
  refine Flow.call2 Tf.hb_22 (v1 := .slice _ _ _) rfl (v2 := .slice _ _ _) rfl ?_
  refine Ret.mono (sameT_ok _ _ _ _ _ 5 [0, -1, 1, 3, 4] rfl (hE21.ext ((c22.then (c23.then c24)).then (c25.then (c26.then c27)))) (hO21.ext ((c22.then (c23.then c24)).then (c25.then (c26.then c27)))) (by omega)) ?_
  rintro _ w28 ⟨rfl, c28⟩
  refine Flow.pickT rfl rfl ?_
  refine Flow.move (v := .bool _) rfl ?_
  refine Flow.on rfl rfl ?_
  refine Flow.move (v := .slice _ _ _) rfl ?_
  refine Flow.on rfl rfl ?_
  refine Flow.buildSliceL Tf.sl_22 Tf.us_22 (by decide) (by decide) (l := [(_, _), (_, _)]) rfl (zs := [.int .i64 0, .int .i64 0]) (by kernel_rfl) (cs := [_, _]) rfl fun w29 c29 s29 b29 => ?_
  refine Flow.on rfl rfl ?_
  refine Flow.buildSlice1 Tf.sl_56 Tf.us_56 rfl (by decide) (by decide) rfl (cs := [_]) rfl rfl fun w30 c30 s30 b30 => ?_
  have d2130 := ((c22.then (c23.then c24)).then (c25.then (c26.then c27))).then (c28.then (c29.then c30))
  have hLL : LL w30 (some ⟨w29.heap.size, 0, none⟩) [[2, 3]] := .inr ⟨w29.heap.size, 0, rfl, fun i hi => by
    obtain rfl : i = 0 := by simp at hi; omega
    exact ⟨some ⟨w28.heap.size, 0, none⟩, 2, b30.cell 0, (b2il (l := [2, 3]) b29).ext c30⟩⟩
  refine Flow.on rfl rfl ?_
  refine Flow.call2 Tf.hb_36 (v1 := .slice _ _ _) rfl (v2 := .slice _ _ _) rfl ?_
  refine Ret.mono (sameLists_ok _ _ _ _ _ [[2, 3]] [[2, 3]] (hL21.ext d2130) hLL (by decide) (by decide) (by simp) (by simp)) ?_
  rintro _ w31 ⟨rfl, c31⟩
  refine Flow.pickT rfl rfl ?_
  refine Flow.assign (v := .bool _) rfl ?_
  refine hK _ _ _ ?_
  clear hK K
  rw [decide_eq_true rfl]
  have d631 := d621.then (d2130.then c31)
  have b1131 := b11.chg ((c12.then (c13.then (c14.then (c15.then (c16.then c17))))).then ((d1720.then c21).then (d2130.then c31))) (by simp)
  refine W.forget [(2, .pointer (some ⟨w4.heap.size, 0, none⟩)), (4, .int .i64 12), (6, .pointer (some ⟨w9.heap.size, 0, none⟩)), (7, .bool true), (16, .int .i64 3), (18, .int .i64 1), (20, .int .i64 2), (25, .bool true)] ⟨rfl, rfl, rfl, rfl, rfl, rfl, rfl, rfl, trivial⟩ fun e => ?_
  refine W.seq fun K hK => ?_
  refine W.region (by rfl) ?_
  refine Flow.move (v := .bool _) rfl ?_
  refine Flow.move (v := .bool _) rfl ?_
  refine Flow.on rfl rfl ?_
  refine Flow.fieldAddr Tf.fo_51_1 rfl ?_
  refine Flow.on rfl rfl ?_
  refine Flow.load1 Tf.ty_3 rfl ((b6.chg d631 (by simp)).cell 1) ?_
  refine Flow.on rfl rfl ?_
  refine Flow.eqlD (c := true) rfl rfl (decide_eq_true (by omega)) ?_
  refine Flow.pickT rfl rfl ?_
  refine Flow.move (v := .bool _) rfl ?_
  refine Flow.on rfl rfl ?_
  refine Flow.move (v := .int _ _) rfl ?_
  refine Flow.on rfl rfl ?_
  refine Flow.eqlD (c := true) rfl rfl (decide_eq_true (by omega)) ?_
  refine Flow.pickT rfl rfl ?_
  refine Flow.move (v := .bool _) rfl ?_
  refine Flow.on rfl rfl ?_
  refine Flow.move (v := .bool _) rfl ?_
  refine Flow.pickT rfl rfl ?_
  refine Flow.move (v := .bool _) rfl ?_
  refine Flow.on rfl rfl ?_
  refine Flow.loadA Tf.ty_44 rfl rfl (b1131.cells0) ?_
  refine Flow.on rfl rfl ?_
  refine Flow.buildL Tf.ty_44 Tf.pl_44 (l := [(_, _)]) (zs := [_, _]) (cs := [_, _]) rfl rfl rfl ?_
  refine Flow.on rfl rfl ?_
  refine Flow.eqPair pair_span rfl rfl ?_
  refine Flow.pickT rfl rfl ?_
  refine Flow.move (v := .bool _) rfl ?_
  refine Flow.on rfl rfl ?_
  refine Flow.move (v := .int _ _) rfl ?_
  refine Flow.on rfl rfl ?_
  refine Flow.eqlD (c := true) rfl rfl (decide_eq_true (by omega)) ?_
  refine Flow.pickT rfl rfl ?_
  refine Flow.move (v := .bool _) rfl ?_
  refine Flow.on rfl rfl ?_
  refine Flow.move (v := .int _ _) rfl ?_
  refine Flow.on rfl rfl ?_
  refine Flow.eqlD (c := true) rfl rfl (decide_eq_true (by omega)) ?_
  refine Flow.pickT rfl rfl ?_
  refine Flow.move (v := .bool _) rfl ?_
  refine Flow.on rfl rfl ?_
  refine Flow.move (v := .int _ _) rfl ?_
  refine Flow.on rfl rfl ?_
  refine Flow.eql rfl rfl ?_
  refine Flow.pickT rfl rfl ?_
  refine Flow.assign (v := .bool _) rfl ?_
  refine hK _ _ _ ?_
  clear hK K
  exact W.ret ⟨_, res1 rfl (v := .bool _) rfl, rfl, (c1.then (e13.then d6)).then d631⟩

end Go.Proofs.YtkoejelglinmnaaGreat

/-
  More rules and facts that the laws' walks need.
-/
namespace Go.Proofs.YtkoejelglinmnaaGreat
open Sg
set_option maxRecDepth 100000

section
variable {P : Program} {n : Nat} {rest : List Oper} {A : Array Oper} {e : Env} {w : World} {K : Env → World → Prop} {d : Option Tmp} {ty : TypeId} {pos : String} {aft : Array Edge}

theorem Flow.min2 {x1 x2 : Operand} {a b : Int} {ats : Array TypeId} (h1 : ev n e x1 = .int .i64 a) (h2 : ev n e x2 = .int .i64 b) (h : Flow P n A rest (updO e d (.int .i64 (if b < a then b else a))) w K) :
    Flow P n A (⟨d, .call { callee := .builtin .min, args := #[x1, x2], argTypes := ats }, ty, pos, aft, none⟩ :: rest) e w K := by
  refine Flow.val rfl (v := .int .i64 (if b < a then b else a)) (w' := w) ?_ h
  simp [execOp, resolve, Sem.run_bind, Result.andThen, pure, Sem.run, invoke, builtin, h1, h2, run_min_int2]

theorem Flow.max2 {x1 x2 : Operand} {a b : Int} {ats : Array TypeId} (h1 : ev n e x1 = .int .i64 a) (h2 : ev n e x2 = .int .i64 b) (h : Flow P n A rest (updO e d (.int .i64 (if b > a then b else a))) w K) :
    Flow P n A (⟨d, .call { callee := .builtin .max, args := #[x1, x2], argTypes := ats }, ty, pos, aft, none⟩ :: rest) e w K := by
  refine Flow.val rfl (v := .int .i64 (if b > a then b else a)) (w' := w) ?_ h
  simp [execOp, resolve, Sem.run_bind, Result.andThen, pure, Sem.run, invoke, builtin, h1, h2, run_max_int2]

end

theorem few_facts {t : Tour} (h : fewB t = true) : t.closed.length ≤ 1000 ∧ t.flaws.length ≤ 1000 ∧ (chk t = 0 → t.flaws.length ≤ 8) := by
  simp only [fewB, Bool.and_eq_true, Bool.or_eq_true, decide_eq_true_eq] at h
  refine ⟨by omega, by omega, fun hc => ?_⟩
  have := (chk_valid hc).fn
  omega

theorem TL.one {w : World} {g : Nat} {id day : Int} {a : Option Addr} {c : Nat} {l : List Int} {T : TypeId} (h : Blk w g [.int .i64 id, .int .i64 day, .slice a l.length c] T) (hI : IL w a l) : TL w (some ⟨g, 0, none⟩) [⟨id, day, l⟩] :=
  .inr ⟨g, 0, rfl, fun i hi => by
    obtain rfl : i = 0 := by simp at hi; omega
    exact ⟨a, c, h.cells0, hI⟩⟩

end Go.Proofs.YtkoejelglinmnaaGreat

/-
  How the arguments of a law are read: tours, lists of ints.
-/
namespace Go.Proofs.YtkoejelglinmnaaGreat
open Sg Go.ChangeShapes Go.WideShapes Go.ChangeAt Go.RowKit Go.Joins Go.Deep
set_option maxRecDepth 100000

theorem list4 {α : Type} {cs : List α} (h : cs.length = 4) : ∃ c0 c1 c2 c3, cs = [c0, c1, c2, c3] := by
  match cs, h with
  | [c0, c1, c2, c3], _ => exact ⟨c0, c1, c2, c3, rfl⟩

section
variable {H : Type} {enc : TypeId × Value → H} {w : World} {base : Nat} {spare : Nat → Bool} {held : Bool}

theorem u_int : Tryz.prog.underlying 3 = some (.int .i64) := by kernel_rfl
theorem u_u8 : Tryz.prog.underlying 5 = some (.int .u8) := by kernel_rfl
theorem u_bool : Tryz.prog.underlying 4 = some .bool := by kernel_rfl
theorem u_ints : Tryz.prog.underlying 22 = some (.slice 3) := by kernel_rfl
theorem u_flaws : Tryz.prog.underlying 23 = some (.slice 81) := by kernel_rfl

theorem chg_below {w w' : World} (h : Chg [] w w') : Below w.heap.size w w' := ⟨h.os, h.tape, h.output, h.size, fun k hk => h.same k hk (by simp)⟩

theorem own : ownKnob Tryz.prog.godebug = none := by kernel_rfl
theorem laidOut : laidOutB Tryz.prog = true := by kernel_rfl

theorem read_ints {fuel : Nat} {a : Option Addr} {len cap : Nat} {y : DataW H × List MemPlace} (h : DataW.trod enc Tryz.prog w base spare held fuel 22 [.slice a len cap] = some y) : ∃ l : List Int, len = l.length ∧ IL w a l := by
  rcases open_ints u_ints u_int (by kernel_rfl) h with ⟨hcs, _⟩ | ⟨x, l, c, zs, hcs, _, hl, hm, hz, _, hcell, hwz⟩
  · simp at hcs
    obtain ⟨rfl, rfl, rfl⟩ := hcs
    exact ⟨[], rfl, .inl rfl⟩
  · simp at hcs
    obtain ⟨rfl, rfl, rfl⟩ := hcs
    have hzl : len ≤ zs.length := by rw [hz]; split <;> omega
    refine ⟨zs.take len, by rw [List.length_take]; omega, ?_⟩
    by_cases h0 : len = 0
    · subst h0; exact .inl (by simp)
    · right
      obtain ⟨b, off, spot⟩ := x
      have hc := hcell 0 (by omega)
      have hspot : spot = none := by simpa [Addr.add] using World.cell?_spot hc
      subst hspot
      refine ⟨b, off, rfl, fun i hi => ?_⟩
      have hi' : i < zs.length := by rw [List.length_take] at hi; omega
      have := hcell i hi'
      rw [addr_add] at this
      rw [this, List.getElem_take, List.getD_eq_getElem?_getD, List.getElem?_eq_getElem hi']
      rfl

theorem read_flaws {fuel : Nat} {a : Option Addr} {len cap : Nat} {y : DataW H × List MemPlace} (h : DataW.trod enc Tryz.prog w base spare held fuel 23 [.slice a len cap] = some y) : ∃ l : List Flaw, len = l.length ∧ FL w a l := by
  rcases open_slice u_flaws h with ⟨hcs, _⟩ | ⟨x, l, c, m, n, D, Pl, hcs, _, hl, hm, hz, _, hx⟩
  · simp at hcs
    obtain ⟨rfl, rfl, rfl⟩ := hcs
    exact ⟨[], rfl, .inl rfl⟩
  · simp at hcs
    obtain ⟨rfl, rfl, rfl⟩ := hcs
    have hml : len ≤ m := by rw [hz]; split <;> omega
    have hC : Tryz.prog.cellsOf 81 = 4 := by kernel_rfl
    have hone : ∀ i, i < m → ∃ f : Flaw, w.cells? base (x.add (i * 4)) 4 = some (flawCells f) := by
      intro i hi
      obtain ⟨cs, h1, h2⟩ := hx i hi
      rw [hC] at h1
      obtain ⟨y0, y1, y2, k, _, hlen, g0, g1, g2⟩ := trod_struct3 (t := 81) (f0 := ⟨ "ID", 3, 0, false, "", "", 0⟩) (f1 := ⟨ "Days", 44, 1, false, "", "", 8⟩) (f2 := ⟨ "Merit", 3, 3, false, "", "", 24⟩) (by kernel_rfl) h2
      rw [hC] at hlen
      obtain ⟨c0, c1, c2, c3, rfl⟩ := list4 hlen
      have k1 : Tryz.prog.cellsOf 3 = 1 := by kernel_rfl
      have k2 : Tryz.prog.cellsOf 44 = 2 := by kernel_rfl
      simp only [k1, k2, List.drop_zero, List.take_succ_cons, List.take_zero, List.drop_succ_cons] at g0 g1 g2
      obtain ⟨z0, e0, _, _⟩ := DataW.trod_int u_int g0
      obtain ⟨z2, e2, _, _⟩ := DataW.trod_int u_int g2
      obtain ⟨q0, q1, k', _, _, s0, s1⟩ := trod_struct2 (t := 44) (f0 := ⟨ "Lo", 3, 0, false, "", "", 0⟩) (f1 := ⟨ "Hi", 3, 1, false, "", "", 8⟩) (by kernel_rfl) g1
      simp only [k1, List.drop_zero, List.take_succ_cons, List.take_zero, List.drop_succ_cons] at s0 s1
      obtain ⟨zl, el, _, _⟩ := DataW.trod_int u_int s0
      obtain ⟨zh, eh, _, _⟩ := DataW.trod_int u_int s1
      simp at e0 e2 el eh
      subst e0 e2 el eh
      exact ⟨⟨z0, zl, zh, z2⟩, h1⟩
    by_cases h0 : len = 0
    · subst h0; exact ⟨[], rfl, .inl rfl⟩
    · obtain ⟨b, off, spot⟩ := x
      obtain ⟨f0, hf0⟩ := hone 0 (by omega)
      have hc := (World.cells?_some hf0).2.2 0 (by omega)
      have hsp := World.cell?_spot (v := .int .i64 f0.id) (show w.cell? (((⟨b, off, spot⟩ : Addr).add (0 * 4)).add 0) = some (.int .i64 f0.id) from hc)
      have hspot : spot = none := by
        cases spot with
        | none => rfl
        | some q => simp [Addr.add] at hsp
      subst hspot
      have hone : ∀ i, i < m → ∃ f : Flaw, w.cells? base (⟨b, off + i * 4, none⟩ : Addr) 4 = some (flawCells f) := fun i hi => by
        have := hone i hi
        rwa [addr_add] at this
      have : ∃ F : Nat → Flaw, ∀ i, i < m → w.cells? base (⟨b, off + i * 4, none⟩ : Addr) 4 = some (flawCells (F i)) := by
        classical
        refine ⟨fun i => if h : i < m then Classical.choose (hone i h) else f0, fun i hi => ?_⟩
        simp only [dif_pos hi]
        exact Classical.choose_spec (hone i hi)
      obtain ⟨F, hFF⟩ := this
      refine ⟨(List.range len).map F, by simp, .inr ⟨b, off, rfl, fun i hi => ?_⟩⟩
      have hi' : i < len := by simpa using hi
      obtain ⟨_, _, hcell⟩ := World.cells?_some (hFF i (by omega))
      simp only [List.getElem_map, List.getElem_range]
      have g0 := hcell 0 (by omega)
      have g1 := hcell 1 (by omega)
      have g2 := hcell 2 (by omega)
      have g3 := hcell 3 (by omega)
      rw [addr_add] at g0 g1 g2 g3
      exact ⟨g0, g1, g2, g3, trivial⟩

theorem read_tour {v : Value} {d : DataW H} {p : List MemPlace} {r : Reach} {b0 : Nat} (hv : Value.okWide Tryz.prog w r b0 25 v) (h : DataW.Trod enc Tryz.prog w base spare held 25 v d p) :
    ∃ (t : Tour) (ac af : Option Addr) (cc cf : Nat), v = .agg #[.int .i64 t.days, .slice ac t.closed.length cc, .slice af t.flaws.length cf] ∧ IL w ac t.closed ∧ FL w af t.flaws := by
  obtain ⟨v0, v1, v2, y0, y1, y2, n, rfl, _, _, g0, g1, g2⟩ := open_agg3 (t := 25) (f0 := ⟨ "Days", 3, 0, false, "", "", 0⟩) (f1 := ⟨ "Closed", 22, 1, false, "", "", 8⟩) (f2 := ⟨ "Flaws", 23, 2, false, "", "", 32⟩) (by kernel_rfl) (by kernel_rfl) (by kernel_rfl) hv h
  obtain ⟨days, e0, _, _⟩ := DataW.trod_int u_int g0
  obtain ⟨ac, lc, cc, e1⟩ := slice_form u_ints g1
  obtain ⟨af, lf, cf, e2⟩ := slice_form u_flaws g2
  simp at e0 e1 e2
  subst e0 e1 e2
  obtain ⟨closed, rfl, hC⟩ := read_ints g1
  obtain ⟨flaws, rfl, hF⟩ := read_flaws g2
  exact ⟨⟨days, closed, flaws⟩, ac, af, cc, cf, rfl, hC, hF⟩

theorem read_list {v : Value} {d : DataW H} {p : List MemPlace} {r : Reach} {b0 : Nat} (hv : Value.okWide Tryz.prog w r b0 22 v) (h : DataW.Trod enc Tryz.prog w base spare held 22 v d p) :
    ∃ (a : Option Addr) (c : Nat) (l : List Int), v = .slice a l.length c ∧ IL w a l := by
  obtain ⟨a, len, cap, rfl⟩ := okWide_slice u_ints hv
  obtain ⟨fuel, hf⟩ := h
  obtain ⟨l, rfl, hl⟩ := read_ints (by simpa [Value.cells] using hf)
  exact ⟨a, cap, l, rfl, hl⟩

end
end Go.Proofs.YtkoejelglinmnaaGreat

/-
  How the arguments of a law are read: lists with their room, spans, mendings.
-/
namespace Go.Proofs.YtkoejelglinmnaaGreat
open Sg Go.ChangeShapes Go.WideShapes Go.ChangeAt Go.RowKit Go.Joins Go.Deep
set_option maxRecDepth 100000

section
variable {H : Type} {enc : TypeId × Value → H} {w : World} {base : Nat} {spare : Nat → Bool} {held : Bool}

theorem u_spans : Tryz.prog.underlying 49 = some (.slice 44) := by kernel_rfl

theorem read_room {v : Value} {d : DataW H} {p : List MemPlace} {r : Reach} {b0 : Nat} (hv : Value.okWide Tryz.prog w r b0 22 v) (h : DataW.Trod enc Tryz.prog w base spare held 22 v d p) :
    ∃ (a : Option Addr) (c : Nat) (l : List Int), v = .slice a l.length c ∧ IL w a l ∧ l.length ≤ c := by
  obtain ⟨a, c, l, rfl, hl⟩ := read_list hv h
  refine ⟨a, c, l, rfl, hl, ?_⟩
  obtain ⟨fuel, hf⟩ := h
  rcases open_ints u_ints u_int (by kernel_rfl) (show DataW.trod enc Tryz.prog w base spare held fuel 22 [.slice a l.length c] = some (d, p) by simpa [Value.cells] using hf) with ⟨hcs, _⟩ | ⟨x, l', c', zs, hcs, _, hl', _⟩
  · simp at hcs
    obtain ⟨rfl, rfl, rfl⟩ := hcs
    simp
  · simp at hcs
    obtain ⟨rfl, rfl, rfl⟩ := hcs
    exact hl'

theorem read_span {v : Value} {d : DataW H} {p : List MemPlace} {r : Reach} {b0 : Nat} (hv : Value.okWide Tryz.prog w r b0 44 v) (h : DataW.Trod enc Tryz.prog w base spare held 44 v d p) :
    ∃ lo hi : Int, v = .agg #[.int .i64 lo, .int .i64 hi] := by
  obtain ⟨v0, v1, y0, y1, n, rfl, _, _, g0, g1⟩ := open_agg2 (t := 44) (f0 := ⟨ "Lo", 3, 0, false, "", "", 0⟩) (f1 := ⟨ "Hi", 3, 1, false, "", "", 8⟩) (by kernel_rfl) (by kernel_rfl) (by kernel_rfl) hv h
  obtain ⟨lo, e0, _, _⟩ := DataW.trod_int u_int g0
  obtain ⟨hi, e1, _, _⟩ := DataW.trod_int u_int g1
  simp at e0 e1
  subst e0 e1
  exact ⟨lo, hi, rfl⟩

theorem list2 {α : Type} {cs : List α} (h : cs.length = 2) : ∃ c0 c1, cs = [c0, c1] := by
  match cs, h with
  | [c0, c1], _ => exact ⟨c0, c1, rfl⟩

theorem read_spans {fuel : Nat} {a : Option Addr} {len cap : Nat} {y : DataW H × List MemPlace} (h : DataW.trod enc Tryz.prog w base spare held fuel 49 [.slice a len cap] = some y) : ∃ l : List (Int × Int), len = l.length ∧ SL w a l := by
  rcases open_slice u_spans h with ⟨hcs, _⟩ | ⟨x, l, c, m, n, D, Pl, hcs, _, hl, hm, hz, _, hx⟩
  · simp at hcs
    obtain ⟨rfl, rfl, rfl⟩ := hcs
    exact ⟨[], rfl, .inl rfl⟩
  · simp at hcs
    obtain ⟨rfl, rfl, rfl⟩ := hcs
    have hml : len ≤ m := by rw [hz]; split <;> omega
    have hC : Tryz.prog.cellsOf 44 = 2 := by kernel_rfl
    have hone : ∀ i, i < m → ∃ f : Int × Int, w.cells? base (x.add (i * 2)) 2 = some [.int .i64 f.1, .int .i64 f.2] := by
      intro i hi
      obtain ⟨cs, h1, h2⟩ := hx i hi
      rw [hC] at h1
      obtain ⟨q0, q1, k', _, hlen, s0, s1⟩ := trod_struct2 (t := 44) (f0 := ⟨ "Lo", 3, 0, false, "", "", 0⟩) (f1 := ⟨ "Hi", 3, 1, false, "", "", 8⟩) (by kernel_rfl) h2
      rw [hC] at hlen
      obtain ⟨c0, c1, rfl⟩ := list2 hlen
      have k1 : Tryz.prog.cellsOf 3 = 1 := by kernel_rfl
      simp only [k1, List.drop_zero, List.take_succ_cons, List.take_zero, List.drop_succ_cons] at s0 s1
      obtain ⟨zl, el, _, _⟩ := DataW.trod_int u_int s0
      obtain ⟨zh, eh, _, _⟩ := DataW.trod_int u_int s1
      simp at el eh
      subst el eh
      exact ⟨(zl, zh), h1⟩
    by_cases h0 : len = 0
    · subst h0; exact ⟨[], rfl, .inl rfl⟩
    · obtain ⟨b, off, spot⟩ := x
      obtain ⟨f0, hf0⟩ := hone 0 (by omega)
      have hc := (World.cells?_some hf0).2.2 0 (by omega)
      have hsp := World.cell?_spot (v := .int .i64 f0.1) (show w.cell? (((⟨b, off, spot⟩ : Addr).add (0 * 2)).add 0) = some (.int .i64 f0.1) from hc)
      have hspot : spot = none := by
        cases spot with
        | none => rfl
        | some q => simp [Addr.add] at hsp
      subst hspot
      have hone : ∀ i, i < m → ∃ f : Int × Int, w.cells? base (⟨b, off + i * 2, none⟩ : Addr) 2 = some [.int .i64 f.1, .int .i64 f.2] := fun i hi => by
        have := hone i hi
        rwa [addr_add] at this
      have : ∃ F : Nat → Int × Int, ∀ i, i < m → w.cells? base (⟨b, off + i * 2, none⟩ : Addr) 2 = some [.int .i64 (F i).1, .int .i64 (F i).2] := by
        classical
        refine ⟨fun i => if h : i < m then Classical.choose (hone i h) else f0, fun i hi => ?_⟩
        simp only [dif_pos hi]
        exact Classical.choose_spec (hone i hi)
      obtain ⟨F, hFF⟩ := this
      refine ⟨(List.range len).map F, by simp, .inr ⟨b, off, rfl, fun i hi => ?_⟩⟩
      have hi' : i < len := by simpa using hi
      obtain ⟨_, _, hcell⟩ := World.cells?_some (hFF i (by omega))
      simp only [List.getElem_map, List.getElem_range]
      have g0 := hcell 0 (by omega)
      have g1 := hcell 1 (by omega)
      rw [addr_add] at g0 g1
      exact ⟨g0, g1, trivial⟩

theorem read_mending {v : Value} {d : DataW H} {p : List MemPlace} {r : Reach} {b0 : Nat} (hv : Value.okWide Tryz.prog w r b0 51 v) (h : DataW.Trod enc Tryz.prog w base spare held 51 v d p) :
    ∃ (on : List Int) (mer : Int) (full : List (Int × Int)) (ao ar : Option Addr) (co cr : Nat), v = .agg #[.slice ao on.length co, .int .i64 mer, .slice ar full.length cr] ∧ IL w ao on ∧ SL w ar full := by
  obtain ⟨v0, v1, v2, y0, y1, y2, n, rfl, _, _, g0, g1, g2⟩ := open_agg3 (t := 51) (f0 := ⟨ "On", 22, 0, false, "", "", 0⟩) (f1 := ⟨ "Merit", 3, 1, false, "", "", 24⟩) (f2 := ⟨ "Full", 49, 2, false, "", "", 32⟩) (by kernel_rfl) (by kernel_rfl) (by kernel_rfl) hv h
  obtain ⟨ao, lo, co, e0⟩ := slice_form u_ints g0
  obtain ⟨mer, e1, _, _⟩ := DataW.trod_int u_int g1
  obtain ⟨ar, lr, cr, e2⟩ := slice_form u_spans g2
  simp at e0 e1 e2
  subst e0 e1 e2
  obtain ⟨on, rfl, hO⟩ := read_ints g0
  obtain ⟨full, rfl, hR⟩ := read_spans g2
  exact ⟨on, mer, full, ao, ar, co, cr, rfl, hO, hR⟩

end
end Go.Proofs.YtkoejelglinmnaaGreat
