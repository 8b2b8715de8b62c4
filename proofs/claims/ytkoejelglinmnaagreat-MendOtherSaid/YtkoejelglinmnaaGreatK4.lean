/-
  Contracts: Best; Can.
-/
import Derived.Test.YtkoejelglinmnaaGreatK3
import Derived.Laws.Strings
set_option linter.unusedSimpArgs false
set_option linter.unusedVariables false
namespace Go.Proofs.YtkoejelglinmnaaGreat
open Sg
set_option maxRecDepth 100000

/-- The spans of a slice that begins at a. -/
def SL (w : World) (a : Option Addr) (l : List (Int × Int)) : Prop :=
  l = [] ∨ ∃ b o, a = some ⟨b, o, none⟩ ∧ ∀ i (h : i < l.length), Cells w b (o + i * 2) [.int .i64 l[i].1, .int .i64 l[i].2]

theorem SL.get {w : World} {a : Option Addr} {l : List (Int × Int)} (h : SL w a l) {i : Nat} (hi : i < l.length) :
    ∃ b o, a = some ⟨b, o, none⟩ ∧ ∀ i (h : i < l.length), Cells w b (o + i * 2) [.int .i64 l[i].1, .int .i64 l[i].2] := by
  rcases h with rfl | h
  · simp at hi
  · exact h

theorem SL.chg {w w' : World} {a : Option Addr} {l : List (Int × Int)} {S : List Nat} (h : SL w a l) (hc : Chg S w w') (hS : Off a l S) : SL w' a l := by
  rcases h with rfl | ⟨b, o, rfl, h⟩
  · exact .inl rfl
  · refine .inr ⟨b, o, rfl, fun i hi => Cells.chg hc (hS (fun e => ?_) ⟨b, o, none⟩ rfl) (h i hi)⟩
    subst e; simp at hi

theorem SL.ext {w w' : World} {a : Option Addr} {l : List (Int × Int)} (h : SL w a l) (hc : Chg [] w w') : SL w' a l := h.chg hc (fun _ _ _ => by simp)

theorem SL.lt {w : World} {a : Option Addr} {l : List (Int × Int)} (h : SL w a l) (hl : l ≠ []) : ∀ x, a = some x → x.block < w.heap.size := by
  rcases h with rfl | ⟨b, o, rfl, h⟩
  · exact absurd rfl hl
  · rintro x hx
    obtain rfl : (⟨b, o, none⟩ : Addr) = x := by simpa using hx
    exact cell_lt (h 0 (List.length_pos_iff.2 hl)).1

theorem SL.off {w : World} {a : Option Addr} {l : List (Int × Int)} (h : SL w a l) {S : List Nat} (hS : ∀ b ∈ S, w.heap.size ≤ b) : Off a l S :=
  fun hl x hx hm => absurd (hS _ hm) (Nat.not_le_of_lt (h.lt hl x hx))

theorem SL.of_blk {w : World} {g : Nat} : ∀ {l : List (Int × Int)} {T : TypeId}, Blk w g (spanC l) T → SL w (some ⟨g, 0, none⟩) l := by
  intro l T h
  refine .inr ⟨g, 0, rfl, fun i hi => ?_⟩
  have e : spanC l = spanC (l.take i) ++ ([.int .i64 l[i].1, .int .i64 l[i].2] ++ spanC (l.drop (i + 1))) := by
    rw [← spanC_cons, ← spanC_append]
    congr 1
    rw [← List.drop_eq_getElem_cons hi, List.take_append_drop]
  rw [e] at h
  have := Blk.cells h
  rw [spanC_len, List.length_take, Nat.min_eq_left (by omega)] at this
  rw [Nat.zero_add]; exact this

def bestOn (t : Tour) : List Int := if chk t = 0 then onOf t.flaws.length (bestHas t) else []
def bestFull (t : Tour) : List (Int × Int) := if chk t = 0 then fullsS t (onOf t.flaws.length (bestHas t)) else []

/-- A mending, by value. -/
def MendV (w : World) (v : Value) (on : List Int) (merit : Int) (full : List (Int × Int)) : Prop :=
  ∃ ao co af cf, v = .agg #[.slice ao on.length co, .int .i64 merit, .slice af full.length cf] ∧ IL w ao on ∧ SL w af full

theorem MendV.ext {w w' : World} {v : Value} {on : List Int} {merit : Int} {full : List (Int × Int)} (h : MendV w v on merit full) (hc : Chg [] w w') : MendV w' v on merit full := by
  obtain ⟨ao, co, af, cf, rfl, h1, h2⟩ := h
  exact ⟨ao, co, af, cf, rfl, h1.ext hc, h2.ext hc⟩

theorem Best_ok (w : World) (t : Tour) (ac af : Option Addr) (cc cf : Nat) (hC : IL w ac t.closed) (hF : FL w af t.flaws) (hcl : t.closed.length ≤ 1000) (hfl : t.flaws.length ≤ 1000) (hx : chk t = 0 → t.flaws.length < 20) :
    Ret Tryz.prog 43 #[.agg #[.int .i64 t.days, .slice ac t.closed.length cc, .slice af t.flaws.length cf]] w fun v w' => Chg [] w w' ∧ ∃ m, v = .tuple #[m, .int .i64 (chk t)] ∧ MendV w' m (bestOn t) (meritR t) (bestFull t) := by
  refine Ret.of_W (n := 14) Tryz.func43 rfl rfl (Nat.le_of_ble_eq_true rfl) ?_
  refine W.seq fun K hK => ?_
  refine W.region (by rfl) ?_
  refine Flow.box rfl (cs := [_, _, _]) rfl fun w1 c1 s1 b1 => ?_
  refine Flow.alloc Tf.ty_51 (cs := [_, _, _]) rfl fun w2 c2 s2 b2 => ?_
  refine Flow.assignC ?_
  refine hK _ _ _ ?_
  clear hK K
  have b12 := b1.chg c2 (by simp)
  have c12 := c1.then c2
  refine W.seq fun K1 hK1 => ?_
  refine W.seq fun K hK => ?_
  refine W.region (by rfl) ?_
  refine Flow.loadA Tf.ty_25 rfl rfl (b12.cells0) ?_
  refine Flow.call1 Tf.hb_55 (v1 := .agg _) rfl ?_
  refine Ret.mono (check_ok _ t ac af cc cf (hC.ext c12) (hF.ext c12) hcl hfl) ?_
  rintro _ w3 ⟨rfl, c3⟩
  refine Flow.assign (v := .int _ _) rfl ?_
  refine hK _ _ _ ?_
  clear hK K
  refine W.seq fun K hK => ?_
  refine W.region (by rfl) ?_
  refine Flow.move (v := .int _ _) rfl ?_
  refine Flow.neq rfl rfl ?_
  refine hK _ _ _ ?_
  clear hK K
  have c13 := c12.then c3
  have b23 := b2.chg c3 (by simp)
  have hs3 := c3.size
  refine W.cond rfl (fun h => ?_) (fun h => W.skip (hK1 _ _ _ ?_))
  · have h0 : chk t ≠ 0 := by simpa using h
    refine W.seq fun K hK => ?_
    refine W.region (by rfl) ?_
    refine Flow.buildL Tf.ty_51 Tf.pl_51 (l := []) (zs := [_, _, _]) (cs := [_, _, _]) rfl rfl rfl ?_
    refine Flow.move (v := .int _ _) rfl ?_
    refine Flow.store Tf.ty_51 rfl rfl (b23) (vs := [_, _, _]) rfl rfl (by simp) rfl fun w4 c4 s4 b4 => ?_
    refine Flow.assign (v := .int _ _) rfl ?_
    refine hK _ _ _ ?_
    clear hK K
    refine W.ret ⟨_, resG2 rfl (OneR.cellA Tf.ty_51 rfl (l := [_, _, _]) rfl b4.cells0) (OneR.tmp rfl), c13.step c4 (by simp; omega), _, rfl, ?_⟩
    rw [bestOn, bestFull, meritR, if_neg h0, if_neg h0, if_neg h0]
    exact ⟨none, 0, none, 0, rfl, .inl rfl, .inl rfl⟩
  · have h0 : chk t = 0 := by simpa using h
    have hv := chk_valid h0
    have hs := hv.small
    refine W.seq fun K hK => ?_
    refine W.region (by rfl) ?_
    refine Flow.loadA Tf.ty_25 rfl rfl ((b12.chg c3 (by simp)).cells0) ?_
    refine Flow.call1 Tf.hb_103 (v1 := .agg _) rfl ?_
    refine Ret.mono (best_ok _ t ac af cc cf (hC.ext c13) (hF.ext c13) hs (hx h0)) ?_
    rintro _ w4 ⟨c4, g, rfl, hg, bg⟩
    refine Flow.call1 Tf.hb_102 (v1 := .agg _) rfl ?_
    refine Ret.mono (whole_ok _ t ac af cc cf g (bestHas t) (hC.ext (c13.then c4)) (hF.ext (c13.then c4)) hv bg (bestHas_inv hs)) ?_
    rintro _ w5 ⟨c5, go, gf, rfl, hgo, hgf, bo, bf⟩
    refine Flow.store Tf.ty_51 rfl rfl ((b23.chg (c4.then c5) (by simp))) (vs := [_, _, _]) rfl rfl (by simp) rfl fun w6 c6 s6 b6 => ?_
    refine Flow.assignC ?_
    refine hK _ _ _ ?_
    clear hK K
    have hs5 := (c4.then c5).size
    have hs4 := c4.size
    refine W.ret ⟨_, resG2 rfl (OneR.cellA Tf.ty_51 rfl (l := [_, _, _]) rfl b6.cells0) (OneR.tmp rfl), (c13.then (c4.then c5)).step c6 (by simp; omega), _, by rw [h0]; rfl, ?_⟩
    rw [bestOn, bestFull, meritR, if_pos h0, if_pos h0, if_pos h0]
    have hl1 : (onOf t.flaws.length (bestHas t)).length = t.flaws.length := onOf_len _ _
    have hl2 : (fullsS t (onOf t.flaws.length (bestHas t))).length = t.flaws.length := by simp [fullsS]
    exact ⟨_, t.flaws.length, _, t.flaws.length, by rw [hl1, hl2]; rfl, (b2il bo).chg c6 (fun _ x hx => by simp at hx; subst hx; simp; omega), (SL.of_blk bf).chg c6 (fun _ x hx => by simp at hx; subst hx; simp; omega)⟩

/-! ### IndexFunc, ContainsFunc with a function that may change memory -/
theorem indexFuncE_ok (w : World) (a : Option Addr) (c : Nat) (l : List Int) (fn : FuncId) (caps : Array Value) (J : List Int → World → Prop) (Jx : List Int → World → Prop) (hn : l.length ≤ 1000000) (hb : HasBody Tryz.prog fn)
    (hJ : ∀ rest w1, J rest w1 → IL w1 a l) (h0 : J l w)
    (hp : ∀ x rest w1, x ∈ l → J (x :: rest) w1 → Ret Tryz.prog fn (#[.int .i64 x] ++ caps) w1 fun v w2 => (v = .bool true ∧ Jx (x :: rest) w2) ∨ (v = .bool false ∧ J rest w2)) :
    Ret Tryz.prog 139 #[.slice a l.length c, .func (.func fn) #[] caps] w fun v w' => (∃ k : Nat, v = .int .i64 k ∧ k < l.length ∧ Jx (l.drop k) w') ∨ (v = .int .i64 (-1) ∧ J [] w') := by
  refine Ret.of_W (n := 19) Tryz.func139 rfl rfl (Nat.le_of_ble_eq_true rfl) ?_
  refine W.seq fun K hK => ?_
  refine W.region (by rfl) ?_
  refine Flow.assignC ?_
  refine hK _ _ _ ?_
  clear hK K
  refine W.seq fun K0 hK0 => ?_
  refine W.seq fun K hK => ?_
  refine W.region (by rfl) ?_
  refine Flow.move (v := .slice _ _ _) rfl ?_
  refine Flow.len rfl Tf.us_22 rfl rfl ?_
  refine Flow.moveC ?_
  refine hK _ _ _ ?_
  clear hK K
  refine W.block ?_
  refine W.loop (ι := Nat) (fun k ds e w' => ds = [] ∧ k ≤ l.length ∧ AllAt e [(0, .slice a l.length c), (1, .func (.func fn) #[] caps), (7, .int .i64 l.length), (8, .int .i64 k)] ∧ J (l.drop k) w')
    (fun k => l.length - k) (i0 := 0) ⟨rfl, by omega, ⟨rfl, rfl, rfl, rfl, trivial⟩, h0⟩ ?_
  rintro k ds e w' ⟨rfl, hk, hE, hj⟩
  obtain ⟨e, rfl⟩ : ∃ e0, e = putL e0 _ := ⟨e, putL_self hE⟩
  clear hE
  refine W.seq fun K hK => ?_
  refine W.region (by rfl) ?_
  refine Flow.lss rfl rfl ?_
  refine hK _ _ _ ?_
  clear hK K
  refine W.seq fun K2 hK2 => ?_
  refine W.cond rfl (fun h => W.skip (hK2 _ _ _ ?_)) (fun h => W.exit ?_)
  · have hlt : k < l.length := by simpa using h
    obtain ⟨b, o, rfl, hcell⟩ := (hJ _ _ hj).get hlt
    have hdrop := List.drop_eq_getElem_cons hlt
    rw [hdrop] at hj
    refine W.seq fun K3 hK3 => ?_
    refine W.block ?_
    refine W.seq fun K hK => ?_
    refine W.region (by rfl) ?_
    refine Flow.move (v := .int _ _) rfl ?_
    refine Flow.assign (v := .int _ _) rfl ?_
    refine hK _ _ _ ?_
    clear hK K
    refine W.seq fun K hK => ?_
    refine W.region (by rfl) ?_
    refine Flow.move (v := .func _ _ _) rfl ?_
    refine Flow.move (v := .slice _ _ _) rfl ?_
    refine Flow.move (v := .int _ _) rfl ?_
    refine Flow.indexAddr1 Tf.sl_22 rfl rfl (by omega) (by omega) ?_
    refine Flow.load1 Tf.ty_3 rfl (hcell k hlt) ?_
    refine Flow.callV1 rfl hb (v1 := .int _ _) rfl ?_
    refine Ret.mono (hp _ _ _ (List.getElem_mem hlt) hj) ?_
    rintro _ w3 (⟨rfl, hx⟩ | ⟨rfl, hx⟩)
    · refine hK _ _ _ ?_
      clear hK K
      refine W.cond (t := true) rfl (fun h => ?_) (fun h => by simp at h)
      refine W.seq fun K hK => ?_
      refine W.region (by rfl) ?_
      refine Flow.move (v := .int _ _) rfl ?_
      refine Flow.assign (v := .int _ _) rfl ?_
      refine hK _ _ _ ?_
      clear hK K
      refine W.ret ⟨_, res1 rfl (v := .int _ _) rfl, .inl ⟨k, rfl, hlt, by rw [hdrop]; exact hx⟩⟩
    · refine hK _ _ _ ?_
      clear hK K
      refine W.cond (t := false) rfl (fun h => by simp at h) (fun h => W.skip (hK3 _ _ _ ?_))
      refine W.region (by rfl) ?_
      refine Flow.add rfl rfl (by omega) (by omega) ?_
      refine Flow.move (v := .int _ _) rfl ?_
      exact Flow.nil ⟨k + 1, by omega, rfl, by omega, ⟨rfl, rfl, rfl, rfl, trivial⟩, hx⟩
  · have hge : k = l.length := by simp at h; omega
    subst hge
    rw [List.drop_length] at hj
    refine hK0 _ _ _ ?_
    refine W.seq fun K hK => ?_
    refine W.region (by rfl) ?_
    refine Flow.assignC ?_
    refine hK _ _ _ ?_
    clear hK K
    exact W.ret ⟨_, res1 rfl (v := .int _ _) rfl, .inr ⟨rfl, hj⟩⟩

theorem containsFuncE_ok (w : World) (a : Option Addr) (c : Nat) (l : List Int) (fn : FuncId) (caps : Array Value) (J : List Int → World → Prop) (Jx : List Int → World → Prop) (hn : l.length ≤ 1000000) (hb : HasBody Tryz.prog fn)
    (hJ : ∀ rest w1, J rest w1 → IL w1 a l) (h0 : J l w)
    (hp : ∀ x rest w1, x ∈ l → J (x :: rest) w1 → Ret Tryz.prog fn (#[.int .i64 x] ++ caps) w1 fun v w2 => (v = .bool true ∧ Jx (x :: rest) w2) ∨ (v = .bool false ∧ J rest w2)) :
    Ret Tryz.prog 97 #[.slice a l.length c, .func (.func fn) #[] caps] w fun v w' => (v = .bool true ∧ ∃ rest, Jx rest w') ∨ (v = .bool false ∧ J [] w') := by
  refine Ret.of_W (n := 9) Tryz.func97 rfl rfl (Nat.le_of_ble_eq_true rfl) ?_
  refine W.seq fun K hK => ?_
  refine W.region (by rfl) ?_
  refine Flow.assignC ?_
  refine hK _ _ _ ?_
  clear hK K
  refine W.seq fun K hK => ?_
  refine W.region (by rfl) ?_
  refine Flow.move (v := .slice _ _ _) rfl ?_
  refine Flow.move (v := .func _ _ _) rfl ?_
  refine Flow.call2 Tf.hb_139 (v1 := .slice _ _ _) rfl (v2 := .func _ _ _) rfl ?_
  refine Ret.mono (indexFuncE_ok _ _ _ _ _ _ J Jx hn hb hJ h0 hp) ?_
  rintro _ w1 (⟨k, rfl, hk, hx⟩ | ⟨rfl, hx⟩)
  · refine Flow.geq rfl rfl ?_
    refine Flow.assign (v := .bool _) rfl ?_
    refine hK _ _ _ ?_
    clear hK K
    refine W.ret ⟨_, res1 rfl (v := .bool _) rfl, .inl ⟨?_, _, hx⟩⟩
    simp
  · refine Flow.geq rfl rfl ?_
    refine Flow.assign (v := .bool _) rfl ?_
    refine hK _ _ _ ?_
    clear hK K
    exact W.ret ⟨_, res1 rfl (v := .bool _) rfl, .inr ⟨by simp, hx⟩⟩

/-! ### Can -/
def canAll (adj : Int → List Int) : List Int → List Int → Bool
  | _, [] => true
  | has, i :: l => match addS adj fuel has i with
    | none => false
    | some h => canAll adj h l

def canS (t : Tour) (ids : List Int) : Bool := if flawsE t ids = 0 then canAll (adjT t) (noDays t) (plL t ids) else false

theorem listedS_some {fl : List Flaw} {p : Option Int} {id : Int} {ids l : List Int} (h : listedS fl p (id :: ids) = some l) :
    0 ≤ findS id 0 fl ∧ (∀ q, p = some q → q < id) ∧ ∃ l', listedS fl (some id) ids = some l' ∧ l = findS id 0 fl :: l' := by
  rw [listedS_cons] at h
  by_cases hn : findS id 0 fl < 0
  · simp [hn] at h
  · cases p with
    | none =>
      simp [hn] at h
      obtain ⟨l', h1, h2⟩ := h
      exact ⟨by omega, by simp, l', h1, h2.symm⟩
    | some q =>
      by_cases hq : id ≤ q
      · simp [hn, hq] at h
      · simp [hn, hq] at h
        obtain ⟨l', h1, h2⟩ := h
        exact ⟨by omega, fun q' hq' => by obtain rfl := Option.some.inj hq'; omega, l', h1, h2.symm⟩

theorem plL_rg (t : Tour) (ids : List Int) : ∀ i ∈ plL t ids, 0 ≤ i ∧ i < t.flaws.length := by
  have key : ∀ (ids : List Int) (p : Option Int) (l : List Int), listedS t.flaws p ids = some l → ∀ i ∈ l, 0 ≤ i ∧ i < t.flaws.length := by
    intro ids
    induction ids with
    | nil => intro p l h; rw [listedS_nil] at h; obtain rfl := Option.some.inj h; simp
    | cons id ids ih =>
      intro p l h
      obtain ⟨hno, _, l', hl', rfl⟩ := listedS_some h
      intro i hi
      rcases List.mem_cons.1 hi with rfl | hi
      · rcases findS_ge id t.flaws with h | h
        · omega
        · exact h
      · exact ih _ l' hl' i hi
  intro i hi
  unfold plL at hi
  cases h : listedS t.flaws none ids with
  | none => rw [h] at hi; simp at hi
  | some l => rw [h] at hi; exact key ids none l h i (by simpa using hi)

theorem flawsL_rg (t : Tour) (ids : List Int) : ∀ i ∈ flawsL t ids, 0 ≤ i ∧ i < t.flaws.length := by
  intro i hi
  unfold flawsL at hi
  split at hi
  · exact plL_rg t ids i hi
  · simp at hi

theorem can1_ok (s : Nat) (w : World) (t : Tour) (hs : Small t) (ac af : Option Addr) (cc cf pl : Nat) (has : List Int) (i : Int) (hC : IL w ac t.closed) (hF : FL w af t.flaws) (hi : 0 ≤ i ∧ i < t.flaws.length) (hsw : s ≤ w.heap.size)
    (hI : GInv t.days.toNat t.flaws.length has []) (hP : PlanM s w t ac af cc cf pl has) :
    Ret Tryz.prog 98 #[.int .i64 i, .pointer (some ⟨pl, 0, none⟩)] w fun v w' =>
      v = .bool (!(addS (adjT t) fuel has i).isSome) ∧ PlanM s w' t ac af cc cf pl ((addS (adjT t) fuel has i).getD has) ∧ Chg [pl] w w' := by
  refine Ret.of_W (n := 7) Tryz.func98 rfl rfl (Nat.le_of_ble_eq_true rfl) ?_
  refine W.seq fun K hK => ?_
  refine W.region (by rfl) ?_
  refine Flow.assignC ?_
  refine hK _ _ _ ?_
  clear hK K
  refine W.seq fun K hK => ?_
  refine W.region (by rfl) ?_
  refine Flow.move (v := .int _ _) rfl ?_
  refine Flow.call2 Tf.hb_99 (v1 := .pointer _) rfl (v2 := .int _ _) rfl ?_
  refine Ret.mono (add_ok s _ t hs ac af cc cf pl has i hC hF hi hsw hI hP) ?_
  rintro _ w1 ⟨rfl, hP1, c1⟩
  refine Flow.not rfl ?_
  refine Flow.assign (v := .bool _) rfl ?_
  refine hK _ _ _ ?_
  clear hK K
  exact W.ret ⟨_, res1 rfl (v := .bool _) rfl, rfl, hP1, c1⟩

theorem plL_len (t : Tour) (ids : List Int) : (plL t ids).length ≤ ids.length := by
  have key : ∀ (ids : List Int) (p : Option Int) (l : List Int), listedS t.flaws p ids = some l → l.length = ids.length := by
    intro ids
    induction ids with
    | nil => intro p l h; rw [listedS_nil] at h; obtain rfl := Option.some.inj h; rfl
    | cons id ids ih =>
      intro p l h
      obtain ⟨_, _, l', hl', rfl⟩ := listedS_some h
      simp [ih _ l' hl']
  unfold plL
  cases h : listedS t.flaws none ids with
  | none => simp
  | some l => rw [Option.getD_some, key ids none l h]; exact Nat.le_refl _

set_option maxHeartbeats 1000000 in
theorem Can_ok (w : World) (t : Tour) (ac af : Option Addr) (cc cf : Nat) (ai : Option Addr) (ci : Nat) (ids : List Int) (hC : IL w ac t.closed) (hF : FL w af t.flaws) (hcl : t.closed.length ≤ 1000) (hfl : t.flaws.length ≤ 1000) (hI : IL w ai ids) (hn : ids.length ≤ 1000) :
    Ret Tryz.prog 38 #[.agg #[.int .i64 t.days, .slice ac t.closed.length cc, .slice af t.flaws.length cf], .slice ai ids.length ci] w fun v w' => v = .tuple #[.bool (canS t ids), .int .i64 (flawsE t ids)] ∧ Chg [] w w' := by
  refine Ret.of_W (n := 24) Tryz.func38 rfl rfl (Nat.le_of_ble_eq_true rfl) ?_
  refine W.seq fun K hK => ?_
  refine W.region (by rfl) ?_
  refine Flow.box rfl (cs := [_, _, _]) rfl fun w1 c1 s1 b1 => ?_
  refine Flow.assignC ?_
  refine Flow.assignC ?_
  refine hK _ _ _ ?_
  clear hK K
  refine W.seq fun K hK => ?_
  refine W.region (by rfl) ?_
  refine Flow.loadA Tf.ty_25 rfl rfl (b1.cells0) ?_
  refine Flow.move (v := .slice _ _ _) rfl ?_
  refine Flow.call2 Tf.hb_95 (v1 := .agg _) rfl (v2 := .slice _ _ _) rfl ?_
  refine Ret.mono (flaws_ok _ t ac af cc cf ai ci ids (hC.ext c1) (hF.ext c1) hcl hfl (hI.ext c1) hn) ?_
  rintro _ w2 ⟨⟨a, c, rfl, hL, _⟩, c2⟩
  refine Flow.move (v := .tuple _) rfl ?_
  refine Flow.extract (v := .slice _ _ _) rfl rfl ?_
  refine Flow.extract (v := .int _ _) rfl rfl ?_
  refine Flow.assign (v := .slice _ _ _) rfl ?_
  refine Flow.assign (v := .int _ _) rfl ?_
  refine hK _ _ _ ?_
  clear hK K
  have c12 := c1.then c2
  refine W.seq fun K1 hK1 => ?_
  refine W.seq fun K hK => ?_
  refine W.region (by rfl) ?_
  refine Flow.move (v := .int _ _) rfl ?_
  refine Flow.neq rfl rfl ?_
  refine hK _ _ _ ?_
  clear hK K
  refine W.cond rfl (fun h => ?_) (fun h => W.skip (hK1 _ _ _ ?_))
  · have h0 : flawsE t ids ≠ 0 := by simpa using h
    refine W.seq fun K hK => ?_
    refine W.region (by rfl) ?_
    refine Flow.move (v := .int _ _) rfl ?_
    refine Flow.assignC ?_
    refine Flow.assign (v := .int _ _) rfl ?_
    refine hK _ _ _ ?_
    clear hK K
    refine W.ret ⟨_, res2 rfl (v := .bool _) (v' := .int _ _) rfl rfl, by rw [canS, if_neg h0], c12⟩
  · have h0 : flawsE t ids = 0 := by simpa using h
    have hck : chk t = 0 := by
      by_cases h : chk t = 0
      · exact h
      · rw [flawsE, if_neg h] at h0; exact h0
    have hv := chk_valid hck
    have hs := hv.small
    have hLl : (flawsL t ids).length ≤ 1000 := by
      have := plL_len t ids
      rw [flawsL, if_pos h0]; omega
    have hcan : canS t ids = canAll (adjT t) (noDays t) (flawsL t ids) := by rw [canS, if_pos h0, flawsL, if_pos h0]
    have hLm := flawsL_rg t ids
    obtain ⟨L, hLe⟩ : ∃ L, L = flawsL t ids := ⟨_, rfl⟩
    rw [← hLe] at hL hLl hcan hLm ⊢
    refine W.seq fun K hK => ?_
    refine W.region (by rfl) ?_
    refine Flow.loadA Tf.ty_25 rfl rfl ((b1.chg c2 (by simp)).cells0) ?_
    refine Flow.call1 Tf.hb_96 (v1 := .agg _) rfl ?_
    refine Ret.mono (newPlan_ok _ t ac af cc cf hs) ?_
    rintro _ w3 ⟨c3, g, rfl, hg, b3⟩
    refine Flow.alloc Tf.ty_129 (cs := [_, _, _, _]) rfl fun w4 c4 s4 b4 => ?_
    refine Flow.store Tf.ty_129 rfl rfl (b4) (vs := [_, _, _, _]) rfl rfl (by simp) rfl fun w5 c5 s5 b5 => ?_
    refine hK _ _ _ ?_
    clear hK K
    have h3 := c3.size
    have h2 := c12.size
    have c25 : Chg [] w2 w5 := (c3.then c4).step c5 (by simp; omega)
    have hP : PlanM w2.heap.size w5 t ac af cc cf w3.heap.size (noDays t) := ⟨by omega, g, hg, by have := b3.lt; omega, b5, (b3.chg c4 (by simp)).chg c5 (by have := b3.lt; simp; omega)⟩
    have hoL : Off a L [w3.heap.size] := hL.off (by simp; omega)
    have hoC : Off ac t.closed [w3.heap.size] := hC.off (by simp; omega)
    have hoF : Off af t.flaws [w3.heap.size] := hF.off (by simp; omega)
    have hstep : ∀ (x : Int) (rest : List Int) (w' : World), x ∈ L → (Chg [w3.heap.size] w5 w' ∧ ∃ has, PlanM w2.heap.size w' t ac af cc cf w3.heap.size has ∧ GInv t.days.toNat t.flaws.length has [] ∧ canAll (adjT t) (noDays t) L = canAll (adjT t) has (x :: rest)) →
        Ret Tryz.prog 98 (#[.int .i64 x] ++ #[.pointer (some ⟨w3.heap.size, 0, none⟩)]) w' fun v w2' => (v = .bool true ∧ (Chg [w3.heap.size] w5 w2' ∧ canAll (adjT t) (noDays t) L = false)) ∨
          (v = .bool false ∧ (Chg [w3.heap.size] w5 w2' ∧ ∃ has, PlanM w2.heap.size w2' t ac af cc cf w3.heap.size has ∧ GInv t.days.toNat t.flaws.length has [] ∧ canAll (adjT t) (noDays t) L = canAll (adjT t) has rest)) := by
      rintro x rest w' hx ⟨hc, has, hP', hI', he⟩
      refine Ret.mono (can1_ok w2.heap.size w' t hs ac af cc cf w3.heap.size has x ((hC.ext (c12.then c25)).chg hc hoC) ((hF.ext (c12.then c25)).chg hc hoF) (hLm x hx) (by have := c25.size; have := hc.size; omega) hI' hP') ?_
      rintro v w'' ⟨rfl, hP'', hc''⟩
      rw [canAll] at he
      have hI2 := addS_inv hs (hLm x hx) hI'
      cases hadd : addS (adjT t) fuel has x with
      | none => rw [hadd] at he; exact .inl ⟨rfl, hc.trans hc'' (fun _ _ h => h), he⟩
      | some h2 => rw [hadd] at he hP'' hI2; exact .inr ⟨rfl, hc.trans hc'' (fun _ _ h => h), h2, hP'', hI2, he⟩
    refine W.seq fun K hK => ?_
    refine W.region (by rfl) ?_
    refine Flow.move (v := .slice _ _ _) rfl ?_
    refine Flow.makeFunc1 rfl ?_
    refine Flow.call2 Tf.hb_97 (v1 := .slice _ _ _) rfl (v2 := .func _ _ _) rfl ?_
    refine Ret.mono (containsFuncE_ok _ a c L 98 #[.pointer (some ⟨w3.heap.size, 0, none⟩)] (fun rest w' => Chg [w3.heap.size] w5 w' ∧ ∃ has, PlanM w2.heap.size w' t ac af cc cf w3.heap.size has ∧ GInv t.days.toNat t.flaws.length has [] ∧ canAll (adjT t) (noDays t) L = canAll (adjT t) has rest) (fun _ w' => Chg [w3.heap.size] w5 w' ∧ canAll (adjT t) (noDays t) L = false) (by omega) Tf.hb_98 (fun _ w' h => (hL.ext c25).chg h.1 hoL) ⟨Chg.refl _ _, noDays t, hP, noDays_inv t _, rfl⟩ hstep) ?_
    rintro _ w6 (⟨rfl, _, hc6, hx⟩ | ⟨rfl, hc6, has, _, _, hx⟩)
    · refine Flow.not rfl ?_
      refine Flow.assign (v := .bool _) rfl ?_
      refine Flow.assignC ?_
      refine hK _ _ _ ?_
      clear hK K
      refine W.ret ⟨_, res2 rfl (v := .bool _) (v' := .int _ _) rfl rfl, by rw [hcan, hx, h0]; rfl, (c12.then c25).step hc6 (by simp; omega)⟩
    · refine Flow.not rfl ?_
      refine Flow.assign (v := .bool _) rfl ?_
      refine Flow.assignC ?_
      refine hK _ _ _ ?_
      clear hK K
      refine W.ret ⟨_, res2 rfl (v := .bool _) (v' := .int _ _) rfl rfl, by rw [hcan, hx, h0]; rfl, (c12.then c25).step hc6 (by simp; omega)⟩

end Go.Proofs.YtkoejelglinmnaaGreat

/-
  Contracts: Jam, Days, Lost, Close, Without.
-/
namespace Go.Proofs.YtkoejelglinmnaaGreat
open Sg
set_option maxRecDepth 100000

/-- The first jam, if there is one. -/
def jamF (t : Tour) (ids : List Int) : Option (Int × Int) := if flawsE t ids = 0 then (spansL t).find? (fun s => jamS t (plL t ids) s.1 s.2) else none

theorem flawsE_chk {t : Tour} {ids : List Int} (h : flawsE t ids = 0) : chk t = 0 := by
  by_cases h' : chk t = 0
  · exact h'
  · rw [flawsE, if_neg h'] at h; exact h

theorem flawsL_len (t : Tour) (ids : List Int) : (flawsL t ids).length ≤ ids.length := by
  unfold flawsL
  split
  · exact plL_len t ids
  · simp

set_option maxHeartbeats 1000000 in
theorem Jam_ok (w : World) (t : Tour) (ac af : Option Addr) (cc cf : Nat) (ai : Option Addr) (ci : Nat) (ids : List Int) (hC : IL w ac t.closed) (hF : FL w af t.flaws) (hcl : t.closed.length ≤ 1000) (hfl : t.flaws.length ≤ 1000) (hI : IL w ai ids) (hn : ids.length ≤ 1000) :
    Ret Tryz.prog 39 #[.agg #[.int .i64 t.days, .slice ac t.closed.length cc, .slice af t.flaws.length cf], .slice ai ids.length ci] w fun v w' => v = .tuple #[encSpan ((jamF t ids).getD (0, 0)), .bool (jamF t ids).isSome, .int .i64 (flawsE t ids)] ∧ Chg [] w w' := by
  have hLl := flawsL_len t ids
  refine Ret.of_W (n := 29) Tryz.func39 rfl rfl (Nat.le_of_ble_eq_true rfl) ?_
  refine W.seq fun K hK => ?_
  refine W.region (by rfl) ?_
  refine Flow.box rfl (cs := [_, _, _]) rfl fun w1 c1 s1 b1 => ?_
  refine Flow.alloc Tf.ty_44 (cs := [_, _]) rfl fun w2 c2 s2 b2 => ?_
  refine Flow.alloc Tf.ty_4 (cs := [_]) rfl fun w3 c3 s3 b3 => ?_
  refine Flow.alloc Tf.ty_28 (cs := [_]) rfl fun w4 c4 s4 b4 => ?_
  refine hK _ _ _ ?_
  clear hK K
  have c14 := c2.then (c3.then c4)
  have c04 := c1.then c14
  have b14 := b1.chg c14 (by simp)
  have b24 := b2.chg (c3.then c4) (by simp)
  have b34 := b3.chg c4 (by simp)
  refine W.seq fun K hK => ?_
  refine W.region (by rfl) ?_
  refine Flow.loadA Tf.ty_25 rfl rfl (b14.cells0) ?_
  refine Flow.move (v := .slice _ _ _) rfl ?_
  refine Flow.call2 Tf.hb_95 (v1 := .agg _) rfl (v2 := .slice _ _ _) rfl ?_
  refine Ret.mono (flaws_ok _ t ac af cc cf ai ci ids (hC.ext c04) (hF.ext c04) hcl hfl (hI.ext c04) hn) ?_
  rintro _ w5 ⟨⟨a, c, rfl, hL, hna⟩, c5⟩
  refine Flow.move (v := .tuple _) rfl ?_
  refine Flow.extract (v := .slice _ _ _) rfl rfl ?_
  refine Flow.extract (v := .int _ _) rfl rfl ?_
  refine Flow.alloc Tf.ty_22 (cs := [_]) rfl fun w6 c6 s6 b6 => ?_
  refine Flow.store1 Tf.ty_22 rfl (v := .slice _ _ _) rfl (b6) (by simp) rfl fun w7 c7 s7 b7 => ?_
  refine Flow.assign (v := .int _ _) rfl ?_
  refine hK _ _ _ ?_
  clear hK K
  have hs5 := c5.size
  have c47 : Chg [] w4 w7 := (c5.then c6).step c7 (by simp; omega)
  have c17 : Chg [] w1 w7 := c14.then c47
  have c07 := c04.then c47
  have b17 := b14.chg c47 (by simp)
  have b27 := b24.chg c47 (by simp)
  have b37 := b34.chg c47 (by simp)
  have b47 := b4.chg c47 (by simp)
  have hL7 := hL.chg (c6.step c7 (by simp) : Chg [] w5 w7) (fun _ _ _ => by simp)
  refine W.seq fun K1 hK1 => ?_
  refine W.seq fun K hK => ?_
  refine W.region (by rfl) ?_
  refine Flow.move (v := .int _ _) rfl ?_
  refine Flow.neq rfl rfl ?_
  refine hK _ _ _ ?_
  clear hK K
  refine W.cond rfl (fun h => ?_) (fun h => W.skip (hK1 _ _ _ ?_))
  · have h0 : flawsE t ids ≠ 0 := by simpa using h
    refine W.seq fun K hK => ?_
    refine W.region (by rfl) ?_
    refine Flow.buildL Tf.ty_44 Tf.pl_44 (l := []) (zs := [_, _]) (cs := [_, _]) rfl rfl rfl ?_
    refine Flow.move (v := .int _ _) rfl ?_
    refine Flow.store Tf.ty_44 rfl rfl (b27) (vs := [_, _]) rfl rfl (by simp) rfl fun w8 c8 s8 b8 => ?_
    refine Flow.store1 Tf.ty_4 rfl (v := .bool _) rfl (b37.chg c8 (by simp; omega)) (by simp) rfl fun w9 c9 s9 b9 => ?_
    refine Flow.store1 Tf.ty_28 rfl (v := .int _ _) rfl ((b47.chg c8 (by simp; omega)).chg c9 (by simp; omega)) (by simp) rfl fun w10 c10 s10 b10 => ?_
    refine hK _ _ _ ?_
    clear hK K
    have b810 := (b8.chg c9 (by simp; omega)).chg c10 (by simp; omega)
    have b910 := b9.chg c10 (by simp; omega)
    refine W.ret ⟨_, resG3 rfl (OneR.cellA Tf.ty_44 rfl (l := [_, _]) rfl b810.cells0) (OneR.cell1 Tf.ty_4 rfl (b910.cell 0)) (OneR.cell1 Tf.ty_28 rfl (b10.cell 0)), ?_, ((c07.step c8 (by simp; omega)).step c9 (by simp; omega)).step c10 (by simp; omega)⟩
    rw [jamF, if_neg h0]; rfl
  · have h0 : flawsE t ids = 0 := by simpa using h
    have hck := flawsE_chk h0
    have hv := chk_valid hck
    have hs := hv.small
    have hdl := hs.dl
    have hdh := hs.dh
    have hjam : jamF t ids = (spansL t).find? (fun s => jamS t (flawsL t ids) s.1 s.2) := by rw [jamF, if_pos h0, flawsL, if_pos h0]
    have hLm := flawsL_rg t ids
    obtain ⟨L, hLe⟩ : ∃ L, L = flawsL t ids := ⟨_, rfl⟩
    obtain ⟨o, hoe⟩ : ∃ o, o = jamF t ids := ⟨_, rfl⟩
    rw [← hLe] at hL7 hLl hjam hLm b7
    rw [← hoe] at hjam ⊢
    refine W.seq fun K4 hK4 => ?_
    refine W.seq fun K hK => ?_
    refine W.region (by rfl) ?_
    refine Flow.loadA Tf.ty_25 rfl rfl (b17.cells0) ?_
    refine Flow.call1 Tf.hb_100 (v1 := .agg _) rfl ?_
    refine Ret.mono (spans_ok _ t ac af cc cf) ?_
    rintro _ w8 ⟨c8, s8, rfl, b8⟩
    refine hK _ _ _ ?_
    clear hK K
    have c08 := c07.then c8
    have b18 := b17.chg c8 (by simp)
    have b28 := b27.chg c8 (by simp)
    have b38 := b37.chg c8 (by simp)
    have b48 := b47.chg c8 (by simp)
    have b78 := b7.chg c8 (by simp)
    have hL8 := hL7.ext c8
    have l2 := b28.lt
    have l3 := b38.lt
    have l4 := b48.lt
    have l7 := b78.lt
    have hoC : Off ac t.closed [w1.heap.size, w2.heap.size, w3.heap.size] := hC.off (by simp; omega)
    have hoF : Off af t.flaws [w1.heap.size, w2.heap.size, w3.heap.size] := hF.off (by simp; omega)
    have hoL : Off a L [w1.heap.size, w2.heap.size, w3.heap.size] := fun _ x hx hm => by have := hna x hx; simp at hm; omega
    refine W.block ?_
    refine W.range_it (S := [w1.heap.size, w2.heap.size, w3.heap.size]) rfl Tf.hb_142 (spans_iter w7.heap.size t.days (by omega)) (fun w1 hc => (b8.chg hc (by simp; omega)).cell 0) (by simp; omega)
      (fun rest w' => (Blk w' w1.heap.size [.int .i64 0, .int .i64 0] 44 ∧ Blk w' w2.heap.size [.bool false] 4 ∧ Blk w' w3.heap.size [.int .i64 0] 28) ∧ o = rest.find? fun s => jamS t L s.1 s.2)
      (fun w' => ∃ x, o = some x ∧ Blk w' w1.heap.size [.int .i64 x.1, .int .i64 x.2] 44 ∧ Blk w' w2.heap.size [.bool true] 4 ∧ Blk w' w3.heap.size [.int .i64 0] 28) (fun _ _ => False)
      (fun x rest e' w' => ∃ gb, w8.heap.size + 2 ≤ gb ∧ AllAt e' [(2, .pointer (some ⟨w.heap.size, 0, none⟩)), (4, .pointer (some ⟨w1.heap.size, 0, none⟩)), (5, .pointer (some ⟨w2.heap.size, 0, none⟩)), (6, .pointer (some ⟨w3.heap.size, 0, none⟩)), (7, .pointer (some ⟨w5.heap.size, 0, none⟩)), (9, .pointer (some ⟨gb, 0, none⟩))] ∧ Blk w' gb [.int .i64 x.1, .int .i64 x.2] 44 ∧
        (Blk w' w1.heap.size [.int .i64 0, .int .i64 0] 44 ∧ Blk w' w2.heap.size [.bool false] 4 ∧ Blk w' w3.heap.size [.int .i64 0] 28) ∧ o = (x :: rest).find? fun s => jamS t L s.1 s.2)
      ?_ ?_ (fun _ _ _ _ h _ _ => h) ?_ ⟨⟨b28, b38, b48⟩, hjam⟩ ?_ ?_ ?_ ?_ (fun _ _ _ _ _ h => h.elim)
    · rintro rest T wa wb ⟨⟨h1, h2, h3⟩, h4⟩ hT hTb
      exact ⟨⟨h1.chg hT (fun hm => by have := hTb _ hm; omega), h2.chg hT (fun hm => by have := hTb _ hm; omega), h3.chg hT (fun hm => by have := hTb _ hm; omega)⟩, h4⟩
    · rintro T wa wb ⟨x, h0, h1, h2, h3⟩ hT hTb
      exact ⟨x, h0, h1.chg hT (fun hm => by have := hTb _ hm; omega), h2.chg hT (fun hm => by have := hTb _ hm; omega), h3.chg hT (fun hm => by have := hTb _ hm; omega)⟩
    · rintro x rest e' wa wb ⟨gb, hgb, hE, h0, ⟨h1, h2, h3⟩, h4⟩ hT
      exact ⟨gb, hgb, hE, h0.chg hT (by simp; omega), ⟨h1.chg hT (by simp; omega), h2.chg hT (by simp; omega), h3.chg hT (by simp; omega)⟩, h4⟩
    · rintro ⟨slo, shi⟩ rest wa hsz hc ⟨⟨h1, h2, h3⟩, h4⟩ hx
      refine W.region (by rfl) ?_
      refine Flow.alloc Tf.ty_44 (cs := [_, _]) rfl fun w14 c14 s14 b14 => ?_
      refine Flow.store Tf.ty_44 rfl rfl (b14) (vs := [_, _]) rfl rfl (by simp) rfl fun w15 c15 s15 b15 => ?_
      have c1415 : Chg [] wa w15 := c14.step c15 (by simp)
      exact Flow.nil ⟨Chg2.ext c1415, wa.heap.size, hsz, ⟨rfl, rfl, rfl, rfl, rfl, rfl, trivial⟩, b15, ⟨h1.chg c1415 (by simp), h2.chg c1415 (by simp), h3.chg c1415 (by simp)⟩, h4⟩
    · rintro ⟨slo, shi⟩ rest wa ds' e' hsz hc ⟨gb, hgb, hE, bgb, ⟨h1, h2, h3⟩, h4⟩ hx
      simp only at hx bgb
      obtain ⟨e', rfl⟩ : ∃ e0, e' = putL e0 _ := ⟨e', putL_self hE⟩
      clear hE
      have b1a := b18.chg hc (by simp; omega)
      have b7a := b78.chg hc (by simp; omega)
      refine W.block ?_
      refine W.seq fun K hK => ?_
      refine W.region (by rfl) ?_
      refine Flow.loadA Tf.ty_25 rfl rfl (b1a.cells0) ?_
      refine Flow.load1 Tf.ty_22 rfl (b7a.cell 0) ?_
      refine Flow.loadA Tf.ty_44 rfl rfl (bgb.cells0) ?_
      refine Flow.call3 Tf.hb_101 (v1 := .agg _) rfl (v2 := .slice _ _ _) rfl (v3 := .agg _) rfl ?_
      refine Ret.mono (jam_ok _ t ac af cc cf a c L slo shi ((hC.ext c08).chg hc hoC) ((hF.ext c08).chg hc hoF) hs (hL8.chg hc hoL) (by omega) hLm (by omega)) ?_
      rintro _ w16 ⟨rfl, c16⟩
      refine hK _ _ _ ?_
      clear hK K
      rw [List.find?_cons] at h4
      refine W.cond rfl (fun h => ?_) (fun h => W.skip ?_)
      · rw [h] at h4
        have h1' := h1.chg c16 (by simp)
        have h2' := h2.chg c16 (by simp)
        have h3' := h3.chg c16 (by simp)
        refine W.seq fun K hK => ?_
        refine W.region (by rfl) ?_
        refine Flow.loadA Tf.ty_44 rfl rfl ((bgb.chg c16 (by simp)).cells0) ?_
        refine Flow.store Tf.ty_44 rfl rfl (h1') (vs := [_, _]) rfl rfl (by simp) rfl fun w17 c17 s17 b17 => ?_
        refine Flow.store1 Tf.ty_4 rfl (v := .bool _) rfl (h2'.chg c17 (by simp; omega)) (by simp) rfl fun w18 c18 s18 b18 => ?_
        refine Flow.store1 Tf.ty_28 rfl (v := .int _ _) rfl ((h3'.chg c17 (by simp; omega)).chg c18 (by simp; omega)) (by simp) rfl fun w19 c19 s19 b19 => ?_
        refine hK _ _ _ ?_
        clear hK K
        refine W.ret ⟨(((Chg2.ext c16).step c17 (by simp)).step c18 (by simp)).step c19 (by simp), (slo, shi), h4, (b17.chg c18 (by simp; omega)).chg c19 (by simp; omega), b18.chg c19 (by simp; omega), b19⟩
      · rw [h] at h4
        exact ⟨Chg2.ext c16, ⟨h1.chg c16 (by simp), h2.chg c16 (by simp), h3.chg c16 (by simp)⟩, h4⟩
    · rintro w9 hc hsz hD ⟨⟨h1, h2, h3⟩, h4⟩
      refine hK4 _ _ _ ?_
      have hs9 := hc.size
      have h4 : o = none := by simpa using h4
      refine W.seq fun K hK => ?_
      refine W.region (by rfl) ?_
      refine Flow.buildL Tf.ty_44 Tf.pl_44 (l := []) (zs := [_, _]) (cs := [_, _]) rfl rfl rfl ?_
      refine Flow.store Tf.ty_44 rfl rfl (h1) (vs := [_, _]) rfl rfl (by simp) rfl fun w10 c10 s10 b10 => ?_
      refine Flow.store1 Tf.ty_4 rfl (v := .bool _) rfl (h2.chg c10 (by simp; omega)) (by simp) rfl fun w11 c11 s11 b11 => ?_
      refine Flow.store1 Tf.ty_28 rfl (v := .int _ _) rfl ((h3.chg c10 (by simp; omega)).chg c11 (by simp; omega)) (by simp) rfl fun w12 c12 s12 b12 => ?_
      refine hK _ _ _ ?_
      clear hK K
      have b1012 := (b10.chg c11 (by simp; omega)).chg c12 (by simp; omega)
      have b1112 := b11.chg c12 (by simp; omega)
      have hput := Chg.putObj w12 w8.heap.size (.deferred none)
      refine W.ret ⟨?_, _, resG3 rfl (OneR.cellA Tf.ty_44 rfl (l := [_, _]) rfl (b1012.chg hput (by simp; omega)).cells0) (OneR.cell1 Tf.ty_4 rfl ((b1112.chg hput (by simp; omega)).cell 0)) (OneR.cell1 Tf.ty_28 rfl ((b12.chg hput (by simp; omega)).cell 0)), ?_, ?_⟩
      · exact ((c12.same _ (by omega) (by simp; omega)).trans (c11.same _ (by omega) (by simp; omega))).trans ((c10.same _ (by omega) (by simp; omega)).trans hD)
      · rw [h4, h0]; rfl
      · exact ((((c08.step hc (by simp; omega)).step c10 (by simp; omega)).step c11 (by simp; omega)).step c12 (by simp; omega)).step hput (by simp; omega)
    · rintro w9 hc hsz hD ⟨⟨xlo, xhi⟩, h4, h1, h2, h3⟩
      have hput := Chg.putObj w9 w8.heap.size (.deferred none)
      refine ⟨hD, _, resG3 rfl (OneR.cellA Tf.ty_44 rfl (l := [_, _]) rfl (h1.chg hput (by simp; omega)).cells0) (OneR.cell1 Tf.ty_4 rfl ((h2.chg hput (by simp; omega)).cell 0)) (OneR.cell1 Tf.ty_28 rfl ((h3.chg hput (by simp; omega)).cell 0)), ?_, ?_⟩
      · rw [h4, h0]; rfl
      · exact (c08.step hc (by simp; omega)).step hput (by simp; omega)

end Go.Proofs.YtkoejelglinmnaaGreat

/-
  Contracts: Days, Lost, Close, Without, Wider.
-/
namespace Go.Proofs.YtkoejelglinmnaaGreat
open Sg
set_option maxRecDepth 100000

def daysR (t : Tour) (id : Int) : List Int := if chk t = 0 then (if findS id 0 t.flaws < 0 then [] else daysOfS t (findS id 0 t.flaws)) else []
def idE (t : Tour) (id : Int) : Int := if chk t = 0 then (if findS id 0 t.flaws < 0 then 5 else 0) else chk t

theorem Days_ok (w : World) (t : Tour) (ac af : Option Addr) (cc cf : Nat) (id : Int) (hC : IL w ac t.closed) (hF : FL w af t.flaws) (hcl : t.closed.length ≤ 1000) (hfl : t.flaws.length ≤ 1000) (hx : chk t = 0 → t.flaws.length < 20) :
    Ret Tryz.prog 18 #[.agg #[.int .i64 t.days, .slice ac t.closed.length cc, .slice af t.flaws.length cf], .int .i64 id] w fun v w' => Chg [] w w' ∧ ∃ a c, v = .tuple #[.slice a (daysR t id).length c, .int .i64 (idE t id)] ∧ Mine w.heap.size w' a c (daysR t id) := by
  refine Ret.of_W (n := 21) Tryz.func18 rfl rfl (Nat.le_of_ble_eq_true rfl) ?_
  refine W.seq fun K hK => ?_
  refine W.region (by rfl) ?_
  refine Flow.box rfl (cs := [_, _, _]) rfl fun w1 c1 s1 b1 => ?_
  refine Flow.assignC ?_
  refine Flow.assignC ?_
  refine hK _ _ _ ?_
  clear hK K
  refine W.seq fun K1 hK1 => ?_
  refine W.seq fun K hK => ?_
  refine W.region (by rfl) ?_
  refine Flow.loadA Tf.ty_25 rfl rfl (b1.cells0) ?_
  refine Flow.call1 Tf.hb_55 (v1 := .agg _) rfl ?_
  refine Ret.mono (check_ok _ t ac af cc cf (hC.ext c1) (hF.ext c1) hcl hfl) ?_
  rintro _ w2 ⟨rfl, c2⟩
  refine Flow.assign (v := .int _ _) rfl ?_
  refine hK _ _ _ ?_
  clear hK K
  have c12 := c1.then c2
  refine W.seq fun K hK => ?_
  refine W.region (by rfl) ?_
  refine Flow.move (v := .int _ _) rfl ?_
  refine Flow.neq rfl rfl ?_
  refine hK _ _ _ ?_
  clear hK K
  refine W.cond rfl (fun h => ?_) (fun h => W.skip (hK1 _ _ _ ?_))
  · have h0 : chk t ≠ 0 := by simpa using h
    refine W.seq fun K hK => ?_
    refine W.region (by rfl) ?_
    refine Flow.move (v := .int _ _) rfl ?_
    refine Flow.assignC ?_
    refine Flow.assign (v := .int _ _) rfl ?_
    refine hK _ _ _ ?_
    clear hK K
    refine W.ret ⟨_, res2 rfl (v := .slice _ _ _) (v' := .int _ _) rfl rfl, c12, none, 0, ?_, ?_⟩
    · rw [daysR, idE, if_neg h0, if_neg h0]; rfl
    · rw [daysR, if_neg h0]; exact Mine.nil _ _
  · have h0 : chk t = 0 := by simpa using h
    have hv := chk_valid h0
    have hs := hv.small
    refine W.seq fun K hK => ?_
    refine W.region (by rfl) ?_
    refine Flow.loadA Tf.ty_25 rfl rfl ((b1.chg c2 (by simp)).cells0) ?_
    refine Flow.move (v := .int _ _) rfl ?_
    refine Flow.call2 Tf.hb_76 (v1 := .agg _) rfl (v2 := .int _ _) rfl ?_
    refine Ret.mono (find_ok _ t ac af cc cf id (hF.ext c12) hs) ?_
    rintro _ w3 ⟨rfl, c3⟩
    refine Flow.assign (v := .int _ _) rfl ?_
    refine hK _ _ _ ?_
    clear hK K
    have c13 := c12.then c3
    refine W.seq fun K5 hK5 => ?_
    refine W.seq fun K hK => ?_
    refine W.region (by rfl) ?_
    refine Flow.move (v := .int _ _) rfl ?_
    refine Flow.lss rfl rfl ?_
    refine hK _ _ _ ?_
    clear hK K
    refine W.cond rfl (fun h => ?_) (fun h => W.skip (hK5 _ _ _ ?_))
    · have h1 : findS id 0 t.flaws < 0 := by simpa using h
      refine W.seq fun K hK => ?_
      refine W.region (by rfl) ?_
      refine Flow.assignC ?_
      refine Flow.assignC ?_
      refine hK _ _ _ ?_
      clear hK K
      refine W.ret ⟨_, res2 rfl (v := .slice _ _ _) (v' := .int _ _) rfl rfl, c13, none, 0, ?_, ?_⟩
      · rw [daysR, idE, if_pos h0, if_pos h0, if_pos h1, if_pos h1]; rfl
      · rw [daysR, if_pos h0, if_pos h1]; exact Mine.nil _ _
    · have h1 : ¬ findS id 0 t.flaws < 0 := by simpa using h
      obtain ⟨k, hk⟩ := Int.eq_ofNat_of_zero_le (show 0 ≤ findS id 0 t.flaws by omega)
      have hkl : k < t.flaws.length := by rcases findS_ge id t.flaws with h | h <;> omega
      have e1 : daysR t id = daysOfS t k := by rw [daysR, if_pos h0, if_neg h1, hk]
      have e2 : idE t id = 0 := by rw [idE, if_pos h0, if_neg h1]
      rw [e1, e2, hk]
      refine W.seq fun K hK => ?_
      refine W.region (by rfl) ?_
      refine Flow.loadA Tf.ty_25 rfl rfl (((b1.chg c2 (by simp)).chg c3 (by simp)).cells0) ?_
      refine Flow.move (v := .int _ _) rfl ?_
      refine Flow.call2 Tf.hb_70 (v1 := .agg _) rfl (v2 := .int _ _) rfl ?_
      refine Ret.mono (daysOf_ok _ t ac af cc cf k (hC.ext c13) (hF.ext c13) hv (hx h0) hkl) ?_
      rintro _ w4 ⟨c4, a, c, rfl, hm⟩
      refine Flow.assign (v := .slice _ _ _) rfl ?_
      refine Flow.assignC ?_
      refine hK _ _ _ ?_
      clear hK K
      have := c13.size
      exact W.ret ⟨_, res2 rfl (v := .slice _ _ _) (v' := .int _ _) rfl rfl, c13.then c4, a, c, rfl, hm.weak (by omega)⟩

theorem dayE_ok {t : Tour} {day : Int} (h : dayE t day = 0) : chk t = 0 ∧ 0 ≤ day ∧ day < t.days := by
  unfold dayE at h
  split at h
  · rename_i h0
    split at h
    · exact ⟨h0, by omega, by omega⟩
    · cases h
  · rename_i h0; exact absurd h h0

def lostR (t : Tour) (day : Int) : Int := if dayE t day = 0 then meritS t - meritS (closedS t day) else 0

theorem Lost_ok (w : World) (t : Tour) (ac af : Option Addr) (cc cf : Nat) (day : Int) (hC : IL w ac t.closed) (hF : FL w af t.flaws) (hcl : t.closed.length ≤ 1000) (hfl : t.flaws.length ≤ 1000) (hx : chk t = 0 → t.flaws.length < 20) :
    Ret Tryz.prog 25 #[.agg #[.int .i64 t.days, .slice ac t.closed.length cc, .slice af t.flaws.length cf], .int .i64 day] w fun v w' => v = .tuple #[.int .i64 (lostR t day), .int .i64 (dayE t day)] ∧ Chg [] w w' := by
  refine Ret.of_W (n := 20) Tryz.func25 rfl rfl (Nat.le_of_ble_eq_true rfl) ?_
  refine W.seq fun K hK => ?_
  refine W.region (by rfl) ?_
  refine Flow.box rfl (cs := [_, _, _]) rfl fun w1 c1 s1 b1 => ?_
  refine Flow.assignC ?_
  refine Flow.assignC ?_
  refine hK _ _ _ ?_
  clear hK K
  refine W.seq fun K1 hK1 => ?_
  refine W.seq fun K hK => ?_
  refine W.region (by rfl) ?_
  refine Flow.loadA Tf.ty_25 rfl rfl (b1.cells0) ?_
  refine Flow.move (v := .int _ _) rfl ?_
  refine Flow.call2 Tf.hb_82 (v1 := .agg _) rfl (v2 := .int _ _) rfl ?_
  refine Ret.mono (dayOf_ok _ t ac af cc cf day (hC.ext c1) (hF.ext c1) hcl hfl) ?_
  rintro _ w2 ⟨rfl, c2⟩
  refine Flow.assign (v := .int _ _) rfl ?_
  refine hK _ _ _ ?_
  clear hK K
  have c12 := c1.then c2
  refine W.seq fun K hK => ?_
  refine W.region (by rfl) ?_
  refine Flow.move (v := .int _ _) rfl ?_
  refine Flow.neq rfl rfl ?_
  refine hK _ _ _ ?_
  clear hK K
  refine W.cond rfl (fun h => ?_) (fun h => W.skip (hK1 _ _ _ ?_))
  · have h0 : dayE t day ≠ 0 := by simpa using h
    refine W.seq fun K hK => ?_
    refine W.region (by rfl) ?_
    refine Flow.move (v := .int _ _) rfl ?_
    refine Flow.assignC ?_
    refine Flow.assign (v := .int _ _) rfl ?_
    refine hK _ _ _ ?_
    clear hK K
    exact W.ret ⟨_, res2 rfl (v := .int _ _) (v' := .int _ _) rfl rfl, by rw [lostR, if_neg h0], c12⟩
  · have h0 : dayE t day = 0 := by simpa using h
    obtain ⟨hck, hd⟩ := dayE_ok h0
    have hv := chk_valid hck
    have hs := hv.small
    have hv2 := hv.close hd
    have hm := merit_bd hs
    have hm2 := merit_bd hv2.small
    have b12 := b1.chg c2 (by simp)
    refine W.seq fun K hK => ?_
    refine W.regionD [1, 4, 5] [] (by kernel_rfl) (by kernel_rfl) fun w0 c0 h0' => ?_
    refine FD.val (fun _ hw => Rn.loadA Tf.ty_25 rfl rfl ((b12.chg c0 (by simp)).cells0) (hw rfl rfl)) ?_
    refine FD.eff (by rfl) (Chg.refl _ _) ?_
    refine Flow.call1 Tf.hb_68 (v1 := .agg _) rfl ?_
    refine Ret.mono (merit_ok _ t ac af cc cf (hC.ext (c12.then c0)) (hF.ext (c12.then c0)) hs (hx hck)) ?_
    rintro _ w3 ⟨rfl, c3⟩
    refine Flow.nil ⟨c3, ?_⟩
    refine FD.val (fun _ hw => Rn.loadA Tf.ty_25 rfl rfl ((b12.chg c0 (by simp)).cells0) (hw rfl rfl)) ?_
    refine FD.val (fun _ hw => Rn.move (v := .int _ _) rfl) ?_
    refine FD.eff (by rfl) (c3) ?_
    refine Flow.call2 Tf.hb_81 (v1 := .agg _) rfl (v2 := .int _ _) rfl ?_
    refine Ret.mono (closed_ok _ t ac af cc cf day (hC.ext (c12.then (c0.then c3))) (hF.ext (c12.then (c0.then c3))) hs.cl hs.fl hv.cs) ?_
    rintro _ w4 ⟨c4, a3, k3, a4, k4, rfl, hm3, hm4⟩
    refine Flow.nil ⟨c4, ?_⟩
    refine FD.eff (by rfl) ((c3).then c4) ?_
    refine Flow.call1 Tf.hb_68 (v1 := .agg _) rfl ?_
    refine Ret.mono (merit_ok _ (closedS t day) a3 a4 k3 k4 hm3.il hm4.fl hv2.small (hx hck)) ?_
    rintro _ w5 ⟨rfl, c5⟩
    refine Flow.nil ⟨c5, ?_⟩
    refine FD.val (fun _ hw => Rn.sub rfl rfl (by omega) (by omega)) ?_
    refine FD.val (fun _ hw => Rn.assign (v := .int _ _) rfl) ?_
    refine FD.val (fun _ hw => Rn.assignC) ?_
    refine FD.nil ?_
    refine hK _ _ _ ?_
    clear hK K
    exact W.ret ⟨_, res2 rfl (v := .int _ _) (v' := .int _ _) rfl rfl, by rw [lostR, if_pos h0, h0], c12.then (c0.then (c3.then (c4.then c5)))⟩

def zeroTour : Tour := ⟨0, [], []⟩
def closeR (t : Tour) (day : Int) : Tour := if dayE t day = 0 then closedS t day else zeroTour

theorem Close_ok (w : World) (t : Tour) (ac af : Option Addr) (cc cf : Nat) (day : Int) (hC : IL w ac t.closed) (hF : FL w af t.flaws) (hcl : t.closed.length ≤ 1000) (hfl : t.flaws.length ≤ 1000) :
    Ret Tryz.prog 32 #[.agg #[.int .i64 t.days, .slice ac t.closed.length cc, .slice af t.flaws.length cf], .int .i64 day] w fun v w' => Chg [] w w' ∧ ∃ u, v = .tuple #[u, .int .i64 (dayE t day)] ∧ TourV w' u (closeR t day) := by
  refine Ret.of_W (n := 17) Tryz.func32 rfl rfl (Nat.le_of_ble_eq_true rfl) ?_
  refine W.seq fun K hK => ?_
  refine W.region (by rfl) ?_
  refine Flow.box rfl (cs := [_, _, _]) rfl fun w1 c1 s1 b1 => ?_
  refine Flow.alloc Tf.ty_25 (cs := [_, _, _]) rfl fun w2 c2 s2 b2 => ?_
  refine Flow.assignC ?_
  refine hK _ _ _ ?_
  clear hK K
  have b12 := b1.chg c2 (by simp)
  have c12 := c1.then c2
  refine W.seq fun K1 hK1 => ?_
  refine W.seq fun K hK => ?_
  refine W.region (by rfl) ?_
  refine Flow.loadA Tf.ty_25 rfl rfl (b12.cells0) ?_
  refine Flow.move (v := .int _ _) rfl ?_
  refine Flow.call2 Tf.hb_82 (v1 := .agg _) rfl (v2 := .int _ _) rfl ?_
  refine Ret.mono (dayOf_ok _ t ac af cc cf day (hC.ext c12) (hF.ext c12) hcl hfl) ?_
  rintro _ w3 ⟨rfl, c3⟩
  refine Flow.assign (v := .int _ _) rfl ?_
  refine hK _ _ _ ?_
  clear hK K
  have c13 := c12.then c3
  have b23 := b2.chg c3 (by simp)
  have hs3 := c3.size
  refine W.seq fun K hK => ?_
  refine W.region (by rfl) ?_
  refine Flow.move (v := .int _ _) rfl ?_
  refine Flow.neq rfl rfl ?_
  refine hK _ _ _ ?_
  clear hK K
  refine W.cond rfl (fun h => ?_) (fun h => W.skip (hK1 _ _ _ ?_))
  · have h0 : dayE t day ≠ 0 := by simpa using h
    refine W.seq fun K hK => ?_
    refine W.region (by rfl) ?_
    refine Flow.buildL Tf.ty_25 Tf.pl_25 (l := []) (zs := [_, _, _]) (cs := [_, _, _]) rfl rfl rfl ?_
    refine Flow.move (v := .int _ _) rfl ?_
    refine Flow.store Tf.ty_25 rfl rfl (b23) (vs := [_, _, _]) rfl rfl (by simp) rfl fun w4 c4 s4 b4 => ?_
    refine Flow.assign (v := .int _ _) rfl ?_
    refine hK _ _ _ ?_
    clear hK K
    refine W.ret ⟨_, resG2 rfl (OneR.cellA Tf.ty_25 rfl (l := [_, _, _]) rfl b4.cells0) (OneR.tmp rfl), c13.step c4 (by simp; omega), _, rfl, ?_⟩
    rw [closeR, if_neg h0]
    exact ⟨none, 0, none, 0, rfl, .inl rfl, .inl rfl⟩
  · have h0 : dayE t day = 0 := by simpa using h
    obtain ⟨hck, hd⟩ := dayE_ok h0
    have hv := chk_valid hck
    have hs := hv.small
    refine W.seq fun K hK => ?_
    refine W.region (by rfl) ?_
    refine Flow.loadA Tf.ty_25 rfl rfl ((b12.chg c3 (by simp)).cells0) ?_
    refine Flow.move (v := .int _ _) rfl ?_
    refine Flow.call2 Tf.hb_81 (v1 := .agg _) rfl (v2 := .int _ _) rfl ?_
    refine Ret.mono (closed_ok _ t ac af cc cf day (hC.ext c13) (hF.ext c13) hs.cl hs.fl hv.cs) ?_
    rintro _ w4 ⟨c4, a3, k3, a4, k4, rfl, hm3, hm4⟩
    refine Flow.store Tf.ty_25 rfl rfl ((b23.chg c4 (by simp))) (vs := [_, _, _]) rfl rfl (by simp) rfl fun w5 c5 s5 b5 => ?_
    refine Flow.assignC ?_
    refine hK _ _ _ ?_
    clear hK K
    refine W.ret ⟨_, resG2 rfl (OneR.cellA Tf.ty_25 rfl (l := [_, _, _]) rfl b5.cells0) (OneR.tmp rfl), (c13.then c4).step c5 (by have := c4.size; simp; omega), _, by rw [h0]; rfl, ?_⟩
    rw [closeR, if_pos h0]
    have hne : ∀ b, w3.heap.size ≤ b → b ∉ ([w1.heap.size] : List Nat) := fun b hb h => by simp at h; omega
    exact ⟨a3, k3, a4, k4, rfl, (hm3.chg c5 (fun b hb => hne b (hm3.2 b hb))).il, (hm4.chg c5 (fun b hb => hne b (hm4.2 b hb))).fl⟩

def withoutR (t : Tour) (ids : List Int) : Tour := if flawsE t ids = 0 then withoutS t (plL t ids) else zeroTour

theorem Without_ok (w : World) (t : Tour) (ac af : Option Addr) (cc cf : Nat) (ai : Option Addr) (ci : Nat) (ids : List Int) (hC : IL w ac t.closed) (hF : FL w af t.flaws) (hcl : t.closed.length ≤ 1000) (hfl : t.flaws.length ≤ 1000) (hI : IL w ai ids) (hn : ids.length ≤ 1000) :
    Ret Tryz.prog 34 #[.agg #[.int .i64 t.days, .slice ac t.closed.length cc, .slice af t.flaws.length cf], .slice ai ids.length ci] w fun v w' => Chg [] w w' ∧ ∃ u, v = .tuple #[u, .int .i64 (flawsE t ids)] ∧ TourV w' u (withoutR t ids) := by
  have hLl := flawsL_len t ids
  refine Ret.of_W (n := 21) Tryz.func34 rfl rfl (Nat.le_of_ble_eq_true rfl) ?_
  refine W.seq fun K hK => ?_
  refine W.region (by rfl) ?_
  refine Flow.box rfl (cs := [_, _, _]) rfl fun w1 c1 s1 b1 => ?_
  refine Flow.alloc Tf.ty_25 (cs := [_, _, _]) rfl fun w2 c2 s2 b2 => ?_
  refine Flow.assignC ?_
  refine hK _ _ _ ?_
  clear hK K
  have b12 := b1.chg c2 (by simp)
  have c12 := c1.then c2
  refine W.seq fun K hK => ?_
  refine W.region (by rfl) ?_
  refine Flow.loadA Tf.ty_25 rfl rfl (b12.cells0) ?_
  refine Flow.move (v := .slice _ _ _) rfl ?_
  refine Flow.call2 Tf.hb_95 (v1 := .agg _) rfl (v2 := .slice _ _ _) rfl ?_
  refine Ret.mono (flaws_ok _ t ac af cc cf ai ci ids (hC.ext c12) (hF.ext c12) hcl hfl (hI.ext c12) hn) ?_
  rintro _ w3 ⟨⟨a, c, rfl, hL, hna⟩, c3⟩
  refine Flow.move (v := .tuple _) rfl ?_
  refine Flow.extract (v := .slice _ _ _) rfl rfl ?_
  refine Flow.extract (v := .int _ _) rfl rfl ?_
  refine Flow.assign (v := .slice _ _ _) rfl ?_
  refine Flow.assign (v := .int _ _) rfl ?_
  refine hK _ _ _ ?_
  clear hK K
  have c13 := c12.then c3
  have b23 := b2.chg c3 (by simp)
  have hs3 := c3.size
  refine W.seq fun K1 hK1 => ?_
  refine W.seq fun K hK => ?_
  refine W.region (by rfl) ?_
  refine Flow.move (v := .int _ _) rfl ?_
  refine Flow.neq rfl rfl ?_
  refine hK _ _ _ ?_
  clear hK K
  refine W.cond rfl (fun h => ?_) (fun h => W.skip (hK1 _ _ _ ?_))
  · have h0 : flawsE t ids ≠ 0 := by simpa using h
    refine W.seq fun K hK => ?_
    refine W.region (by rfl) ?_
    refine Flow.buildL Tf.ty_25 Tf.pl_25 (l := []) (zs := [_, _, _]) (cs := [_, _, _]) rfl rfl rfl ?_
    refine Flow.move (v := .int _ _) rfl ?_
    refine Flow.store Tf.ty_25 rfl rfl (b23) (vs := [_, _, _]) rfl rfl (by simp) rfl fun w4 c4 s4 b4 => ?_
    refine Flow.assign (v := .int _ _) rfl ?_
    refine hK _ _ _ ?_
    clear hK K
    refine W.ret ⟨_, resG2 rfl (OneR.cellA Tf.ty_25 rfl (l := [_, _, _]) rfl b4.cells0) (OneR.tmp rfl), c13.step c4 (by simp; omega), _, rfl, ?_⟩
    rw [withoutR, if_neg h0]
    exact ⟨none, 0, none, 0, rfl, .inl rfl, .inl rfl⟩
  · have h0 : flawsE t ids = 0 := by simpa using h
    have hv := chk_valid (flawsE_chk h0)
    have hs := hv.small
    refine W.seq fun K hK => ?_
    refine W.region (by rfl) ?_
    refine Flow.loadA Tf.ty_25 rfl rfl ((b12.chg c3 (by simp)).cells0) ?_
    refine Flow.move (v := .slice _ _ _) rfl ?_
    refine Flow.call2 Tf.hb_69 (v1 := .agg _) rfl (v2 := .slice _ _ _) rfl ?_
    refine Ret.mono (without_ok _ t ac af cc cf a c (flawsL t ids) (hC.ext c13) (hF.ext c13) hs.cl hs.fl hL (by omega)) ?_
    rintro _ w4 ⟨c4, a3, k3, a4, k4, rfl, hm3, hm4⟩
    refine Flow.store Tf.ty_25 rfl rfl ((b23.chg c4 (by simp))) (vs := [_, _, _]) rfl rfl (by simp) rfl fun w5 c5 s5 b5 => ?_
    refine Flow.assignC ?_
    refine hK _ _ _ ?_
    clear hK K
    refine W.ret ⟨_, resG2 rfl (OneR.cellA Tf.ty_25 rfl (l := [_, _, _]) rfl b5.cells0) (OneR.tmp rfl), (c13.then c4).step c5 (by have := c4.size; simp; omega), _, by rw [h0]; rfl, ?_⟩
    rw [withoutR, if_pos h0]
    have hL2 : flawsL t ids = plL t ids := by rw [flawsL, if_pos h0]
    rw [hL2] at hm4
    have hne : ∀ b, w3.heap.size ≤ b → b ∉ ([w1.heap.size] : List Nat) := fun b hb h => by simp at h; omega
    exact ⟨a3, k3, a4, k4, by rw [hL2]; rfl, (hm3.chg c5 (fun b hb => hne b (hm3.2 b hb))).il, (hm4.chg c5 (fun b hb => hne b (hm4.2 b hb))).fl⟩

end Go.Proofs.YtkoejelglinmnaaGreat

/-
  Contracts: Wider; DeleteFunc; Gain.
-/
namespace Go.Proofs.YtkoejelglinmnaaGreat
open Sg
set_option maxRecDepth 100000

theorem MineF.blk {s : Nat} {w : World} {a : Option Addr} {cap : Nat} {l : List Flaw} (h : MineF s w a cap l) (hl : l ≠ []) :
    ∃ g ex, a = some ⟨g, 0, none⟩ ∧ s ≤ g ∧ Blk w g (flawsC l ++ ex) 81 ∧ l.length * 4 + ex.length = cap * 4 ∧ cap ≤ maxLen := by
  rcases h.1.2 with ⟨_, h0, _⟩ | ⟨g, cs, rfl, hb, h1, h2, h3, h4⟩
  · exact absurd (List.length_eq_zero_iff.1 h0) hl
  · refine ⟨g, cs.drop (l.length * 4), rfl, h.2 g (by simp [ownB]), ?_, ?_, h2⟩
    · rw [← h4, List.take_append_drop]; exact hb
    · rw [List.length_drop]; omega

theorem MineF.of_blk {s : Nat} {w : World} {g cap : Nat} {l : List Flaw} {ex : List Value} (hs : s ≤ g) (hb : Blk w g (flawsC l ++ ex) 81) (hc : l.length * 4 + ex.length = cap * 4) (hm : cap ≤ maxLen) : MineF s w (some ⟨g, 0, none⟩) cap l := by
  refine ⟨⟨flawsC_len l, .inr ⟨g, flawsC l ++ ex, rfl, hb, by omega, hm, by simp [flawsC_len]; omega, ?_⟩⟩, by simp [ownB]; omega⟩
  exact List.take_left' (flawsC_len l)

theorem own_ne {w : World} {T T' : TypeId} {sz len cap g : Nat} {a : Option Addr} {xs cs : List Value} (h : Own w T sz a len cap xs) (hb : Blk w g cs T') (hT : T ≠ T') : g ∉ ownB a := by
  rcases h.2 with ⟨rfl, _⟩ | ⟨g', cs', rfl, hb', _⟩
  · simp [ownB]
  · have := blk_ne hb' hb hT
    simp [ownB]; omega

/-- Other days for a flaw. -/
def widerT (t : Tour) (k : Nat) (lo hi : Int) : Tour := { t with flaws := t.flaws.set k { flawAt t k with lo := lo, hi := hi } }

theorem flawsC_set {l : List Flaw} {k : Nat} (hk : k < l.length) (lo hi : Int) (ex : List Value) :
    (flawsC l ++ ex).take (0 + k * 4 + 1) ++ [.int .i64 lo, .int .i64 hi] ++ (flawsC l ++ ex).drop (0 + k * 4 + 1 + 2) = flawsC (l.set k { l[k] with lo := lo, hi := hi }) ++ ex := by
  have hA : (flawsC (l.take k)).length = k * 4 := by rw [flawsC_len, List.length_take, Nat.min_eq_left (by omega)]
  have e1 : flawsC l ++ ex = flawsC (l.take k) ++ (flawCells l[k] ++ (flawsC (l.drop (k + 1)) ++ ex)) := by
    have h : l = l.take k ++ l[k] :: l.drop (k + 1) := by rw [← List.drop_eq_getElem_cons hk, List.take_append_drop]
    have : flawsC l = flawsC (l.take k) ++ (flawCells l[k] ++ flawsC (l.drop (k + 1))) := by
      exact (congrArg flawsC h).trans (by simp only [flawsC, List.flatMap_append, List.flatMap_cons])
    rw [this]; simp
  have e2 : flawsC (l.set k { l[k] with lo := lo, hi := hi }) ++ ex = flawsC (l.take k) ++ (flawCells { l[k] with lo := lo, hi := hi } ++ (flawsC (l.drop (k + 1)) ++ ex)) := by
    rw [List.set_eq_take_append_cons_drop, if_pos hk]
    simp [flawsC]
  rw [e1, e2, show 0 + k * 4 + 1 = (flawsC (l.take k)).length + 1 from by omega, show (flawsC (l.take k)).length + 1 + 2 = (flawsC (l.take k)).length + 3 from by omega, List.take_length_add_append, List.drop_length_add_append]
  simp [flawCells]

theorem small_wider {t : Tour} (hs : Small t) {k : Nat} (hk : k < t.flaws.length) {lo hi : Int} (h : 0 ≤ lo ∧ hi < t.days) : Small (widerT t k lo hi) := by
  have hg : flawAt t k = t.flaws[k] := flawAt_get (by simpa using hk)
  have hm := List.getElem_mem hk
  refine ⟨hs.dl, hs.dh, hs.cl, by simpa [widerT] using hs.fl, fun f hf => ?_, fun f hf => ?_⟩
  · rcases List.mem_or_eq_of_mem_set hf with hf | rfl
    · exact hs.sp f hf
    · exact h
  · rcases List.mem_or_eq_of_mem_set hf with hf | rfl
    · exact hs.me f hf
    · show 0 ≤ (flawAt t k).merit ∧ (flawAt t k).merit ≤ 4194304
      rw [hg]; exact hs.me _ hm

def widerR (t : Tour) (id lo hi : Int) : Int :=
  if chk t = 0 then (if findS id 0 t.flaws < 0 then 0 else if spanOk t.days lo hi then meritS (widerT t (findS id 0 t.flaws).toNat lo hi) - meritS t else 0) else 0
def widerE (t : Tour) (id lo hi : Int) : Int := if chk t = 0 then (if findS id 0 t.flaws < 0 then 5 else if spanOk t.days lo hi then 0 else 1) else chk t

theorem without_nil (t : Tour) : withoutS t [] = t := by
  have : (withoutS t []).flaws = t.flaws := by
    conv => rhs; rw [flaws_eq t]
    show List.map _ (List.filter _ _) = _
    congr 1
    exact List.filter_eq_self.2 (by simp)
  cases t; simp only [withoutS] at this ⊢; rw [this]

theorem Wider_ok (w : World) (t : Tour) (ac af : Option Addr) (cc cf : Nat) (id lo hi : Int) (hC : IL w ac t.closed) (hF : FL w af t.flaws) (hcl : t.closed.length ≤ 1000) (hfl : t.flaws.length ≤ 1000) (hx : chk t = 0 → t.flaws.length < 20) :
    Ret Tryz.prog 27 #[.agg #[.int .i64 t.days, .slice ac t.closed.length cc, .slice af t.flaws.length cf], .int .i64 id, .agg #[.int .i64 lo, .int .i64 hi]] w fun v w' => v = .tuple #[.int .i64 (widerR t id lo hi), .int .i64 (widerE t id lo hi)] ∧ Chg [] w w' := by
  refine Ret.of_W (n := 38) Tryz.func27 rfl rfl (Nat.le_of_ble_eq_true rfl) ?_
  refine W.seq fun K hK => ?_
  refine W.region (by rfl) ?_
  refine Flow.box rfl (cs := [_, _, _]) rfl fun w1 c1 s1 b1 => ?_
  refine Flow.box rfl (cs := [_, _]) rfl fun w2 c2 s2 b2 => ?_
  refine Flow.assignC ?_
  refine Flow.assignC ?_
  refine hK _ _ _ ?_
  clear hK K
  have b12 := b1.chg c2 (by simp)
  have c12 := c1.then c2
  refine W.seq fun K1 hK1 => ?_
  refine W.seq fun K hK => ?_
  refine W.region (by rfl) ?_
  refine Flow.loadA Tf.ty_25 rfl rfl (b12.cells0) ?_
  refine Flow.call1 Tf.hb_55 (v1 := .agg _) rfl ?_
  refine Ret.mono (check_ok _ t ac af cc cf (hC.ext c12) (hF.ext c12) hcl hfl) ?_
  rintro _ w3 ⟨rfl, c3⟩
  refine Flow.assign (v := .int _ _) rfl ?_
  refine hK _ _ _ ?_
  clear hK K
  have c13 := c12.then c3
  have b13 := b12.chg c3 (by simp)
  have b23 := b2.chg c3 (by simp)
  refine W.seq fun K hK => ?_
  refine W.region (by rfl) ?_
  refine Flow.move (v := .int _ _) rfl ?_
  refine Flow.neq rfl rfl ?_
  refine hK _ _ _ ?_
  clear hK K
  refine W.cond rfl (fun h => ?_) (fun h => W.skip (hK1 _ _ _ ?_))
  · have h0 : chk t ≠ 0 := by simpa using h
    refine W.seq fun K hK => ?_
    refine W.region (by rfl) ?_
    refine Flow.move (v := .int _ _) rfl ?_
    refine Flow.assignC ?_
    refine Flow.assign (v := .int _ _) rfl ?_
    refine hK _ _ _ ?_
    clear hK K
    exact W.ret ⟨_, res2 rfl (v := .int _ _) (v' := .int _ _) rfl rfl, by rw [widerR, widerE, if_neg h0, if_neg h0], c13⟩
  · have h0 : chk t = 0 := by simpa using h
    have hv := chk_valid h0
    have hs := hv.small
    refine W.seq fun K hK => ?_
    refine W.region (by rfl) ?_
    refine Flow.loadA Tf.ty_25 rfl rfl (b13.cells0) ?_
    refine Flow.move (v := .int _ _) rfl ?_
    refine Flow.call2 Tf.hb_76 (v1 := .agg _) rfl (v2 := .int _ _) rfl ?_
    refine Ret.mono (find_ok _ t ac af cc cf id (hF.ext c13) hs) ?_
    rintro _ w4 ⟨rfl, c4⟩
    refine Flow.assign (v := .int _ _) rfl ?_
    refine hK _ _ _ ?_
    clear hK K
    have c14 := c13.then c4
    have b14 := b13.chg c4 (by simp)
    have b24 := b23.chg c4 (by simp)
    refine W.seq fun K5 hK5 => ?_
    refine W.seq fun K hK => ?_
    refine W.region (by rfl) ?_
    refine Flow.move (v := .int _ _) rfl ?_
    refine Flow.lss rfl rfl ?_
    refine hK _ _ _ ?_
    clear hK K
    refine W.cond rfl (fun h => ?_) (fun h => W.skip (hK5 _ _ _ ?_))
    · have h1 : findS id 0 t.flaws < 0 := by simpa using h
      refine W.seq fun K hK => ?_
      refine W.region (by rfl) ?_
      refine Flow.assignC ?_
      refine Flow.assignC ?_
      refine hK _ _ _ ?_
      clear hK K
      exact W.ret ⟨_, res2 rfl (v := .int _ _) (v' := .int _ _) rfl rfl, by rw [widerR, widerE, if_pos h0, if_pos h0, if_pos h1, if_pos h1], c14⟩
    · have h1 : ¬ findS id 0 t.flaws < 0 := by simpa using h
      refine W.seq fun K7 hK7 => ?_
      refine W.seq fun K hK => ?_
      refine W.region (by rfl) ?_
      refine Flow.loadA Tf.ty_25 rfl rfl (b14.cells0) ?_
      refine Flow.loadA Tf.ty_44 rfl rfl (b24.cells0) ?_
      refine Flow.call2 Tf.hb_88 (v1 := .agg _) rfl (v2 := .agg _) rfl ?_
      refine Ret.mono (span_ok _ _ _ _ _ _ _ _ _ _) ?_
      rintro _ w5 ⟨rfl, c5⟩
      refine Flow.not rfl ?_
      refine hK _ _ _ ?_
      clear hK K
      have c15 := c14.then c5
      have b15 := b14.chg c5 (by simp)
      have b25 := b24.chg c5 (by simp)
      refine W.cond rfl (fun h => ?_) (fun h => W.skip (hK7 _ _ _ ?_))
      · have h2 : ¬ spanOk t.days lo hi = true := by simpa using h
        refine W.seq fun K hK => ?_
        refine W.region (by rfl) ?_
        refine Flow.assignC ?_
        refine Flow.assignC ?_
        refine hK _ _ _ ?_
        clear hK K
        exact W.ret ⟨_, res2 rfl (v := .int _ _) (v' := .int _ _) rfl rfl, by rw [widerR, widerE, if_pos h0, if_pos h0, if_neg h1, if_neg h1, if_neg h2, if_neg h2], c15⟩
      · have h2 : spanOk t.days lo hi = true := by simpa using h
        have hsp : 0 ≤ lo ∧ lo ≤ hi ∧ hi < t.days := by simpa [spanOk] using h2
        obtain ⟨k, hk⟩ := Int.eq_ofNat_of_zero_le (show 0 ≤ findS id 0 t.flaws by omega)
        have hkl : k < t.flaws.length := by rcases findS_ge id t.flaws with h | h <;> omega
        have e1 : widerR t id lo hi = meritS (widerT t k lo hi) - meritS t := by rw [widerR, if_pos h0, if_neg h1, if_pos h2, hk]; rfl
        have e2 : widerE t id lo hi = 0 := by rw [widerE, if_pos h0, if_neg h1, if_pos h2]
        rw [e1, e2, hk]
        refine W.seq fun K hK => ?_
        refine W.region (by rfl) ?_
        refine Flow.loadA Tf.ty_25 rfl rfl (b15.cells0) ?_
        refine Flow.call2 Tf.hb_69 (v1 := .agg _) rfl (v2 := .slice _ _ _) rfl ?_
        refine Ret.mono (without_ok _ t ac af cc cf none 0 [] (hC.ext c15) (hF.ext c15) hs.cl hs.fl (.inl rfl) (by simp)) ?_
        rintro _ w6 ⟨c6, a1, k1, a2, k2, rfl, hm1, hm2⟩
        refine Flow.alloc Tf.ty_25 (cs := [_, _, _]) rfl fun w7 c7 s7 b7 => ?_
        refine Flow.store Tf.ty_25 rfl rfl (b7) (vs := [_, _, _]) rfl rfl (by simp) rfl fun w8 c8 s8 b8 => ?_
        refine hK _ _ _ ?_
        clear hK K
        rw [without_nil] at hm2 b8
        have hs6 := c6.size
        have c68 : Chg [] w6 w8 := c7.step c8 (by simp)
        have hm18 := (hm1.ext c68)
        obtain ⟨g, ex, rfl, hg, bg, hcap, hmax⟩ := (hm2.ext c68).blk (fun h => by rw [h] at hkl; simp at hkl)
        have hgl : g ≠ w6.heap.size := by
          rintro rfl
          have := hm2.1.lt w6.heap.size (by simp [ownB])
          omega
        refine W.seq fun K hK => ?_
        refine W.region (by rfl) ?_
        refine Flow.fieldAddr Tf.fo_25_2 rfl ?_
        refine Flow.load1 Tf.ty_23 rfl (b8.cell 2) ?_
        refine Flow.move (v := .int _ _) rfl ?_
        refine Flow.loadA Tf.ty_44 rfl rfl ((b25.chg (c6.then c68) (by simp)).cells0) ?_
        refine Flow.indexAddr Tf.sl_23 rfl rfl (by omega) (by omega) ?_
        refine Flow.fieldAddr Tf.fo_81_1 rfl ?_
        refine Flow.store Tf.ty_44 rfl rfl (bg) (vs := [_, _]) rfl rfl (by rw [List.length_append, flawsC_len]; omega) rfl fun w9 c9 s9 b9 => ?_
        refine hK _ _ _ ?_
        clear hK K
        have e9 : (flawsC t.flaws ++ ex).take (0 + k * 4 + 1) ++ [.int .i64 lo, .int .i64 hi] ++ (flawsC t.flaws ++ ex).drop (0 + k * 4 + 1 + 2) = flawsC (widerT t k lo hi).flaws ++ ex := by
          rw [flawsC_set hkl, widerT, show flawAt t k = t.flaws[k] from flawAt_get (by simpa using hkl)]
        have b9 : Blk w9 g (flawsC (widerT t k lo hi).flaws ++ ex) 81 := by rw [← e9]; exact b9
        have hlen : (widerT t k lo hi).flaws.length = t.flaws.length := by simp [widerT]
        have hm9 : MineF w5.heap.size w9 (some ⟨g, 0, none⟩) k2 (widerT t k lo hi).flaws := MineF.of_blk hg b9 (by rw [hlen]; exact hcap) hmax
        have b89 := b8.chg c9 (by simp; omega)
        have hs5 := c15.size
        have hoff : ∀ b, b < w5.heap.size → b ∉ ([g] : List Nat) := fun b hb h => by simp at h; omega
        have hCx := (hC.ext (c15.then (c6.then c68))).chg c9 (hC.off (by simp; omega))
        have hFx := (hF.ext (c15.then (c6.then c68))).chg c9 (hF.off (by simp; omega))
        have b19 := (b15.chg (c6.then c68) (by simp)).chg c9 (hoff _ (by have := b15.lt; omega))
        have c59 : Chg [] w5 w9 := (c6.then c68).step c9 (by simp; omega)
        have hs2 := small_wider hs hkl (lo := lo) (hi := hi) ⟨hsp.1, hsp.2.2⟩
        have hmb := merit_bd hs
        have hmb2 := merit_bd hs2
        have hI9 : IL w9 a1 (widerT t k lo hi).closed := by
          have hne := own_ne hm18.1 bg (by decide)
          exact (hm18.chg c9 (fun b hb h => by simp at h; exact hne (h ▸ hb))).il
        refine W.seq fun K hK => ?_
        refine W.regionD [1, 3] [] (by kernel_rfl) (by kernel_rfl) fun w0 c0 h0' => ?_
        refine FD.val (fun _ hw => Rn.loadA Tf.ty_25 rfl rfl ((b89.chg c0 (by simp)).cells0) (hw rfl rfl)) ?_
        refine FD.eff (by rfl) (Chg.refl _ _) ?_
        refine Flow.call1 Tf.hb_68 (v1 := .agg _) rfl ?_
        refine Ret.mono (hlen ▸ merit_ok _ (widerT t k lo hi) a1 (some ⟨g, 0, none⟩) k1 k2 (hI9.ext c0) (hm9.fl.ext c0) hs2 (by have := hx h0; omega)) ?_
        rintro _ w10 ⟨rfl, c10⟩
        refine Flow.nil ⟨c10, ?_⟩
        refine FD.val (fun _ hw => Rn.loadA Tf.ty_25 rfl rfl ((b19.chg c0 (by simp)).cells0) (hw rfl rfl)) ?_
        refine FD.eff (by rfl) (c10) ?_
        refine Flow.call1 Tf.hb_68 (v1 := .agg _) rfl ?_
        refine Ret.mono (merit_ok _ t ac af cc cf (hCx.ext (c0.then c10)) (hFx.ext (c0.then c10)) hs (hx h0)) ?_
        rintro _ w11 ⟨rfl, c11⟩
        refine Flow.nil ⟨c11, ?_⟩
        refine FD.val (fun _ hw => Rn.sub rfl rfl (by omega) (by omega)) ?_
        refine FD.val (fun _ hw => Rn.assign (v := .int _ _) rfl) ?_
        refine FD.val (fun _ hw => Rn.assignC) ?_
        refine FD.nil ?_
        refine hK _ _ _ ?_
        clear hK K
        exact W.ret ⟨_, res2 rfl (v := .int _ _) (v' := .int _ _) rfl rfl, rfl, (c15.then c59).then (c0.then (c10.then c11))⟩

/-! ### DeleteFunc -/
theorem filt_none {p : Int → Bool} {l : List Int} (h : ∀ y ∈ l, p y = false) : l.filter (fun x => !p x) = l := List.filter_eq_self.2 fun y hy => by rw [h y hy]; rfl

set_option maxHeartbeats 1000000 in
theorem deleteFunc_ok (s : Nat) (w : World) (a : Option Addr) (cap : Nat) (l : List Int) (fn : FuncId) (caps : Array Value) (p : Int → Bool) (hm : Mine s w a cap l) (hn : l.length ≤ 1000) (hb : HasBody Tryz.prog fn)
    (hp : ∀ x ∈ l, ∀ w1, Chg (ownB a) w w1 → Ret Tryz.prog fn (#[.int .i64 x] ++ caps) w1 fun v w2 => v = .bool (p x) ∧ Chg [] w1 w2) :
    Ret Tryz.prog 83 #[.slice a l.length cap, .func (.func fn) #[] caps] w fun v w' => Chg (ownB a) w w' ∧ v = .slice a (l.filter fun x => !p x).length cap ∧ Mine s w' a cap (l.filter fun x => !p x) := by
  have hfind : ∀ (x : Int) (rest : List Int) (w1 : World), x ∈ l → (Chg [] w w1 ∧ ∃ k, x :: rest = l.drop k ∧ ∀ y ∈ l.take k, p y = false) → Ret Tryz.prog fn (#[.int .i64 x] ++ caps) w1 fun v w2 =>
      (v = .bool true ∧ (Chg [] w w2 ∧ ∃ k, x :: rest = l.drop k ∧ (∀ y ∈ l.take k, p y = false) ∧ p x = true)) ∨ (v = .bool false ∧ (Chg [] w w2 ∧ ∃ k, rest = l.drop k ∧ ∀ y ∈ l.take k, p y = false)) := by
    rintro x rest w1 hx ⟨hc, k, hk, hall⟩
    refine Ret.mono (hp x hx w1 (hc.mono (by simp))) ?_
    rintro v w2 ⟨rfl, hc2⟩
    cases hpx : p x with
    | true => exact .inl ⟨rfl, hc.then hc2, k, hk, hall, rfl⟩
    | false =>
      have hkl : k < l.length := by
        apply Classical.byContradiction
        intro h
        rw [List.drop_eq_nil_of_le (by omega)] at hk
        cases hk
      rw [List.drop_eq_getElem_cons hkl] at hk
      injection hk with h1 h2
      refine .inr ⟨rfl, hc.then hc2, k + 1, h2, fun y hy => ?_⟩
      rw [List.take_add_one, List.mem_append] at hy
      rcases hy with hy | hy
      · exact hall y hy
      · rw [List.getElem?_eq_getElem hkl] at hy
        simp at hy
        rw [hy, ← h1]; exact hpx
  refine Ret.of_W (n := 42) Tryz.func83 rfl rfl (Nat.le_of_ble_eq_true rfl) ?_
  refine W.seq fun K hK => ?_
  refine W.region (by rfl) ?_
  refine Flow.assignC ?_
  refine hK _ _ _ ?_
  clear hK K
  refine W.seq fun K hK => ?_
  refine W.region (by rfl) ?_
  refine Flow.move (v := .slice _ _ _) rfl ?_
  refine Flow.move (v := .func _ _ _) rfl ?_
  refine Flow.call2 Tf.hb_139 (v1 := .slice _ _ _) rfl (v2 := .func _ _ _) rfl ?_
  refine Ret.mono (indexFuncE_ok w a cap l fn caps (fun rest w1 => Chg [] w w1 ∧ ∃ k, rest = l.drop k ∧ ∀ y ∈ l.take k, p y = false) (fun rest w1 => ∃ x r, rest = x :: r ∧ (Chg [] w w1 ∧ ∃ k, x :: r = l.drop k ∧ (∀ y ∈ l.take k, p y = false) ∧ p x = true)) (by omega) hb (fun _ w1 h => hm.il.ext h.1) ⟨Chg.refl _ _, 0, rfl, by simp⟩ (fun x rest w1 hx h => Ret.mono (hfind x rest w1 hx h) (fun v w2 h => h.imp (fun h => ⟨h.1, x, rest, rfl, h.2⟩) id))) ?_
  rintro _ w1 (⟨k, rfl, hk, x, r, hxr, hc1, k', hk', hall, hpx⟩ | ⟨rfl, hc1, k', hk', hall⟩)
  · have hkk : k' = k := by
      have h1 := congrArg List.length hxr
      have h2 := congrArg List.length hk'
      simp at h1 h2
      omega
    subst hkk
    rw [List.drop_eq_getElem_cons hk] at hk'
    injection hk' with hx1 hx2
    subst hx1
    obtain ⟨g, ex, rfl, hg, bg, hcap, hmax⟩ := hm.blk (fun h => by rw [h] at hk; simp at hk)
    have hW0 : (l.take k').filter (fun x => !p x) = l.take k' := filt_none hall
    have hW1 : (l.take (k' + 1)).filter (fun x => !p x) = l.take k' := by
      rw [List.take_add_one, List.getElem?_eq_getElem hk, List.filter_append, hW0]
      simp [hpx]
    have hlW : (l.take k').length = k' := by rw [List.length_take]; omega
    refine Flow.assign (v := .int _ _) rfl ?_
    refine hK _ _ _ ?_
    clear hK K
    refine W.seq fun K2 hK2 => ?_
    refine W.seq fun K hK => ?_
    refine W.region (by rfl) ?_
    refine Flow.move (v := .int _ _) rfl ?_
    refine Flow.eqlD (c := false) rfl rfl (decide_eq_false (by omega)) ?_
    refine hK _ _ _ ?_
    clear hK K
    refine W.cond (t := false) rfl (fun h => by simp at h) (fun _ => W.skip (hK2 _ _ _ ?_))
    refine W.seq fun K3 hK3 => ?_
    refine W.seq fun K hK => ?_
    refine W.region (by rfl) ?_
    refine Flow.move (v := .int _ _) rfl ?_
    refine Flow.add rfl rfl (by omega) (by omega) ?_
    refine Flow.assign (v := .int _ _) rfl ?_
    refine hK _ _ _ ?_
    clear hK K
    refine W.block ?_
    refine W.loop (ι := Nat × List Value) (fun q ds e w' => ds = [] ∧ q.1 ≤ l.length ∧ AllAt e [(0, .slice (some ⟨g, 0, none⟩) l.length cap), (1, .func (.func fn) #[] caps), (5, .int .i64 ((l.take q.1).filter fun x => !p x).length), (6, .int .i64 q.1)] ∧
        Chg [g] w w' ∧ 0 < q.2.length ∧ ((l.take q.1).filter fun x => !p x).length + q.2.length = q.1 ∧ Blk w' g (ints ((l.take q.1).filter fun x => !p x) ++ q.2 ++ ints (l.drop q.1) ++ ex) 3)
      (fun q => l.length - q.1) (i0 := (k' + 1, [.int .i64 l[k']])) ⟨rfl, by simp only; omega, ⟨rfl, rfl, by rw [hW1, hlW]; rfl, rfl, trivial⟩, hc1.mono (by simp), by simp, by simp only [hW1, hlW, List.length_singleton], ?_⟩ ?_
    · have : ints (l.take k') ++ [Value.int .i64 l[k']] ++ ints (l.drop (k' + 1)) ++ ex = ints l ++ ex := by
        congr 1
        rw [ints, ints, ints, ← List.map_singleton (f := Value.int .i64), ← List.map_append, ← List.map_append]
        congr 1
        rw [List.append_assoc, List.singleton_append, ← List.drop_eq_getElem_cons hk, List.take_append_drop]
      simp only [hW1]
      rw [this]
      exact bg.chg hc1 (by simp)
    rintro ⟨j, junk⟩ ds e w2 ⟨rfl, hj, hE, hc2, hj0, hji, hb2⟩
    simp only at hj hj0 hji hb2
    obtain ⟨Wj, hWj⟩ : ∃ Wj, Wj = (l.take j).filter fun x => !p x := ⟨_, rfl⟩
    simp only [← hWj] at hE hji hb2
    obtain ⟨e, rfl⟩ : ∃ e0, e = putL e0 _ := ⟨e, putL_self hE⟩
    clear hE
    simp only
    refine W.seq fun K5 hK5 => ?_
    refine W.seq fun K hK => ?_
    refine W.region (by rfl) ?_
    refine Flow.move (v := .int _ _) rfl ?_
    refine Flow.move (v := .slice _ _ _) rfl ?_
    refine Flow.len rfl Tf.us_22 rfl rfl ?_
    refine Flow.lss rfl rfl ?_
    refine hK _ _ _ ?_
    clear hK K
    refine W.cond rfl (fun h => W.skip (hK5 _ _ _ ?_)) (fun h => W.exit ?_)
    · have hlt : j < l.length := by simpa using h
      have hWs : (l.take (j + 1)).filter (fun x => !p x) = Wj ++ (if p l[j] then [] else [l[j]]) := by
        rw [List.take_add_one, List.getElem?_eq_getElem hlt, List.filter_append, hWj]
        cases h : p l[j] <;> simp [h]
      have hdr : ints (l.drop j) = .int .i64 l[j] :: ints (l.drop (j + 1)) := by rw [List.drop_eq_getElem_cons hlt]; rfl
      rw [hdr] at hb2
      have hcell : w2.cell? ⟨g, 0 + j, none⟩ = some (.int .i64 l[j]) := by
        rw [hb2.cell, Nat.zero_add, List.append_assoc, List.getElem?_append_right (by simp [ints]; omega)]
        simp [ints, hji]
      refine W.seq fun K6 hK6 => ?_
      refine W.block ?_
      refine W.seq fun K hK => ?_
      refine W.region (by rfl) ?_
      refine Flow.move (v := .slice _ _ _) rfl ?_
      refine Flow.move (v := .int _ _) rfl ?_
      refine Flow.indexAddr1 Tf.sl_22 rfl rfl (by omega) (by omega) ?_
      refine Flow.load1 Tf.ty_3 rfl (hcell) ?_
      refine Flow.assign (v := .int _ _) rfl ?_
      refine hK _ _ _ ?_
      clear hK K
      refine W.seq fun K hK => ?_
      refine W.region (by rfl) ?_
      refine Flow.move (v := .func _ _ _) rfl ?_
      refine Flow.move (v := .int _ _) rfl ?_
      refine Flow.callV1 rfl hb (v1 := .int _ _) rfl ?_
      refine Ret.mono (hp _ (List.getElem_mem hlt) _ (by simpa [ownB] using hc2)) ?_
      rintro _ w3 ⟨rfl, c3⟩
      refine Flow.not rfl ?_
      refine hK _ _ _ ?_
      clear hK K
      have hb3 := hb2.chg c3 (by simp)
      refine W.cond rfl (fun h => ?_) (fun h => W.skip (hK6 _ _ _ ?_))
      · have hpj : p l[j] = false := by simpa using h
        rw [hpj] at hWs
        obtain ⟨q, junk', rfl⟩ : ∃ q junk', junk = q :: junk' := by
          cases junk with
          | nil => simp at hj0
          | cons q junk' => exact ⟨q, junk', rfl⟩
        refine W.seq fun K hK => ?_
        refine W.region (by rfl) ?_
        refine Flow.move (v := .slice _ _ _) rfl ?_
        refine Flow.move (v := .int _ _) rfl ?_
        refine Flow.move (v := .int _ _) rfl ?_
        refine Flow.indexAddr1 Tf.sl_22 rfl rfl (by omega) (by omega) ?_
        refine Flow.store1 Tf.ty_3 rfl (v := .int _ _) rfl (hb3) (by simp [ints] <;> omega) rfl fun w4 c4 s4 b4 => ?_
        refine hK _ _ _ ?_
        clear hK K
        refine W.region (by rfl) ?_
        refine Flow.move (v := .int _ _) rfl ?_
        refine Flow.add rfl rfl (by omega) (by omega) ?_
        refine Flow.assign (v := .int _ _) rfl ?_
        refine Flow.nil (hK6 _ _ _ ?_)
        refine W.region (by rfl) ?_
        refine Flow.move (v := .int _ _) rfl ?_
        refine Flow.add rfl rfl (by omega) (by omega) ?_
        refine Flow.assign (v := .int _ _) rfl ?_
        have hnew : (ints Wj ++ q :: junk' ++ Value.int .i64 l[j] :: ints (l.drop (j + 1)) ++ ex).set (0 + Wj.length) (.int .i64 l[j]) = ints (Wj ++ [l[j]]) ++ (junk' ++ [.int .i64 l[j]]) ++ ints (l.drop (j + 1)) ++ ex := by
          rw [Nat.zero_add, List.append_assoc, List.append_assoc, List.set_append_right _ _ (by simp [ints])]
          simp [ints]
        have b4 : Blk w4 g (ints (Wj ++ [l[j]]) ++ (junk' ++ [.int .i64 l[j]]) ++ ints (l.drop (j + 1)) ++ ex) 3 := by rw [← hnew]; exact b4
        refine Flow.nil ⟨(j + 1, junk' ++ [.int .i64 l[j]]), by simp only; omega, rfl, by simp only; omega, ⟨rfl, rfl, by rw [hWs]; simp; rfl, rfl, trivial⟩, (hc2.trans c3 (fun _ _ h => by simp at h)).trans c4 (fun _ _ h => h), by simp, ?_, ?_⟩
        · simp only [hWs]; simp at hji ⊢; omega
        · simp only [hWs]; exact b4
      · have hpj : p l[j] = true := by simpa using h
        rw [hpj] at hWs
        have hWs : (l.take (j + 1)).filter (fun x => !p x) = Wj := by rw [hWs]; simp
        refine W.region (by rfl) ?_
        refine Flow.move (v := .int _ _) rfl ?_
        refine Flow.add rfl rfl (by omega) (by omega) ?_
        refine Flow.assign (v := .int _ _) rfl ?_
        refine Flow.nil ⟨(j + 1, junk ++ [.int .i64 l[j]]), by simp only; omega, rfl, by simp only; omega, ⟨rfl, rfl, by rw [hWs]; rfl, rfl, trivial⟩, hc2.trans c3 (fun _ _ h => by simp at h), by simp, ?_, ?_⟩
        · simp only [hWs]; simp; omega
        · simp only [hWs]; simpa using hb3
    · have hge : j = l.length := by simp at h; omega
      subst hge
      rw [List.take_length] at hWj
      rw [List.drop_length] at hb2
      have hle : Wj.length ≤ l.length := by omega
      refine hK3 _ _ _ ?_
      have hl0 : 0 < l.length := by omega
      refine W.seq fun K hK => ?_
      refine W.region (by rfl) ?_
      refine Flow.move (v := .slice _ _ _) rfl ?_
      refine Flow.move (v := .int _ _) rfl ?_
      refine Flow.sliceFrom (l := Wj.length) Tf.sl_22 rfl rfl hle (by omega) fun o' ho' => ?_
      refine Flow.clear Tf.sl_22 rfl rfl hb2 (by rw [ho' (by omega)]; simp [ints]; omega) rfl fun w3 c3 s3 b3 => ?_
      refine hK _ _ _ ?_
      clear hK K
      have b3 : Blk w3 g (ints Wj ++ (List.replicate (l.length - Wj.length) (.int .i64 0) ++ ex)) 3 := by
        rw [ho' (by omega)] at b3
        have h1 : (ints Wj ++ junk ++ ints [] ++ ex).take (0 + Wj.length * 1) = ints Wj := by
          rw [List.append_assoc, List.append_assoc]
          exact List.take_left' (by simp [ints])
        have h2 : (ints Wj ++ junk ++ ints [] ++ ex).drop (0 + Wj.length * 1 + (l.length - Wj.length)) = ex := by
          rw [List.drop_append, List.drop_eq_nil_of_le (by simp [ints]; omega), List.nil_append]
          have : 0 + Wj.length * 1 + (l.length - Wj.length) - (ints Wj ++ junk ++ ints []).length = 0 := by simp [ints]; omega
          rw [this, List.drop_zero]
        rw [h1, h2, List.append_assoc] at b3
        exact b3
      refine W.seq fun K hK => ?_
      refine W.region (by rfl) ?_
      refine Flow.move (v := .slice _ _ _) rfl ?_
      refine Flow.move (v := .int _ _) rfl ?_
      refine Flow.sliceTo (h := Wj.length) Tf.sl_22 rfl rfl (by omega) ?_
      refine Flow.assign (v := .slice _ _ _) rfl ?_
      refine hK _ _ _ ?_
      clear hK K
      rw [← hWj]
      exact W.ret ⟨_, res1 rfl (v := .slice _ _ _) rfl, hc2.trans c3 (fun _ _ h => h), rfl, Mine.of_blk hg b3 (by simp; omega) hmax⟩
  · have hdn : l.drop k' = [] := hk'.symm
    have hlk : l.length ≤ k' := List.drop_eq_nil_iff.1 hdn
    rw [List.take_of_length_le hlk] at hall
    refine Flow.assign (v := .int _ _) rfl ?_
    refine hK _ _ _ ?_
    clear hK K
    refine W.seq fun K2 hK2 => ?_
    refine W.seq fun K hK => ?_
    refine W.region (by rfl) ?_
    refine Flow.move (v := .int _ _) rfl ?_
    refine Flow.eqlD (c := true) rfl rfl (decide_eq_true (by omega)) ?_
    refine hK _ _ _ ?_
    clear hK K
    refine W.cond (t := true) rfl (fun _ => ?_) (fun h => by simp at h)
    refine W.seq fun K hK => ?_
    refine W.region (by rfl) ?_
    refine Flow.move (v := .slice _ _ _) rfl ?_
    refine Flow.assign (v := .slice _ _ _) rfl ?_
    refine hK _ _ _ ?_
    clear hK K
    rw [filt_none hall]
    exact W.ret ⟨_, res1 rfl (v := .slice _ _ _) rfl, hc1.mono (by simp), rfl, hm.ext hc1⟩

end Go.Proofs.YtkoejelglinmnaaGreat

/-
  Contracts: Gain; Earliest.
-/
namespace Go.Proofs.YtkoejelglinmnaaGreat
open Sg
set_option maxRecDepth 100000

/-! ### Gain -/
def openT (t : Tour) (day : Int) : Tour := { t with closed := t.closed.filter fun d => !decide (d = day) }

theorem Valid.opened {t : Tour} (h : Valid t) (day : Int) : Valid (openT t day) :=
  ⟨h.d1, h.d2, fun d hd => h.cr d (List.mem_filter.1 hd).1, h.cs.filter _, h.fn, h.fi, h.fs, h.fm, h.nd⟩

def gainR (t : Tour) (day : Int) : Int := if dayE t day = 0 then meritS (openT t day) - meritS t else 0

theorem gain1_ok (w : World) (x day : Int) (bi : Nat) (hi : w.cell? ⟨bi, 0, none⟩ = some (.int .i64 day)) :
    Ret Tryz.prog 85 #[.int .i64 x, .pointer (some ⟨bi, 0, none⟩)] w fun v w' => v = .bool (decide (x = day)) ∧ Chg [] w w' := by
  refine Ret.of_W (n := 7) Tryz.func85 rfl rfl (Nat.le_of_ble_eq_true rfl) ?_
  refine W.seq fun K hK => ?_
  refine W.region (by rfl) ?_
  refine Flow.assignC ?_
  refine hK _ _ _ ?_
  clear hK K
  refine W.seq fun K hK => ?_
  refine W.region (by rfl) ?_
  refine Flow.move (v := .int _ _) rfl ?_
  refine Flow.load1 Tf.ty_3 rfl (hi) ?_
  refine Flow.eql rfl rfl ?_
  refine Flow.assign (v := .bool _) rfl ?_
  refine hK _ _ _ ?_
  clear hK K
  exact W.ret ⟨_, res1 rfl (v := .bool _) rfl, rfl, Chg.refl _ _⟩

theorem Gain_ok (w : World) (t : Tour) (ac af : Option Addr) (cc cf : Nat) (day : Int) (hC : IL w ac t.closed) (hF : FL w af t.flaws) (hcl : t.closed.length ≤ 1000) (hfl : t.flaws.length ≤ 1000) (hx : chk t = 0 → t.flaws.length < 20) :
    Ret Tryz.prog 23 #[.agg #[.int .i64 t.days, .slice ac t.closed.length cc, .slice af t.flaws.length cf], .int .i64 day] w fun v w' => v = .tuple #[.int .i64 (gainR t day), .int .i64 (dayE t day)] ∧ Chg [] w w' := by
  refine Ret.of_W (n := 26) Tryz.func23 rfl rfl (Nat.le_of_ble_eq_true rfl) ?_
  refine W.seq fun K hK => ?_
  refine W.region (by rfl) ?_
  refine Flow.box rfl (cs := [_, _, _]) rfl fun w1 c1 s1 b1 => ?_
  refine Flow.box rfl (cs := [_]) rfl fun w2 c2 s2 b2 => ?_
  refine Flow.assignC ?_
  refine Flow.assignC ?_
  refine hK _ _ _ ?_
  clear hK K
  have b12 := b1.chg c2 (by simp)
  have c12 := c1.then c2
  refine W.seq fun K1 hK1 => ?_
  refine W.seq fun K hK => ?_
  refine W.region (by rfl) ?_
  refine Flow.loadA Tf.ty_25 rfl rfl (b12.cells0) ?_
  refine Flow.load1 Tf.ty_3 rfl (b2.cell 0) ?_
  refine Flow.call2 Tf.hb_82 (v1 := .agg _) rfl (v2 := .int _ _) rfl ?_
  refine Ret.mono (dayOf_ok _ t ac af cc cf day (hC.ext c12) (hF.ext c12) hcl hfl) ?_
  rintro _ w3 ⟨rfl, c3⟩
  refine Flow.assign (v := .int _ _) rfl ?_
  refine hK _ _ _ ?_
  clear hK K
  have c13 := c12.then c3
  have b13 := b12.chg c3 (by simp)
  have b23 := b2.chg c3 (by simp)
  have hs3 := c3.size
  refine W.seq fun K hK => ?_
  refine W.region (by rfl) ?_
  refine Flow.move (v := .int _ _) rfl ?_
  refine Flow.neq rfl rfl ?_
  refine hK _ _ _ ?_
  clear hK K
  refine W.cond rfl (fun h => ?_) (fun h => W.skip (hK1 _ _ _ ?_))
  · have h0 : dayE t day ≠ 0 := by simpa using h
    refine W.seq fun K hK => ?_
    refine W.region (by rfl) ?_
    refine Flow.move (v := .int _ _) rfl ?_
    refine Flow.assignC ?_
    refine Flow.assign (v := .int _ _) rfl ?_
    refine hK _ _ _ ?_
    clear hK K
    exact W.ret ⟨_, res2 rfl (v := .int _ _) (v' := .int _ _) rfl rfl, by rw [gainR, if_neg h0], c13⟩
  · have h0 : dayE t day = 0 := by simpa using h
    obtain ⟨hck, hd⟩ := dayE_ok h0
    have hv := chk_valid hck
    have hs := hv.small
    have hv2 := hv.opened day
    have hmb := merit_bd hs
    have hmb2 := merit_bd hv2.small
    refine W.seq fun K hK => ?_
    refine W.region (by rfl) ?_
    refine Flow.loadA Tf.ty_25 rfl rfl (b13.cells0) ?_
    refine Flow.alloc Tf.ty_25 (cs := [_, _, _]) rfl fun w4 c4 s4 b4 => ?_
    refine Flow.store Tf.ty_25 rfl rfl (b4) (vs := [_, _, _]) rfl rfl (by simp) rfl fun w5 c5 s5 b5 => ?_
    refine hK _ _ _ ?_
    clear hK K
    have c35 : Chg [] w3 w5 := c4.step c5 (by simp)
    refine W.seq fun K hK => ?_
    refine W.region (by rfl) ?_
    refine Flow.fieldAddr Tf.fo_25_1 rfl ?_
    refine Flow.load1 Tf.ty_22 rfl ((b13.chg c35 (by simp)).cell 1) ?_
    refine Flow.call1 Tf.hb_84 (v1 := .slice _ _ _) rfl ?_
    refine Ret.mono (cloneI_ok _ _ _ _ (hC.ext (c13.then c35)) hcl) ?_
    rintro _ w6 ⟨c6, a1, k1, rfl, hm1⟩
    have hs5 := c35.size
    have b26 := b23.chg (c35.then c6) (by simp)
    have l2 := b26.lt
    have hno : ∀ b ∈ ownB a1, w5.heap.size ≤ b := fun b hb => hm1.2 b hb
    have hne1 : ∀ b, b < w5.heap.size → b ∉ ownB a1 := fun b hb h => by have := hno b h; omega
    refine Flow.makeFunc1 rfl ?_
    refine Flow.call2 Tf.hb_83 (v1 := .slice _ _ _) rfl (v2 := .func _ _ _) rfl ?_
    refine Ret.mono (deleteFunc_ok w5.heap.size w6 a1 k1 t.closed 85 #[.pointer (some ⟨w1.heap.size, 0, none⟩)] (fun x => decide (x = day)) hm1 hcl Tf.hb_85 (fun x _ wa hca => gain1_ok wa x day w1.heap.size ((b26.chg hca (hne1 _ (by omega))).cell 0))) ?_
    rintro _ w7 ⟨c7, rfl, hm7⟩
    refine Flow.fieldAddr Tf.fo_25_1 rfl ?_
    refine Flow.store1 Tf.ty_22 rfl (v := .slice _ _ _) rfl ((b5.chg c6 (by simp)).chg c7 (hne1 _ (by omega))) (by simp) rfl fun w8 c8 s8 b8 => ?_
    refine hK _ _ _ ?_
    clear hK K
    have c38 : Chg [] w3 w8 := ((c35.then c6).step c7 (fun b hb => by have := hno b hb; omega)).step c8 (by simp <;> omega)
    have hm8 : Mine w5.heap.size w8 a1 k1 (openT t day).closed := hm7.chg c8 (fun b hb h => by have := hm7.2 b hb; simp at h; omega)
    have b18 := b13.chg c38 (by simp)
    have hC8 := hC.ext (c13.then c38)
    have hF8 := hF.ext (c13.then c38)
    refine W.seq fun K hK => ?_
    refine W.regionD [1, 3] [] (by kernel_rfl) (by kernel_rfl) fun w0 c0 h0' => ?_
    refine FD.val (fun _ hw => Rn.loadA Tf.ty_25 rfl rfl ((b8.chg c0 (by simp)).cells0) (hw rfl rfl)) ?_
    refine FD.eff (by rfl) (Chg.refl _ _) ?_
    refine Flow.call1 Tf.hb_68 (v1 := .agg _) rfl ?_
    refine Ret.mono (merit_ok _ (openT t day) a1 af k1 cf (hm8.il.ext c0) (hF8.ext c0) hv2.small (hx hck)) ?_
    rintro _ w10 ⟨rfl, c10⟩
    refine Flow.nil ⟨c10, ?_⟩
    refine FD.val (fun _ hw => Rn.loadA Tf.ty_25 rfl rfl ((b18.chg c0 (by simp)).cells0) (hw rfl rfl)) ?_
    refine FD.eff (by rfl) (c10) ?_
    refine Flow.call1 Tf.hb_68 (v1 := .agg _) rfl ?_
    refine Ret.mono (merit_ok _ t ac af cc cf (hC8.ext (c0.then c10)) (hF8.ext (c0.then c10)) hs (hx hck)) ?_
    rintro _ w11 ⟨rfl, c11⟩
    refine Flow.nil ⟨c11, ?_⟩
    refine FD.val (fun _ hw => Rn.sub rfl rfl (by omega) (by omega)) ?_
    refine FD.val (fun _ hw => Rn.assign (v := .int _ _) rfl) ?_
    refine FD.val (fun _ hw => Rn.assignC) ?_
    refine FD.nil ?_
    refine hK _ _ _ ?_
    clear hK K
    exact W.ret ⟨_, res2 rfl (v := .int _ _) (v' := .int _ _) rfl rfl, by rw [gainR, if_pos h0, h0], (c13.then c38).then (c0.then (c10.then c11))⟩

/-! ### Earliest -/
def firstS (t : Tour) : Int := ((opens t.closed (flawAt t 0).lo (flawAt t 0).hi).find? fun d => decide (onS t 0 d = meritS t)).getD (-1)
def nextT (t : Tour) : Tour := if 0 ≤ firstS t then closedS (withoutS t [0]) (firstS t) else withoutS t [0]
def earliestF : Nat → Tour → List Int
  | 0, _ => []
  | n + 1, t => firstS t :: earliestF n (nextT t)
def earliestR (t : Tour) : List Int := if chk t = 0 then earliestF t.flaws.length t else []

theorem without_zero (t : Tour) : (withoutS t [0]).flaws = t.flaws.drop 1 := by
  cases h : t.flaws with
  | nil => simp [withoutS, h]
  | cons f fs =>
    show List.map _ (List.filter _ (List.range t.flaws.length)) = _
    rw [h, List.length_cons, List.range_succ_eq_map, List.filter_cons]
    simp only [List.contains_cons, List.contains_nil, Bool.or_false]
    have e0 : (!(((0 : Nat) : Int) == 0)) = false := by decide
    rw [e0]
    simp only [Bool.false_eq_true, if_false, List.drop_succ_cons, List.drop_zero]
    rw [List.filter_eq_self.2 (fun x hx => by obtain ⟨y, _, rfl⟩ := List.mem_map.1 hx; simp; omega)]
    refine List.ext_getElem (by simp) fun i h1 h2 => ?_
    simp only [List.getElem_map, List.getElem_range]
    have hl : i + 1 < t.flaws.length := by rw [h]; simpa using h2
    have := flawAt_get (t := t) (i := ((i + 1 : Nat) : Int)) (by simpa using hl)
    rw [this]
    simp [h]

theorem DsOk.chg2 {s : Nat} {w w' : World} {ds S : List Nat} (h : DsOk s w ds) (hc : Chg S w w') (hS : ∀ b ∈ S, b ∉ ds) : DsOk s w' ds :=
  ⟨h.nd, h.ge, fun D hD => by
    have h1 := h.cell D hD
    exact (hc.same D (Array.getElem?_eq_some_iff.1 h1).1 (fun hm => hS D hm hD)).trans h1⟩

theorem DsOk.no_blk {s : Nat} {w : World} {ds : List Nat} (h : DsOk s w ds) {b : Nat} {cs : List Value} {T : TypeId} (hb : Blk w b cs T) : b ∉ ds := fun hm => by
  have h1 := h.cell b hm
  unfold Blk at hb
  rw [h1] at hb
  cases hb

theorem DsOk.no_own {s : Nat} {w : World} {ds : List Nat} (h : DsOk s w ds) {T : TypeId} {sz len cap : Nat} {a : Option Addr} {xs : List Value} (ho : Own w T sz a len cap xs) : ∀ b ∈ ownB a, b ∉ ds := by
  rcases ho.2 with ⟨rfl, _⟩ | ⟨g', cs', rfl, hb', _⟩
  · simp [ownB]
  · intro b hb
    simp [ownB] at hb
    subst hb
    exact h.no_blk hb'

/-- A tour in a cell of the call's own, whose slices are elsewhere. -/
structure RestM (s : Nat) (w : World) (r : Tour) (ac af : Option Addr) (cc cf rb : Nat) (X : List Nat) : Prop where
  ge : s ≤ rb
  blk : Blk w rb [.int .i64 r.days, .slice ac r.closed.length cc, .slice af r.flaws.length cf] 25
  il : IL w ac r.closed
  fl : FL w af r.flaws
  oc : Off ac r.closed (rb :: X)
  of' : Off af r.flaws (rb :: X)

theorem off_mono {α : Type} {a : Option Addr} {l : List α} {S T : List Nat} (h : Off a l S) (hT : ∀ b ∈ T, b ∈ S) : Off a l T := fun hl x hx hm => h hl x hx (hT _ hm)

theorem RestM.ext {s : Nat} {w w' : World} {r : Tour} {ac af : Option Addr} {cc cf rb : Nat} {X : List Nat} (h : RestM s w r ac af cc cf rb X) (hc : Chg [] w w') : RestM s w' r ac af cc cf rb X :=
  ⟨h.ge, h.blk.chg hc (by simp), h.il.ext hc, h.fl.ext hc, h.oc, h.of'⟩

/-- A block that came later changes. -/
theorem RestM.new {s : Nat} {w w' : World} {r : Tour} {ac af : Option Addr} {cc cf rb : Nat} {X S : List Nat} (h : RestM s w r ac af cc cf rb X) (w0 : World) (h0 : RestM s w0 r ac af cc cf rb X) (hc : Chg S w w') (hS : ∀ b ∈ S, w0.heap.size ≤ b) :
    RestM s w' r ac af cc cf rb X :=
  ⟨h.ge, h.blk.chg hc (fun hm => by have := hS _ hm; have := h0.blk.lt; omega), h.il.chg hc (h0.il.off hS), h.fl.chg hc (h0.fl.off hS), h.oc, h.of'⟩

set_option maxHeartbeats 2000000 in
theorem Earliest_ok (w : World) (t : Tour) (ac af : Option Addr) (cc cf : Nat) (hC : IL w ac t.closed) (hF : FL w af t.flaws) (hcl : t.closed.length ≤ 1000) (hfl : t.flaws.length ≤ 1000) (hx : chk t = 0 → t.flaws.length < 20) :
    Ret Tryz.prog 20 #[.agg #[.int .i64 t.days, .slice ac t.closed.length cc, .slice af t.flaws.length cf]] w fun v w' => Chg [] w w' ∧ ∃ a c, v = .tuple #[.slice a (earliestR t).length c, .int .i64 (chk t)] ∧ Mine w.heap.size w' a c (earliestR t) := by
  refine Ret.of_W (n := 50) Tryz.func20 rfl rfl (Nat.le_of_ble_eq_true rfl) ?_
  refine W.seq fun K hK => ?_
  refine W.region (by rfl) ?_
  refine Flow.box rfl (cs := [_, _, _]) rfl fun w1 c1 s1 b1 => ?_
  refine Flow.assignC ?_
  refine Flow.assignC ?_
  refine hK _ _ _ ?_
  clear hK K
  refine W.seq fun K1 hK1 => ?_
  refine W.seq fun K hK => ?_
  refine W.region (by rfl) ?_
  refine Flow.loadA Tf.ty_25 rfl rfl (b1.cells0) ?_
  refine Flow.call1 Tf.hb_55 (v1 := .agg _) rfl ?_
  refine Ret.mono (check_ok _ t ac af cc cf (hC.ext c1) (hF.ext c1) hcl hfl) ?_
  rintro _ w2 ⟨rfl, c2⟩
  refine Flow.assign (v := .int _ _) rfl ?_
  refine hK _ _ _ ?_
  clear hK K
  have c12 := c1.then c2
  have b12 := b1.chg c2 (by simp)
  refine W.seq fun K hK => ?_
  refine W.region (by rfl) ?_
  refine Flow.move (v := .int _ _) rfl ?_
  refine Flow.neq rfl rfl ?_
  refine hK _ _ _ ?_
  clear hK K
  refine W.cond rfl (fun h => ?_) (fun h => W.skip (hK1 _ _ _ ?_))
  · have h0 : chk t ≠ 0 := by simpa using h
    refine W.seq fun K hK => ?_
    refine W.region (by rfl) ?_
    refine Flow.move (v := .int _ _) rfl ?_
    refine Flow.assignC ?_
    refine Flow.assign (v := .int _ _) rfl ?_
    refine hK _ _ _ ?_
    clear hK K
    refine W.ret ⟨_, res2 rfl (v := .slice _ _ _) (v' := .int _ _) rfl rfl, c12, none, 0, ?_, ?_⟩
    · rw [earliestR, if_neg h0]; rfl
    · rw [earliestR, if_neg h0]; exact Mine.nil _ _
  · have h0 : chk t = 0 := by simpa using h
    have hv := chk_valid h0
    have hlt20 := hx h0
    have hER : earliestR t = earliestF t.flaws.length t := by rw [earliestR, if_pos h0]
    have hs12 := c12.size
    refine W.seq fun K hK => ?_
    refine W.region (by rfl) ?_
    refine Flow.assignC ?_
    refine hK _ _ _ ?_
    clear hK K
    refine W.seq fun K5 hK5 => ?_
    refine W.seq fun K hK => ?_
    refine W.region (by rfl) ?_
    refine Flow.loadA Tf.ty_25 rfl rfl (b12.cells0) ?_
    refine Flow.alloc Tf.ty_25 (cs := [_, _, _]) rfl fun w3 c3 s3 b3 => ?_
    refine Flow.store Tf.ty_25 rfl rfl (b3) (vs := [_, _, _]) rfl rfl (by simp) rfl fun w4 c4 s4 b4 => ?_
    refine hK _ _ _ ?_
    clear hK K
    have c24 : Chg [] w2 w4 := c3.step c4 (by simp)
    have hR4 : RestM w2.heap.size w4 t ac af cc cf w2.heap.size (ownB none) := ⟨Nat.le_refl _, b4, hC.ext (c12.then c24), hF.ext (c12.then c24), hC.off (by simp [ownB]; omega), hF.off (by simp [ownB]; omega)⟩
    refine W.block ?_
    refine W.loop (ι := Nat) (fun n ds e w' => ∃ (r : Tour) (out : List Int) (a : Option Addr) (c : Nat) (ac' af' : Option Addr) (cc' cf' rb : Nat), r.flaws.length = n ∧ DsOk w2.heap.size w' ds ∧ Chg [] w2 w' ∧ AllAt e [(5, .slice a out.length c), (6, .pointer (some ⟨rb, 0, none⟩))] ∧
        RestM w2.heap.size w' r ac' af' cc' cf' rb (ownB a) ∧ Mine w2.heap.size w' a c out ∧ Valid r ∧ r.flaws.length + out.length = t.flaws.length ∧ earliestF t.flaws.length t = out ++ earliestF n r)
      (fun n => n) (i0 := t.flaws.length) ⟨t, [], none, 0, ac, af, cc, cf, w2.heap.size, rfl, DsOk.nil _ _, c24, ⟨rfl, rfl, trivial⟩, hR4, Mine.nil _ _, hv, by simp, by simp⟩ ?_
    rintro n ds e v0 ⟨r, out, a, c, ac', af', cc', cf', rb, hn, hds, hcv, hE, hR, hm, hvr, hlen, hw⟩
    obtain ⟨e, rfl⟩ : ∃ e0, e = putL e0 _ := ⟨e, putL_self hE⟩
    clear hE
    refine W.seq fun K6 hK6 => ?_
    refine W.seq fun K hK => ?_
    refine W.region (by rfl) ?_
    refine Flow.fieldAddr Tf.fo_25_2 rfl ?_
    refine Flow.load1 Tf.ty_23 rfl (hR.blk.cell 2) ?_
    refine Flow.len rfl Tf.us_23 rfl rfl ?_
    refine Flow.gtr rfl rfl ?_
    refine hK _ _ _ ?_
    clear hK K
    refine W.cond rfl (fun h => W.skip (hK6 _ _ _ ?_)) (fun h => W.exit ?_)
    · have hpos : 0 < r.flaws.length := by simp at h; omega
      have hsr := hvr.small
      have hsv := hcv.size
      obtain ⟨m, hm'⟩ : ∃ m, n = m + 1 := ⟨n - 1, by omega⟩
      subst hm'
      rw [earliestF] at hw
      have hget : flawAt r 0 = r.flaws[0] := flawAt_get (t := r) (i := 0) (by simpa using hpos)
      have hfs := hvr.fs _ (List.getElem_mem hpos)
      have hd2 := hvr.d2
      have hrcl := hsr.cl
      obtain ⟨bf, of_, haf, hcellF⟩ := hR.fl.get hpos
      refine W.seq fun K7 hK7 => ?_
      have hnext : ∀ (ds : List Nat) (e : Env) (v : World) (r' : Tour) (a : Option Addr) (c : Nat) (ac' af' : Option Addr) (cc' cf' : Nat), AllAt e [(5, .slice a (out ++ [firstS r]).length c), (6, .pointer (some ⟨rb, 0, none⟩))] → DsOk w2.heap.size v ds → Chg [] w2 v →
          RestM w2.heap.size v r' ac' af' cc' cf' rb (ownB a) → Mine w2.heap.size v a c (out ++ [firstS r]) → Valid r' → r'.flaws.length = m → nextT r = r' → K7 ds e v := by
        intro ds e v r' a c ac' af' cc' cf' hE hds hcv hR hm hv' hl' hr'
        obtain ⟨e, rfl⟩ : ∃ e0, e = putL e0 _ := ⟨e, putL_self hE⟩
        clear hE
        refine hK7 _ _ _ ?_
        refine W.seq fun K hK => ?_
        refine W.region (by rfl) ?_
        refine Flow.loadA Tf.ty_25 rfl rfl (hR.blk.cells0) ?_
        refine hK _ _ _ ?_
        clear hK K
        refine W.region (by rfl) ?_
        refine Flow.alloc Tf.ty_25 (cs := [_, _, _]) rfl fun v1 d1 s1' e1 => ?_
        refine Flow.store Tf.ty_25 rfl rfl (e1) (vs := [_, _, _]) rfl rfl (by simp) rfl fun v2 d2 s2' e2 => ?_
        have d02 : Chg [] v v2 := d1.step d2 (by simp)
        have hsv := hcv.size
        have hrbl := hR.blk.lt
        refine Flow.nil ⟨m, by omega, r', _, a, c, ac', af', cc', cf', v.heap.size, hl', hds.chg2 d02 (by simp), hcv.then d02, ⟨rfl, rfl, trivial⟩, ⟨by omega, e2, hR.il.ext d02, hR.fl.ext d02, ?_, ?_⟩, hm.ext d02, hv', by simp at hn hlen ⊢; omega, ?_⟩
        · exact fun hl x hx hmem => by
            rcases List.mem_cons.1 hmem with h | h
            · have := hR.il.lt hl x hx; omega
            · exact hR.oc hl x hx (List.mem_cons_of_mem _ h)
        · exact fun hl x hx hmem => by
            rcases List.mem_cons.1 hmem with h | h
            · have := hR.fl.lt hl x hx; omega
            · exact hR.of' hl x hx (List.mem_cons_of_mem _ h)
        · rw [hw, hr']; simp
      refine W.block ?_
      refine W.scope ?_
      refine W.seq fun K hK => ?_
      refine W.region (by rfl) ?_
      refine Flow.loadA Tf.ty_25 rfl rfl (hR.blk.cells0) ?_
      refine Flow.call1 Tf.hb_68 (v1 := .agg _) rfl ?_
      refine Ret.mono (merit_ok _ r ac' af' cc' cf' hR.il hR.fl hsr (by omega)) ?_
      rintro _ v1 ⟨rfl, d1⟩
      refine Flow.alloc Tf.ty_3 (cs := [_]) rfl fun v2 d2 s2' e2 => ?_
      refine Flow.store1 Tf.ty_3 rfl (v := .int _ _) rfl (e2) (by simp) rfl fun v3 d3 s3' e3 => ?_
      refine hK _ _ _ ?_
      clear hK K
      have d03 : Chg [] v0 v3 := (d1.then d2).step d3 (by have := d1.size; simp; omega)
      refine W.seq fun K hK => ?_
      refine W.region (by rfl) ?_
      refine Flow.alloc Tf.ty_3 (cs := [_]) rfl fun v4 d4 s4' e4 => ?_
      refine Flow.store1 Tf.ty_3 rfl (v := .int _ _) rfl (e4) (by simp) rfl fun v5 d5 s5' e5 => ?_
      refine hK _ _ _ ?_
      clear hK K
      have d35 : Chg [] v3 v5 := d4.step d5 (by simp)
      have d05 := d03.then d35
      have e35 := e3.chg d35 (by simp)
      refine W.seq fun K8 hK8 => W.label (hK8 _ _ _ ?_)
      refine W.seq fun K9 hK9 => ?_
      have hs1 := d1.size
      have hs5 := d05.size
      subst haf
      refine W.seq fun K hK => ?_
      refine W.regionD [6] [] (by kernel_rfl) (by kernel_rfl) fun u0 q0 h0' => ?_
      refine FD.val (fun _ hw => Rn.loadA Tf.ty_25 rfl rfl ((hR.ext (d05.then q0)).blk.cells0) (hw rfl rfl)) ?_
      refine FD.val (fun _ hw => Rn.fieldAddr Tf.fo_25_2 rfl) ?_
      refine FD.val (fun _ hw => Rn.load1 Tf.ty_23 rfl ((hR.ext (d05.then q0)).blk.cell 2) (hw rfl rfl)) ?_
      refine FD.val (fun _ hw => Rn.indexAddr Tf.sl_23 rfl rfl (by omega) (by omega)) ?_
      refine FD.val (fun _ hw => Rn.fieldAddr Tf.fo_81_1 rfl) ?_
      refine FD.val (fun _ hw => Rn.loadA Tf.ty_44 rfl rfl (show Cells _ bf (of_ + 0 * 4 + 1) [.int .i64 r.flaws[0].lo, .int .i64 r.flaws[0].hi] from ⟨(Cells.chg (d05.then q0) (by simp) (hcellF 0 hpos)).2.1, (Cells.chg (d05.then q0) (by simp) (hcellF 0 hpos)).2.2.1, trivial⟩) (hw rfl rfl)) ?_
      refine FD.eff (by rfl) (Chg.refl _ _) ?_
      refine Flow.call2 Tf.hb_79 (v1 := .agg _) rfl (v2 := .agg _) rfl ?_
      refine Ret.mono (open_ok _ r ac' _ cc' cf' r.flaws[0].lo r.flaws[0].hi (hR.ext (d05.then q0)).il (by omega) (by omega)) ?_
      rintro _ v6 ⟨q6, bs, bt, rfl, hB, hl1, hl2, hl3, hl4⟩
      refine Flow.nil ⟨q6, ?_⟩
      refine FD.nil ?_
      refine hK _ _ _ ?_
      clear hK K
      have hsu := q0.size
      have hs6 := q6.size
      have d56 := q0.then q6
      have d06 := d05.then d56
      have hR6 := hR.ext d06
      have e36 := e35.chg d56 (by simp)
      have e56 := e5.chg d56 (by simp)
      have hm6 := hm.ext d06
      have hds6 := hds.chg2 d06 (by simp)
      have hrbl := hR.blk.lt
      have l3 := e36.lt
      have l5 := e56.lt
      have hmo : ∀ b ∈ ownB a, b < v0.heap.size := hm.1.lt
      have hrbo : rb ∉ ownB a := own_ne hm.1 hR.blk (by decide)
      have hnext9 : ∀ (ds : List Nat) (e : Env) (v7 : World), DsOk w2.heap.size v7 ds → AllAt e [(5, .slice a out.length c), (6, .pointer (some ⟨rb, 0, none⟩)), (8, .pointer (some ⟨v3.heap.size, 0, none⟩))] → Chg [v3.heap.size] v6 v7 → Blk v7 v3.heap.size [.int .i64 (firstS r)] 3 → K9 ds e v7 := by
        intro ds e v7 hds7 hE q7 e7
        obtain ⟨e, rfl⟩ : ∃ e0, e = putL e0 _ := ⟨e, putL_self hE⟩
        clear hE
        refine hK9 _ _ _ ?_
        have hR7 : RestM w2.heap.size v7 r ac' _ cc' cf' rb (ownB a) := hR6.new v0 hR q7 (by simp; omega)
        have hm7 : Mine w2.heap.size v7 a c out := hm6.chg q7 (fun b hb h => by have := hmo b hb; simp at h; omega)
        have hs7 := q7.size
        have d07 : Chg [] v0 v7 := d06.step q7 (by simp; omega)
        refine W.seq fun K hK => ?_
        refine W.region (by rfl) ?_
        refine Flow.move (v := .slice _ _ _) rfl ?_
        refine Flow.load1 Tf.ty_3 rfl (e7.cell 0) ?_
        refine Flow.buildSlice1 Tf.sl_22 Tf.us_22 rfl (by decide) (by decide) rfl (cs := [_]) rfl rfl fun v8 d8 s8' e8 => ?_
        refine Flow.append Tf.sl_22 Tf.us_22 rfl (by decide) rfl rfl ((hm7.ext d8).1) (e8.cells0) rfl rfl (by have := hx h0; omega) (by have := hx h0; omega) fun a5 cap5 v9 o5 d9 hd5 hn5 => ?_
        refine Flow.assign (v := .slice _ _ _) rfl ?_
        refine hK _ _ _ ?_
        clear hK K
        have hm9 := (hm7.ext d8).app (by have := d07.size; omega) o5 hd5
        have hds9 := (hds7.chg2 d8 (by simp)).chg2 d9 ((hds7.chg2 d8 (by simp)).no_own (hm7.ext d8).1)
        have e79 : Blk v9 v3.heap.size [.int .i64 (firstS r)] 3 := (e7.chg d8 (by simp)).chg d9 (fun h => by have := hmo _ h; omega)
        have hR9 : RestM w2.heap.size v9 r ac' _ cc' cf' rb [] :=
          ⟨hR.ge, (hR7.ext d8).blk.chg d9 hrbo, (hR7.ext d8).il.chg d9 (off_mono hR.oc (fun b hb => List.mem_cons_of_mem _ hb)), (hR7.ext d8).fl.chg d9 (off_mono hR.of' (fun b hb => List.mem_cons_of_mem _ hb)), off_mono hR.oc (by simp), off_mono hR.of' (by simp)⟩
        have hs9 := d9.size
        have d29 : Chg [] w2 v9 := ((hcv.then d07).then d8).step d9 (fun b hb => hm.2 b hb)
        have hmo9 : ∀ b ∈ ownB a5, b < v9.heap.size := hm9.1.lt
        have hrbo9 : rb ∉ ownB a5 := own_ne hm9.1 hR9.blk (by decide)
        have hrb9 := hR9.blk.lt
        refine W.seq fun K hK => ?_
        refine W.region (by rfl) ?_
        refine Flow.loadA Tf.ty_25 rfl rfl (hR9.blk.cells0) ?_
        refine Flow.buildSlice1 Tf.sl_22 Tf.us_22 rfl (by decide) (by decide) rfl (cs := [_]) rfl rfl fun v10 d10 s10' e10 => ?_
        refine Flow.call2 Tf.hb_69 (v1 := .agg _) rfl (v2 := .slice _ _ _) rfl ?_
        refine Ret.mono (without_ok _ r ac' _ cc' cf' _ _ [(0 : Int)] (hR9.ext d10).il (hR9.ext d10).fl hsr.cl hsr.fl (b2il e10) (by simp)) ?_
        rintro _ v11 ⟨d11, a1, k1, a2, k2, rfl, hm1, hm2⟩
        refine Flow.store Tf.ty_25 rfl rfl ((hR9.ext (d10.then d11)).blk) (vs := [_, _, _]) rfl rfl (by simp) rfl fun v12 d12 s12' e12 => ?_
        refine hK _ _ _ ?_
        clear hK K
        have hs10 := d10.size
        have hs11 := d11.size
        have hnrb : ∀ b, v10.heap.size ≤ b → b ∉ ([rb] : List Nat) := fun b hb h => by simp at h; omega
        have hm1' := hm1.chg d12 (fun b hb => hnrb b (hm1.2 b hb))
        have hm2' := hm2.chg d12 (fun b hb => hnrb b (hm2.2 b hb))
        have hm12 := (hm9.ext (d10.then d11)).chg d12 (fun b hb h => by simp at h; exact hrbo9 (h ▸ hb))
        have hds12 := ((hds9.chg2 (d10.then d11) (by simp)).chg2 d12 (by simpa using ((hds9.chg2 (d10.then d11) (by simp)).no_blk (hR9.ext (d10.then d11)).blk)))
        have e712 := (e79.chg (d10.then d11) (by simp)).chg d12 (by simp; omega)
        have d212 : Chg [] w2 v12 := (d29.then (d10.then d11)).step d12 (by have := hR.ge; simpa using this)
        have hv1 := hvr.without [0]
        have hl1' : (withoutS r [0]).flaws.length = m := by rw [without_zero, List.length_drop]; omega
        have hnew : ∀ {b : Nat}, b ∈ rb :: ownB a5 → b < v10.heap.size := fun {b} hb => by
          rcases List.mem_cons.1 hb with rfl | hb
          · omega
          · have := hmo9 b hb; omega
        have hR12 : RestM w2.heap.size v12 (withoutS r [0]) a1 a2 k1 k2 rb (ownB a5) :=
          ⟨hR.ge, e12, hm1'.il, hm2'.fl, fun _ x hx hm => by have h1 := hm1.2 x.block (by rw [hx]; simp [ownB]); have h2 := hnew hm; omega, fun _ x hx hm => by have h1 := hm2.2 x.block (by rw [hx]; simp [ownB]); have h2 := hnew hm; omega⟩
        refine W.seq fun K hK => ?_
        refine W.region (by rfl) ?_
        refine Flow.load1 Tf.ty_3 rfl (e712.cell 0) ?_
        refine Flow.geq rfl rfl ?_
        refine hK _ _ _ ?_
        clear hK K
        refine W.cond rfl (fun h => ?_) (fun h => W.skip ?_)
        · have hge : 0 ≤ firstS r := by simpa using h
          have hday : 0 ≤ firstS r ∧ firstS r < r.days := by
            refine ⟨hge, ?_⟩
            cases hf : (opens r.closed (flawAt r 0).lo (flawAt r 0).hi).find? fun d => decide (onS r 0 d = meritS r) with
            | none => rw [firstS, hf] at hge; exact absurd hge (by decide)
            | some d =>
              have := mem_opens.1 (List.mem_of_find?_eq_some hf)
              rw [hget] at this
              rw [firstS, hf, Option.getD_some]; omega
          have hnt : nextT r = closedS (withoutS r [0]) (firstS r) := by rw [nextT, if_pos hge]
          refine W.region (by rfl) ?_
          refine Flow.loadA Tf.ty_25 rfl rfl (hR12.blk.cells0) ?_
          refine Flow.load1 Tf.ty_3 rfl (e712.cell 0) ?_
          refine Flow.call2 Tf.hb_81 (v1 := .agg _) rfl (v2 := .int _ _) rfl ?_
          refine Ret.mono (closed_ok _ (withoutS r [0]) a1 a2 k1 k2 (firstS r) hR12.il hR12.fl hsr.cl hv1.small.fl hv1.cs) ?_
          rintro _ v13 ⟨d13, a3, k3, a4, k4, rfl, hm3, hm4⟩
          refine Flow.store Tf.ty_25 rfl rfl ((hR12.ext d13).blk) (vs := [_, _, _]) rfl rfl (by simp) rfl fun v14 d14 s14' e14 => ?_
          have hs12x := d12.size
          have hs13 := d13.size
          have hnrb2 : ∀ b, v12.heap.size ≤ b → b ∉ ([rb] : List Nat) := fun b hb h => by simp at h; omega
          have hm3' := hm3.chg d14 (fun b hb => hnrb2 b (hm3.2 b hb))
          have hm4' := hm4.chg d14 (fun b hb => hnrb2 b (hm4.2 b hb))
          refine Flow.nil (hnext _ _ _ (closedS (withoutS r [0]) (firstS r)) a5 cap5 a3 a4 k3 k4 ⟨?_, rfl, trivial⟩ ?_ ((d212.then d13).step d14 (by have := hR.ge; simpa using this)) ?_ ?_ (hv1.close hday) hl1' hnt)
          · simp; rfl
          · exact (hds12.chg2 d13 (by simp)).chg2 d14 (by simpa using ((hds12.chg2 d13 (by simp)).no_blk (hR12.ext d13).blk))
          · exact ⟨hR.ge, e14, hm3'.il, hm4'.fl, fun _ x hx hm => by have h1 := hm3.2 x.block (by rw [hx]; simp [ownB]); have h2 := hnew hm; omega, fun _ x hx hm => by have h1 := hm4.2 x.block (by rw [hx]; simp [ownB]); have h2 := hnew hm; omega⟩
          · exact (hm12.ext d13).chg d14 (fun b hb h => by simp at h; exact hrbo9 (h ▸ hb))
        · have hge : ¬ 0 ≤ firstS r := by simpa using h
          have hnt : nextT r = withoutS r [0] := by rw [nextT, if_neg hge]
          refine hnext _ _ _ (withoutS r [0]) a5 cap5 a1 a2 k1 k2 ⟨?_, rfl, trivial⟩ hds12 d212 hR12 hm12 hv1 hl1' hnt
          simp; rfl
      have hfind : firstS r = ((opens r.closed r.flaws[0].lo r.flaws[0].hi).find? fun d => decide (onS r 0 d = meritS r)).getD (-1) := by rw [firstS, hget]
      have hoC : Off ac' r.closed [v3.heap.size] := hR.il.off (by simp; omega)
      refine W.block ?_
      refine W.range_it (S := [v3.heap.size]) rfl Tf.hb_135 (open_iter bs bt ac' cc' r.closed r.flaws[0].lo r.flaws[0].hi) (fun w1 hc => hB.chg hc (by simp; omega) (by simp; omega) hoC) (by simp; omega)
        (fun rest w' => Blk w' v3.heap.size [.int .i64 (-1)] 3 ∧ firstS r = (rest.find? fun d => decide (onS r 0 d = meritS r)).getD (-1)) (fun _ => False) (fun i w' => i = 2 ∧ Blk w' v3.heap.size [.int .i64 (firstS r)] 3)
        (fun x rest e' w' => AllAt e' [(6, .pointer (some ⟨rb, 0, none⟩)), (7, .pointer (some ⟨v1.heap.size, 0, none⟩)), (8, .pointer (some ⟨v3.heap.size, 0, none⟩)), (9, .int .i64 x)] ∧ Blk w' v3.heap.size [.int .i64 (-1)] 3 ∧ firstS r = ((x :: rest).find? fun d => decide (onS r 0 d = meritS r)).getD (-1))
        ?_ (fun _ _ _ h _ _ => h) ?_ ?_ ⟨e56, hfind⟩ ?_ ?_ ?_ (fun _ _ _ _ h => h.elim) ?_
      · rintro rest T wa wb ⟨h1, h2⟩ hT hTb
        exact ⟨h1.chg hT (fun hm => by have := hTb _ hm; omega), h2⟩
      · rintro i T wa wb ⟨h1, h2⟩ hT hTb
        exact ⟨h1, h2.chg hT (fun hm => by have := hTb _ hm; omega)⟩
      · rintro x rest e' wa wb ⟨hE, h1, h2⟩ hT
        exact ⟨hE, h1.chg hT (by simp; omega), h2⟩
      · rintro x rest wa hsz hc ⟨hI1, hI2⟩ hx
        refine W.region (by rfl) ?_
        refine Flow.assign (v := .int _ _) rfl ?_
        exact Flow.nil ⟨Chg2.refl _ _ _, ⟨rfl, rfl, rfl, rfl, trivial⟩, hI1, hI2⟩
      · rintro x rest wa ds' e' hsz hc ⟨hE, hI1, hI2⟩ ⟨hx1, hx2, hx3⟩
        obtain ⟨e', rfl⟩ : ∃ e0, e' = putL e0 _ := ⟨e', putL_self hE⟩
        clear hE
        have hRa : RestM w2.heap.size wa r ac' _ cc' cf' rb (ownB a) := hR6.new v0 hR hc (by simp; omega)
        have e3a := e36.chg hc (by simp; omega)
        refine W.block ?_
        refine W.seq fun K hK => ?_
        refine W.regionD [2] [] (by kernel_rfl) (by kernel_rfl) fun u9 q9 h9' => ?_
        refine FD.val (fun _ hw => Rn.loadA Tf.ty_25 rfl rfl ((hRa.ext q9).blk.cells0) (hw rfl rfl)) ?_
        refine FD.val (fun _ hw => Rn.move (v := .int _ _) rfl) ?_
        refine FD.eff (by rfl) (Chg.refl _ _) ?_
        refine Flow.call3 Tf.hb_80 (v1 := .agg _) rfl (v2 := .int _ _) rfl (v3 := .int _ _) rfl ?_
        refine Ret.mono (onD_ok _ r ac' _ cc' cf' 0 x (hRa.ext q9).il (hRa.ext q9).fl hvr (by omega) hpos (by omega)) ?_
        rintro _ u10 ⟨rfl, q10⟩
        refine Flow.nil ⟨q10, ?_⟩
        refine FD.val (fun _ hw => Rn.load1 Tf.ty_3 rfl ((e3a.chg q9 (by simp)).cell 0) (hw rfl rfl)) ?_
        refine FD.val (fun _ hw => Rn.eqlD rfl rfl rfl) ?_
        refine FD.nil ?_
        refine hK _ _ _ ?_
        clear hK K
        have q910 := q9.then q10
        rw [List.find?_cons] at hI2
        refine W.cond rfl (fun h => ?_) (fun h => W.skip ?_)
        · rw [show decide (onS r 0 x = meritS r) = true from h] at hI2
          refine W.seq fun K hK => ?_
          refine W.region (by rfl) ?_
          refine Flow.move (v := .int _ _) rfl ?_
          refine Flow.store1 Tf.ty_3 rfl (v := .int _ _) rfl (hI1.chg q910 (by simp)) (by simp) rfl fun u11 q11 s11' e11 => ?_
          refine hK _ _ _ ?_
          clear hK K
          have hI2 : firstS r = x := hI2
          exact W.exit ⟨(Chg2.ext q910).trans (Chg2.of q11), rfl, by rw [hI2]; exact e11⟩
        · rw [show decide (onS r 0 x = meritS r) = false from h] at hI2
          exact ⟨Chg2.ext q910, hI1.chg q910 (by simp), hI2⟩
      · rintro v7 hc hsz hD ⟨hI1, hI2⟩
        have hI2 : firstS r = -1 := hI2
        refine hnext9 _ _ _ ((hds6.chg2 hc (fun b hb => by simp at hb; subst hb; exact hds6.no_blk e56)).cons (by omega) (fun hm => by have := hds6.lt _ hm; omega) hD) ⟨rfl, rfl, rfl, trivial⟩ hc ?_
        rw [hI2]; exact hI1
      · rintro i v7 hc hsz hD ⟨rfl, hI1⟩
        exact hnext9 _ _ _ ((hds6.chg2 hc (fun b hb => by simp at hb; subst hb; exact hds6.no_blk e56)).cons (by omega) (fun hm => by have := hds6.lt _ hm; omega) hD) ⟨rfl, rfl, rfl, trivial⟩ hc hI1
    · have hz : r.flaws.length = 0 := by simp at h; simp [h]
      refine hK5 _ _ _ ?_
      rw [← hn, hz, earliestF, List.append_nil] at hw
      refine W.seq fun K hK => ?_
      refine W.region (by rfl) ?_
      refine Flow.move (v := .slice _ _ _) rfl ?_
      refine Flow.assign (v := .slice _ _ _) rfl ?_
      refine Flow.assignC ?_
      refine hK _ _ _ ?_
      clear hK K
      have hsv := hcv.size
      refine W.ret (leave_all hds fun w9 c9 s9 => ⟨_, res2 rfl (v := .slice _ _ _) (v' := .int _ _) rfl rfl, (c12.then hcv).step c9 (fun b hb => by have := hds.ge b hb; omega), a, c, ?_, ?_⟩)
      · rw [hER, hw, h0]
      · rw [hER, hw]
        exact (hm.chg c9 (hds.no_own hm.1)).weak (by omega)

end Go.Proofs.YtkoejelglinmnaaGreat

/-
  Contracts: slices.Sort of few ints.
-/
namespace Go.Proofs.YtkoejelglinmnaaGreat
open Sg
set_option maxRecDepth 100000

set_option maxHeartbeats 1000000 in
theorem insOrd_ok (w : World) (g c : Nat) (l : List Int) (ex : List Value) (less : Int → Int → Bool) (hless : ∀ x y, less x y = decide (x < y)) (hn : l.length ≤ 1000) (hB : Blk w g (ints l ++ ex) 3) :
    Ret Tryz.prog 156 #[.slice (some ⟨g, 0, none⟩) l.length c, .int .i64 0, .int .i64 l.length] w fun _ w' => Blk w' g (ints (sortS less l) ++ ex) 3 ∧ Chg [g] w w' := by
  refine Ret.of_W (n := 49) Tryz.func156 rfl rfl (Nat.le_of_ble_eq_true rfl) ?_
  refine W.seq fun K hK => ?_
  refine W.region (by rfl) ?_
  refine Flow.move (v := .int _ _) rfl ?_
  refine Flow.add rfl rfl (by omega) (by omega) ?_
  refine Flow.assign (v := .int _ _) rfl ?_
  refine hK _ _ _ ?_
  clear hK K
  refine W.block ?_
  refine W.loop (ι := Nat) (fun i ds e w' => ds = [] ∧ 1 ≤ i ∧ i ≤ max 1 l.length ∧ AllAt e [(0, .slice (some ⟨g, 0, none⟩) l.length c), (1, .int .i64 0), (2, .int .i64 l.length), (6, .int .i64 i)] ∧
      Chg [g] w w' ∧ Blk w' g (ints (sortS less (l.take i) ++ l.drop i) ++ ex) 3)
    (fun i => l.length + 1 - i) (i0 := 1) ⟨rfl, by omega, by omega, ⟨rfl, rfl, rfl, rfl, trivial⟩, Chg.refl _ _, ?_⟩ ?_
  · cases l with
    | nil => simpa [sortS] using hB
    | cons x l => simpa [sortS, putIn, putAt] using hB
  rintro i ds e w1 ⟨rfl, hi1, hi2, hE, hc, hb1⟩
  obtain ⟨e, rfl⟩ : ∃ e0, e = putL e0 _ := ⟨e, putL_self hE⟩
  clear hE
  refine W.seq fun K0 hK0 => ?_
  refine W.seq fun K hK => ?_
  refine W.region (by rfl) ?_
  refine Flow.move (v := .int _ _) rfl ?_
  refine Flow.move (v := .int _ _) rfl ?_
  refine Flow.lss rfl rfl ?_
  refine hK _ _ _ ?_
  clear hK K
  refine W.cond rfl (fun h => W.skip (hK0 _ _ _ ?_)) (fun h => W.exit ?_)
  case refine_2 =>
    have hge : l.length ≤ i := by simp at h; omega
    rw [List.take_of_length_le hge, List.drop_eq_nil_of_le hge, List.append_nil] at hb1
    exact ⟨_, res0 rfl, hb1, hc⟩
  have hlt : i < l.length := by simpa using h
  obtain ⟨L, hL⟩ : ∃ L, L = sortS less (l.take i) := ⟨_, rfl⟩
  have hLl : L.length = i := by rw [hL, sortS_len, List.length_take]; omega
  have hLm : ∀ y ∈ L, y ∈ l := fun y hy => by rw [hL, mem_sortS] at hy; exact List.mem_of_mem_take hy
  have hxm : l[i] ∈ l := List.getElem_mem hlt
  refine W.seq fun K1 hK1 => ?_
  refine W.block ?_
  refine W.seq fun K hK => ?_
  refine W.region (by rfl) ?_
  refine Flow.move (v := .int _ _) rfl ?_
  refine Flow.assign (v := .int _ _) rfl ?_
  refine hK _ _ _ ?_
  clear hK K
  refine W.block ?_
  refine W.loop (ι := Nat) (fun j ds e w' => ds = [] ∧ j ≤ i ∧ AllAt e [(0, .slice (some ⟨g, 0, none⟩) l.length c), (1, .int .i64 0), (2, .int .i64 l.length), (6, .int .i64 i), (7, .int .i64 j)] ∧
      Chg [g] w w' ∧ Blk w' g (ints (L.take j ++ l[i] :: (L.drop j ++ l.drop (i + 1))) ++ ex) 3 ∧ ∀ y ∈ L.drop j, less l[i] y = true)
    (fun j => j) (i0 := i) ⟨rfl, by omega, ⟨rfl, rfl, rfl, rfl, rfl, trivial⟩, hc, ?_, ?_⟩ ?_
  · rw [List.drop_eq_getElem_cons hlt, ← hL] at hb1
    have e1 : L.take i = L := List.take_of_length_le (by omega)
    have e2 : L.drop i = [] := List.drop_eq_nil_of_le (by omega)
    rw [e1, e2, List.nil_append]
    exact hb1
  · have e2 : L.drop i = [] := List.drop_eq_nil_of_le (by omega)
    rw [e2]; simp
  rintro j ds e w2 ⟨rfl, hj, hE, hc2, hb2, hall⟩
  obtain ⟨e, rfl⟩ : ∃ e0, e = putL e0 _ := ⟨e, putL_self hE⟩
  clear hE
  have hdone : (∀ (h : 0 < j), less l[i] (L[j - 1]'(by omega)) = false) → ∀ w3, Chg [] w2 w3 → ∀ e, AllAt e [(0, .slice (some ⟨g, 0, none⟩) l.length c), (1, .int .i64 0), (2, .int .i64 l.length), (6, .int .i64 i)] → K1 [] e w3 := by
    intro hno w3 c3 e hE
    obtain ⟨e, rfl⟩ : ∃ e0, e = putL e0 _ := ⟨e, putL_self hE⟩
    clear hE
    refine hK1 _ _ _ ?_
    refine W.region (by rfl) ?_
    refine Flow.move (v := .int _ _) rfl ?_
    refine Flow.add rfl rfl (by omega) (by omega) ?_
    refine Flow.assign (v := .int _ _) rfl ?_
    have hput := putIn_at (less := less) (x := l[i]) (l := L) (j := j) (by omega) hall hno
    refine Flow.nil ⟨i + 1, by omega, rfl, by omega, by omega, ⟨rfl, rfl, rfl, rfl, trivial⟩, hc2.trans (c3.mono (T := [g]) (by simp)) (fun _ _ h => h), ?_⟩
    have ht : l.take (i + 1) = l.take i ++ [l[i]] := by rw [List.take_add_one]; simp [hlt]
    rw [ht, sortS_snoc, ← hL, hput]
    have := hb2.chg c3 (by simp)
    simpa using this
  have hlen : (L.take j ++ l[i] :: (L.drop j ++ l.drop (i + 1))).length = l.length := by simp; omega
  refine W.seq fun K4 hK4 => ?_
  by_cases hj0 : 0 < j
  case neg =>
    refine W.seq fun K hK => ?_
    refine W.regionD [13] [] (by kernel_rfl) (by kernel_rfl) fun w3 c3 h3 => ?_
    refine FD.val (fun _ hw => Rn.move (v := .int _ _) rfl) ?_
    refine FD.val (fun _ hw => Rn.move (v := .int _ _) rfl) ?_
    refine FD.val (fun _ hw => Rn.gtrD (c := false) rfl rfl (decide_eq_false (by omega))) ?_
    refine FD.val (fun _ hw => Rn.move (v := .bool _) rfl) ?_
    refine FD.off (c := false) rfl rfl rfl ?_
    refine FD.off (c := false) rfl rfl rfl ?_
    refine FD.off (c := false) rfl rfl rfl ?_
    refine FD.off (c := false) rfl rfl rfl ?_
    refine FD.off (c := false) rfl rfl rfl ?_
    refine FD.off (c := false) rfl rfl rfl ?_
    refine FD.off (c := false) rfl rfl rfl ?_
    refine FD.off (c := false) rfl rfl rfl ?_
    refine FD.off (c := false) rfl rfl rfl ?_
    refine FD.off (c := false) rfl rfl rfl ?_
    refine FD.val (fun _ hw => Rn.pickF rfl rfl) ?_
    refine FD.nil ?_
    refine hK _ _ _ ?_
    clear hK K
    refine W.cond (t := false) rfl (fun h => by simp at h) (fun _ => W.exit ?_)
    exact hdone (fun h => absurd h hj0) w3 c3 _ ⟨rfl, rfl, rfl, rfl, trivial⟩
  have hjl : j - 1 < L.length := by omega
  have hg1 : (L.take j ++ l[i] :: (L.drop j ++ l.drop (i + 1)))[j]'(by omega) = l[i] := by
    have hmin : (L.take j).length = j := by rw [List.length_take]; omega
    rw [List.getElem_append_right (by omega)]; simp [hmin]
  have hg2 : (L.take j ++ l[i] :: (L.drop j ++ l.drop (i + 1)))[j - 1]'(by omega) = L[j - 1] := by
    rw [List.getElem_append_left (by simp; omega)]; simp
  have hjj : ((j : Int) - 1).toNat = j - 1 := by omega
  have hr1 : w2.cell? ⟨g, 0 + j, none⟩ = some (.int .i64 l[i]) := by rw [hb2.cell, cells_get (by omega), hg1]
  have hr2 : w2.cell? ⟨g, 0 + ((j : Int) - 1).toNat, none⟩ = some (.int .i64 L[j - 1]) := by rw [hjj, hb2.cell, cells_get (by omega), hg2]
  refine W.seq fun K hK => ?_
  refine W.regionD [13] [] (by kernel_rfl) (by kernel_rfl) fun w3 c3 h3 => ?_
  refine FD.val (fun _ hw => Rn.move (v := .int _ _) rfl) ?_
  refine FD.val (fun _ hw => Rn.move (v := .int _ _) rfl) ?_
  refine FD.val (fun _ hw => Rn.gtrD (c := true) rfl rfl (decide_eq_true (by omega))) ?_
  refine FD.val (fun _ hw => Rn.move (v := .bool _) rfl) ?_
  refine FD.on rfl rfl ?_
  refine FD.val (fun _ hw => Rn.move (v := .slice _ _ _) rfl) ?_
  refine FD.on rfl rfl ?_
  refine FD.val (fun _ hw => Rn.move (v := .int _ _) rfl) ?_
  refine FD.on rfl rfl ?_
  refine FD.val (fun _ hw => Rn.indexAddr1 Tf.sl_22 rfl rfl (by omega) (by omega)) ?_
  refine FD.on rfl rfl ?_
  refine FD.val (fun _ hw => Rn.load1 Tf.ty_3 rfl (cell_chg hr1 c3 (by simp)) (hw rfl rfl)) ?_
  refine FD.on rfl rfl ?_
  refine FD.val (fun _ hw => Rn.move (v := .slice _ _ _) rfl) ?_
  refine FD.on rfl rfl ?_
  refine FD.val (fun _ hw => Rn.move (v := .int _ _) rfl) ?_
  refine FD.on rfl rfl ?_
  refine FD.val (fun _ hw => Rn.sub rfl rfl (by omega) (by omega)) ?_
  refine FD.on rfl rfl ?_
  refine FD.val (fun _ hw => Rn.indexAddr1 Tf.sl_22 rfl rfl (by omega) (by omega)) ?_
  refine FD.on rfl rfl ?_
  refine FD.val (fun _ hw => Rn.load1 Tf.ty_3 rfl (cell_chg hr2 c3 (by simp)) (hw rfl rfl)) ?_
  refine FD.on rfl rfl ?_
  refine FD.eff (by rfl) (Chg.refl _ _) ?_
  refine Flow.call2 Tf.hb_162 (v1 := .int _ _) rfl (v2 := .int _ _) rfl ?_
  refine Ret.mono (less_ok _ _ _) ?_
  rintro _ w4 ⟨rfl, c4⟩
  refine Flow.nil ⟨c4, ?_⟩
  refine FD.val (fun _ hw => Rn.pickT rfl rfl) ?_
  refine FD.nil ?_
  refine hK _ _ _ ?_
  clear hK K
  have c24 := c3.then c4
  refine W.cond rfl (fun h => W.skip (hK4 _ _ _ ?_)) (fun h => W.exit ?_)
  case refine_2 =>
    exact hdone (fun _ => by rw [hless]; exact h) w4 c24 _ ⟨rfl, rfl, rfl, rfl, trivial⟩
  have hl1 : less l[i] L[j - 1] = true := by rw [hless]; exact h
  refine W.seq fun K6 hK6 => ?_
  refine W.block ?_
  have hb4 := hb2.chg c24 (by simp)
  refine W.regionD [15, 17] [15, 17] (by kernel_rfl) (by kernel_rfl) fun w5 c5 h5 => ?_
  refine FD.val (fun _ hw => Rn.move (v := .slice _ _ _) rfl) ?_
  refine FD.val (fun _ hw => Rn.move (v := .int _ _) rfl) ?_
  refine FD.val (fun _ hw => Rn.move (v := .slice _ _ _) rfl) ?_
  refine FD.val (fun _ hw => Rn.move (v := .int _ _) rfl) ?_
  refine FD.val (fun _ hw => Rn.sub rfl rfl (by omega) (by omega)) ?_
  refine FD.val (fun _ hw => Rn.move (v := .slice _ _ _) rfl) ?_
  refine FD.val (fun _ hw => Rn.move (v := .int _ _) rfl) ?_
  refine FD.val (fun _ hw => Rn.sub rfl rfl (by omega) (by omega)) ?_
  refine FD.val (fun _ hw => Rn.indexAddr1 Tf.sl_22 rfl rfl (by omega) (by omega)) ?_
  refine FD.val (fun _ hw => Rn.load1 Tf.ty_3 rfl (cell_chg hr2 (c24.then c5) (by simp)) (hw rfl rfl)) ?_
  refine FD.val (fun _ hw => Rn.move (v := .slice _ _ _) rfl) ?_
  refine FD.val (fun _ hw => Rn.move (v := .int _ _) rfl) ?_
  refine FD.val (fun _ hw => Rn.indexAddr1 Tf.sl_22 rfl rfl (by omega) (by omega)) ?_
  refine FD.val (fun _ hw => Rn.load1 Tf.ty_3 rfl (cell_chg hr1 (c24.then c5) (by simp)) (hw rfl rfl)) ?_
  refine FD.val (fun _ hw => Rn.indexAddr1 Tf.sl_22 rfl rfl (by omega) (by omega)) ?_
  refine FD.hardE (by rfl) (by rfl) ?_
  refine Flow.store1 Tf.ty_3 rfl (v := .int _ _) rfl (hb4.chg c5 (by simp)) (by rw [Nat.zero_add, List.length_append, ints, List.length_map, hlen]; omega) rfl fun w6 c6 s6 b6 => ?_
  refine Flow.nil ?_
  refine FD.val (fun _ hw => Rn.indexAddr1 Tf.sl_22 rfl rfl (by omega) (by omega)) ?_
  refine FD.hardE (by rfl) (by rfl) ?_
  refine Flow.store1 Tf.ty_3 rfl (v := .int _ _) rfl (b6) (by rw [Nat.zero_add, List.length_set, List.length_append, ints, List.length_map, hlen]; omega) rfl fun w7 c7 s7 b7 => ?_
  refine Flow.nil ?_
  refine FD.nil ?_
  have hjn : ((j : Nat) : Int).toNat = j := rfl
  rw [Nat.zero_add, Nat.zero_add, hjj, hjn, cells_set _ _ (by omega), cells_set _ _ (by rw [List.length_set]; omega)] at b7
  have hsw : ((L.take j ++ l[i] :: (L.drop j ++ l.drop (i + 1))).set j L[j - 1]).set (j - 1) l[i] = L.take (j - 1) ++ l[i] :: (L.drop (j - 1) ++ l.drop (i + 1)) := by
    have h1 : L.take j = L.take (j - 1) ++ [L[j - 1]] := by
      obtain ⟨k, rfl⟩ : ∃ k, j = k + 1 := ⟨j - 1, by omega⟩
      simp only [Nat.add_sub_cancel]
      rw [List.take_add_one]; simp [show k < L.length from by omega]
    have h2 : L.drop (j - 1) = L[j - 1] :: L.drop j := by
      rw [List.drop_eq_getElem_cons hjl, show j - 1 + 1 = j from by omega]
    have := swap_list (L.take (j - 1)) (L.drop j ++ l.drop (i + 1)) L[j - 1] l[i]
    rw [List.length_take, Nat.min_eq_left (by omega), show j - 1 + 1 = j from by omega] at this
    have e3 : L.take j ++ l[i] :: (L.drop j ++ l.drop (i + 1)) = L.take (j - 1) ++ L[j - 1] :: l[i] :: (L.drop j ++ l.drop (i + 1)) := by rw [h1, List.append_assoc]; rfl
    rw [e3, this, h2]; rfl
  rw [hsw] at b7
  refine hK6 _ _ _ ?_
  refine W.region (by rfl) ?_
  refine Flow.move (v := .int _ _) rfl ?_
  refine Flow.sub rfl rfl (by omega) (by omega) ?_
  refine Flow.assign (v := .int _ _) rfl ?_
  refine Flow.nil ⟨j - 1, by omega, rfl, by omega, ⟨rfl, rfl, rfl, rfl, ?_, trivial⟩, ?_, b7, ?_⟩
  · exact congrArg (Value.int .i64) (show (j : Int) - 1 = ((j - 1 : Nat) : Int) by omega)
  · exact (hc2.trans ((c24.then c5).mono (T := [g]) (by simp)) (fun _ _ h => h)).trans (c6.trans c7 (fun _ _ h => h)) (fun _ _ h => h)
  · intro y hy
    rw [List.drop_eq_getElem_cons hjl, show j - 1 + 1 = j from by omega, List.mem_cons] at hy
    rcases hy with rfl | hy
    · exact hl1
    · exact hall y hy

/-! ### bits.Len -/
theorem Flow.indexStr {P : Program} {n : Nat} {rest : List Oper} {A : Array Oper} {e : Env} {w : World} {K : Env → World → Prop} {d : Option Tmp} {ty : TypeId} {pos : String} {aft : Array Edge}
    {t : TypeId} {x y : Operand} {s : ByteArray} {k : IntKind} {i : Int} (ht : P.underlying t = some .string) (hx : ev n e x = .string s) (hy : ev n e y = .int k i) (h0 : 0 ≤ i ∧ i < s.size)
    (h : ∀ c : Nat, c < 256 → Flow P n A rest (updO e d (.int .u8 c)) w K) : Flow P n A (⟨d, .index t x y, ty, pos, aft, none⟩ :: rest) e w K := by
  refine Flow.val rfl (v := .int .u8 ((s[i.toNat]'(by omega)).toNat : Nat)) (w' := w) ?_ (h _ (UInt8.toNat_lt _))
  have hr := run_index_string (P := P) (w := w) t s k i ht
  rw [dif_pos h0] at hr
  simp [execOp, Sem.run_bind, hx, hy, hr, Result.andThen, pure, Sem.run]

theorem len64_ok (w : World) (c : Nat) (h : c < 16) :
    Ret Tryz.prog 166 #[.int .u64 c] w fun v w' => (∃ k : Nat, v = .int .i64 k ∧ k < 256) ∧ Chg [] w w' := by
  refine Ret.of_W (n := 25) Tryz.func166 rfl rfl (Nat.le_of_ble_eq_true rfl) ?_
  refine W.seq fun K hK => ?_
  refine W.region (by rfl) ?_
  refine Flow.assignC ?_
  refine hK _ _ _ ?_
  clear hK K
  refine W.seq fun K1 hK1 => ?_
  refine W.seq fun K hK => ?_
  refine W.region (by rfl) ?_
  refine Flow.move (v := .int _ _) rfl ?_
  refine Flow.geq rfl rfl ?_
  refine hK _ _ _ ?_
  clear hK K
  refine W.cond rfl (fun h => by simp at h; omega) (fun _ => W.skip (hK1 _ _ _ ?_))
  refine W.seq fun K4 hK4 => ?_
  refine W.seq fun K hK => ?_
  refine W.region (by rfl) ?_
  refine Flow.move (v := .int _ _) rfl ?_
  refine Flow.geq rfl rfl ?_
  refine hK _ _ _ ?_
  clear hK K
  refine W.cond rfl (fun h => by simp at h; omega) (fun _ => W.skip (hK4 _ _ _ ?_))
  refine W.seq fun K7 hK7 => ?_
  refine W.seq fun K hK => ?_
  refine W.region (by rfl) ?_
  refine Flow.move (v := .int _ _) rfl ?_
  refine Flow.geq rfl rfl ?_
  refine hK _ _ _ ?_
  clear hK K
  refine W.cond rfl (fun h => by simp at h; omega) (fun _ => W.skip (hK7 _ _ _ ?_))
  refine W.seq fun K hK => ?_
  refine W.region (by rfl) ?_
  refine Flow.move (v := .int _ _) rfl ?_
  refine Flow.move (v := .int _ _) rfl ?_
  refine Flow.convert (s := 0) (z := undef) (k' := .u8) (by kernel_rfl) (by kernel_rfl) rfl (by rw [IntKind.wrap_u8]; omega) ?_
  refine Flow.indexStr (by kernel_rfl) rfl rfl ⟨by omega, by rw [show ByteArray.size _ = 256 from by kernel_rfl]; omega⟩ fun k hk => ?_
  refine Flow.convert (s := 0) (z := undef) (k' := .i64) (by kernel_rfl) (by kernel_rfl) rfl (by rw [IntKind.wrap_i64]; omega) ?_
  refine Flow.add rfl rfl (by omega) (by omega) ?_
  refine Flow.assign (v := .int _ _) rfl ?_
  refine hK _ _ _ ?_
  clear hK K
  exact W.ret ⟨_, res1 rfl (v := .int _ _) rfl, ⟨k, by simp, hk⟩, Chg.refl _ _⟩

theorem len_ok (w : World) (c : Nat) (h : c < 16) :
    Ret Tryz.prog 131 #[.int .u64 c] w fun v w' => (∃ k : Nat, v = .int .i64 k ∧ k < 256) ∧ Chg [] w w' := by
  refine Ret.of_W (n := 8) Tryz.func131 rfl rfl (Nat.le_of_ble_eq_true rfl) ?_
  refine W.seq fun K hK => ?_
  refine W.region (by rfl) ?_
  refine Flow.assignC ?_
  refine hK _ _ _ ?_
  clear hK K
  refine W.seq fun K1 hK1 => ?_
  refine W.cond (t := false) rfl (fun h => by simp at h) (fun _ => W.skip (hK1 _ _ _ ?_))
  refine W.seq fun K hK => ?_
  refine W.region (by rfl) ?_
  refine Flow.move (v := .int _ _) rfl ?_
  refine Flow.call1 Tf.hb_166 (v1 := .int _ _) rfl ?_
  refine Ret.mono (len64_ok _ c h) ?_
  rintro _ w1 ⟨⟨k, rfl, hk⟩, c1⟩
  refine Flow.assign (v := .int _ _) rfl ?_
  refine hK _ _ _ ?_
  clear hK K
  exact W.ret ⟨_, res1 rfl (v := .int _ _) rfl, ⟨k, rfl, hk⟩, c1⟩

/-! ### Sort -/
def lessI : Int → Int → Bool := fun x y => decide (x < y)

theorem pdq_ok (w : World) (g c : Nat) (l : List Int) (ex : List Value) (lim : Int) (hn : l.length ≤ 12) (hB : Blk w g (ints l ++ ex) 3) :
    Ret Tryz.prog 130 #[.slice (some ⟨g, 0, none⟩) l.length c, .int .i64 0, .int .i64 l.length, .int .i64 lim] w fun _ w' => Blk w' g (ints (sortS lessI l) ++ ex) 3 ∧ Chg [g] w w' := by
  refine Ret.of_W (n := 134) Tryz.func130 rfl rfl (Nat.le_of_ble_eq_true rfl) ?_
  refine W.seq fun K hK => ?_
  refine W.region (by rfl) ?_
  refine Flow.assignC ?_
  refine hK _ _ _ ?_
  clear hK K
  refine W.seq fun K hK => ?_
  refine W.region (by rfl) ?_
  refine Flow.assignC ?_
  refine hK _ _ _ ?_
  clear hK K
  refine W.block ?_
  refine W.loop (ι := Nat) (fun k ds e w' => ds = [] ∧ k = 0 ∧ w' = w ∧ AllAt e [(0, .slice (some ⟨g, 0, none⟩) l.length c), (1, .int .i64 0), (2, .int .i64 l.length)]) (fun k => k) (i0 := 0) ⟨rfl, rfl, rfl, rfl, rfl, rfl, trivial⟩ ?_
  rintro k ds e w1 ⟨rfl, _, rfl, hE⟩
  obtain ⟨e, rfl⟩ : ∃ e0, e = putL e0 _ := ⟨e, putL_self hE⟩
  clear hE
  refine W.block ?_
  refine W.seq fun K hK => ?_
  refine W.region (by rfl) ?_
  refine Flow.move (v := .int _ _) rfl ?_
  refine Flow.move (v := .int _ _) rfl ?_
  refine Flow.sub rfl rfl (by omega) (by omega) ?_
  refine Flow.assign (v := .int _ _) rfl ?_
  refine hK _ _ _ ?_
  clear hK K
  refine W.seq fun K3 hK3 => ?_
  refine W.seq fun K hK => ?_
  refine W.region (by rfl) ?_
  refine Flow.move (v := .int _ _) rfl ?_
  refine Flow.leq rfl rfl ?_
  refine hK _ _ _ ?_
  clear hK K
  refine W.cond rfl (fun h => ?_) (fun h => by simp at h; omega)
  refine W.seq fun K hK => ?_
  refine W.region (by rfl) ?_
  refine Flow.move (v := .slice _ _ _) rfl ?_
  refine Flow.move (v := .int _ _) rfl ?_
  refine Flow.move (v := .int _ _) rfl ?_
  refine Flow.call3 Tf.hb_156 (v1 := .slice _ _ _) rfl (v2 := .int _ _) rfl (v3 := .int _ _) rfl ?_
  refine Ret.mono (insOrd_ok _ g c l ex lessI (fun _ _ => rfl) (by omega) hB) ?_
  rintro _ w2 ⟨hb, c2⟩
  refine hK _ _ _ ?_
  clear hK K
  exact W.ret ⟨_, res0 rfl, hb, c2⟩

theorem insOrd0_ok (w : World) (a : Option Addr) (c : Nat) :
    Ret Tryz.prog 156 #[.slice a 0 c, .int .i64 0, .int .i64 0] w fun _ w' => w' = w := by
  refine Ret.of_W (n := 49) Tryz.func156 rfl rfl (Nat.le_of_ble_eq_true rfl) ?_
  refine W.seq fun K hK => ?_
  refine W.region (by rfl) ?_
  refine Flow.move (v := .int _ _) rfl ?_
  refine Flow.add rfl rfl (by omega) (by omega) ?_
  refine Flow.assign (v := .int _ _) rfl ?_
  refine hK _ _ _ ?_
  clear hK K
  refine W.block ?_
  refine W.loop (ι := Nat) (fun k ds e w' => ds = [] ∧ w' = w ∧ AllAt e [(0, .slice a 0 c), (1, .int .i64 0), (2, .int .i64 0), (6, .int .i64 1)]) (fun k => k) (i0 := 0) ⟨rfl, rfl, rfl, rfl, rfl, rfl, trivial⟩ ?_
  rintro k ds e w1 ⟨rfl, rfl, hE⟩
  obtain ⟨e, rfl⟩ : ∃ e0, e = putL e0 _ := ⟨e, putL_self hE⟩
  clear hE
  refine W.seq fun K0 hK0 => ?_
  refine W.seq fun K hK => ?_
  refine W.region (by rfl) ?_
  refine Flow.move (v := .int _ _) rfl ?_
  refine Flow.move (v := .int _ _) rfl ?_
  refine Flow.lss rfl rfl ?_
  refine hK _ _ _ ?_
  clear hK K
  exact W.cond (t := false) rfl (fun h => by simp at h) (fun _ => W.exit ⟨_, res0 rfl, rfl⟩)

theorem pdq0_ok (w : World) (a : Option Addr) (c : Nat) (lim : Int) :
    Ret Tryz.prog 130 #[.slice a 0 c, .int .i64 0, .int .i64 0, .int .i64 lim] w fun _ w' => w' = w := by
  refine Ret.of_W (n := 134) Tryz.func130 rfl rfl (Nat.le_of_ble_eq_true rfl) ?_
  refine W.seq fun K hK => ?_
  refine W.region (by rfl) ?_
  refine Flow.assignC ?_
  refine hK _ _ _ ?_
  clear hK K
  refine W.seq fun K hK => ?_
  refine W.region (by rfl) ?_
  refine Flow.assignC ?_
  refine hK _ _ _ ?_
  clear hK K
  refine W.block ?_
  refine W.loop (ι := Nat) (fun k ds e w' => ds = [] ∧ w' = w ∧ AllAt e [(0, .slice a 0 c), (1, .int .i64 0), (2, .int .i64 0)]) (fun k => k) (i0 := 0) ⟨rfl, rfl, rfl, rfl, rfl, trivial⟩ ?_
  rintro k ds e w1 ⟨rfl, rfl, hE⟩
  obtain ⟨e, rfl⟩ : ∃ e0, e = putL e0 _ := ⟨e, putL_self hE⟩
  clear hE
  refine W.block ?_
  refine W.seq fun K hK => ?_
  refine W.region (by rfl) ?_
  refine Flow.move (v := .int _ _) rfl ?_
  refine Flow.move (v := .int _ _) rfl ?_
  refine Flow.sub rfl rfl (by omega) (by omega) ?_
  refine Flow.assign (v := .int _ _) rfl ?_
  refine hK _ _ _ ?_
  clear hK K
  refine W.seq fun K3 hK3 => ?_
  refine W.seq fun K hK => ?_
  refine W.region (by rfl) ?_
  refine Flow.move (v := .int _ _) rfl ?_
  refine Flow.leq rfl rfl ?_
  refine hK _ _ _ ?_
  clear hK K
  refine W.cond (t := true) rfl (fun h => ?_) (fun h => by simp at h)
  refine W.seq fun K hK => ?_
  refine W.region (by rfl) ?_
  refine Flow.move (v := .slice _ _ _) rfl ?_
  refine Flow.move (v := .int _ _) rfl ?_
  refine Flow.move (v := .int _ _) rfl ?_
  refine Flow.call3 Tf.hb_156 (v1 := .slice _ _ _) rfl (v2 := .int _ _) rfl (v3 := .int _ _) rfl ?_
  refine Ret.mono (insOrd0_ok _ a c) ?_
  rintro _ w2 rfl
  refine hK _ _ _ ?_
  clear hK K
  exact W.ret ⟨_, res0 rfl, rfl⟩

theorem sort_ok (s : Nat) (w : World) (a : Option Addr) (c : Nat) (l : List Int) (hm : Mine s w a c l) (hn : l.length ≤ 12) :
    Ret Tryz.prog 71 #[.slice a l.length c] w fun _ w' => Mine s w' a c (sortS lessI l) ∧ Chg (ownB a) w w' := by
  refine Ret.of_W (n := 11) Tryz.func71 rfl rfl (Nat.le_of_ble_eq_true rfl) ?_
  refine W.seq fun K hK => ?_
  refine W.region (by rfl) ?_
  refine Flow.move (v := .slice _ _ _) rfl ?_
  refine Flow.len rfl Tf.us_22 rfl rfl ?_
  refine Flow.assign (v := .int _ _) rfl ?_
  refine hK _ _ _ ?_
  clear hK K
  cases hl : l with
  | nil =>
    subst hl
    refine W.region (by rfl) ?_
    refine Flow.move (v := .slice _ _ _) rfl ?_
    refine Flow.move (v := .int _ _) rfl ?_
    refine Flow.move (v := .int _ _) rfl ?_
    refine Flow.convert (s := 0) (z := undef) (k' := .u64) (by kernel_rfl) (by kernel_rfl) rfl (by rw [IntKind.wrap_u64]; simp) ?_
    refine Flow.call1 Tf.hb_131 (v1 := .int _ _) rfl ?_
    refine Ret.mono (len_ok _ 0 (by omega)) ?_
    rintro _ w1 ⟨⟨k, rfl, hk⟩, c1⟩
    refine Flow.call4 Tf.hb_130 (v1 := .slice _ _ _) rfl (v2 := .int _ _) rfl (v3 := .int _ _) rfl (v4 := .int _ _) rfl ?_
    refine Ret.mono (pdq0_ok _ a c k) ?_
    rintro _ w2 rfl
    exact Flow.nil ⟨_, res0 rfl, by simpa [sortS] using hm.ext c1, c1.mono (by simp)⟩
  | cons x xs =>
    rw [← hl]
    obtain ⟨g, ex, rfl, hg, bg, hcap, hmax⟩ := hm.blk (by rw [hl]; simp)
    refine W.region (by rfl) ?_
    refine Flow.move (v := .slice _ _ _) rfl ?_
    refine Flow.move (v := .int _ _) rfl ?_
    refine Flow.move (v := .int _ _) rfl ?_
    refine Flow.convert (s := 0) (z := undef) (k' := .u64) (by kernel_rfl) (by kernel_rfl) rfl (by rw [IntKind.wrap_u64]; omega) ?_
    refine Flow.call1 Tf.hb_131 (v1 := .int _ _) rfl ?_
    refine Ret.mono (len_ok _ l.length (by omega)) ?_
    rintro _ w1 ⟨⟨k, rfl, hk⟩, c1⟩
    refine Flow.call4 Tf.hb_130 (v1 := .slice _ _ _) rfl (v2 := .int _ _) rfl (v3 := .int _ _) rfl (v4 := .int _ _) rfl ?_
    refine Ret.mono (pdq_ok _ g c l ex k hn (bg.chg c1 (by simp))) ?_
    rintro _ w2 ⟨b2, c2⟩
    refine Flow.nil ⟨_, res0 rfl, Mine.of_blk hg b2 (by rw [sortS_len]; exact hcap) hmax, ?_⟩
    exact (c1.mono (by simp)).trans (by simpa [ownB] using c2) (fun _ _ h => h)

end Go.Proofs.YtkoejelglinmnaaGreat

/-
  Contract: Surely.
-/
namespace Go.Proofs.YtkoejelglinmnaaGreat
open Sg
set_option maxRecDepth 100000

def sureP (t : Tour) (k : Nat) : Bool := decide (meritS (withoutS t [(k : Int)]) < meritS t)
def someP (t : Tour) (k : Nat) : Bool := decide (0 < (daysOfS t (k : Int)).length)
def idsK (t : Tour) (p : Nat → Bool) (k : Nat) : List Int := ((List.range k).filter p).map fun (i : Nat) => (flawAt t (i : Int)).id
def surelyA (t : Tour) : List Int := if chk t = 0 then sortS lessI (idsK t (sureP t) t.flaws.length) else []
def surelyB (t : Tour) : List Int := if chk t = 0 then sortS lessI (idsK t (someP t) t.flaws.length) else []

theorem idsK_succ (t : Tour) (p : Nat → Bool) (k : Nat) : idsK t p (k + 1) = if p k then idsK t p k ++ [(flawAt t (k : Int)).id] else idsK t p k := by
  simp only [idsK, List.range_succ, List.filter_append, List.map_append]
  cases h : p k <;> simp [h]

theorem idsK_len (t : Tour) (p : Nat → Bool) (k : Nat) : (idsK t p k).length ≤ k := by
  simp only [idsK, List.length_map]
  have := List.length_filter_le p (List.range k)
  simpa using this

set_option maxHeartbeats 2000000 in
theorem Surely_ok (w : World) (t : Tour) (ac af : Option Addr) (cc cf : Nat) (hC : IL w ac t.closed) (hF : FL w af t.flaws) (hcl : t.closed.length ≤ 1000) (hfl : t.flaws.length ≤ 1000) (hx : chk t = 0 → t.flaws.length ≤ 12) :
    Ret Tryz.prog 16 #[.agg #[.int .i64 t.days, .slice ac t.closed.length cc, .slice af t.flaws.length cf]] w fun v w' => Chg [] w w' ∧ ∃ a c a' c', v = .tuple #[.slice a (surelyA t).length c, .slice a' (surelyB t).length c', .int .i64 (chk t)] ∧ IL w' a (surelyA t) ∧ IL w' a' (surelyB t) := by
  refine Ret.of_W (n := 55) Tryz.func16 rfl rfl (Nat.le_of_ble_eq_true rfl) ?_
  refine W.seq fun K hK => ?_
  refine W.region (by rfl) ?_
  refine Flow.box rfl (cs := [_, _, _]) rfl fun w1 c1 s1 b1 => ?_
  refine Flow.assignC ?_
  refine Flow.assignC ?_
  refine Flow.assignC ?_
  refine hK _ _ _ ?_
  clear hK K
  refine W.seq fun K1 hK1 => ?_
  refine W.seq fun K hK => ?_
  refine W.region (by rfl) ?_
  refine Flow.loadA Tf.ty_25 rfl rfl (b1.cells0) ?_
  refine Flow.call1 Tf.hb_55 (v1 := .agg _) rfl ?_
  refine Ret.mono (check_ok _ t ac af cc cf (hC.ext c1) (hF.ext c1) hcl hfl) ?_
  rintro _ w2 ⟨rfl, c2⟩
  refine Flow.assign (v := .int _ _) rfl ?_
  refine hK _ _ _ ?_
  clear hK K
  have c12 := c1.then c2
  have b12 := b1.chg c2 (by simp)
  refine W.seq fun K hK => ?_
  refine W.region (by rfl) ?_
  refine Flow.move (v := .int _ _) rfl ?_
  refine Flow.neq rfl rfl ?_
  refine hK _ _ _ ?_
  clear hK K
  refine W.cond rfl (fun h => ?_) (fun h => W.skip (hK1 _ _ _ ?_))
  · have h0 : chk t ≠ 0 := by simpa using h
    have e1 : surelyA t = [] := by rw [surelyA, if_neg h0]
    have e2 : surelyB t = [] := by rw [surelyB, if_neg h0]
    refine W.seq fun K hK => ?_
    refine W.region (by rfl) ?_
    refine Flow.move (v := .int _ _) rfl ?_
    refine Flow.assignC ?_
    refine Flow.assignC ?_
    refine Flow.assign (v := .int _ _) rfl ?_
    refine hK _ _ _ ?_
    clear hK K
    exact W.ret ⟨_, res3 rfl (v := .slice _ _ _) (v' := .slice _ _ _) (v'' := .int _ _) rfl rfl rfl, c12, none, 0, none, 0, by rw [e1, e2]; rfl, .inl e1, .inl e2⟩
  · have h0 : chk t = 0 := by simpa using h
    have hv := chk_valid h0
    have hs := hv.small
    have hx := hx h0
    have e1 : surelyA t = sortS lessI (idsK t (sureP t) t.flaws.length) := by rw [surelyA, if_pos h0]
    have e2 : surelyB t = sortS lessI (idsK t (someP t) t.flaws.length) := by rw [surelyB, if_pos h0]
    refine W.seq fun K hK => ?_
    refine W.region (by rfl) ?_
    refine Flow.loadA Tf.ty_25 rfl rfl (b12.cells0) ?_
    refine Flow.call1 Tf.hb_68 (v1 := .agg _) rfl ?_
    refine Ret.mono (merit_ok _ t ac af cc cf (hC.ext c12) (hF.ext c12) hs (by omega)) ?_
    rintro _ w3 ⟨rfl, c3⟩
    refine Flow.assign (v := .int _ _) rfl ?_
    refine hK _ _ _ ?_
    clear hK K
    have c13 := c12.then c3
    have b13 := b12.chg c3 (by simp)
    have l1 := b13.lt
    refine W.seq fun K hK => ?_
    refine W.region (by rfl) ?_
    refine Flow.assignC ?_
    refine Flow.assignC ?_
    refine hK _ _ _ ?_
    clear hK K
    refine W.seq fun K6 hK6 => ?_
    refine W.seq fun K hK => ?_
    refine W.region (by rfl) ?_
    refine Flow.fieldAddr Tf.fo_25_2 rfl ?_
    refine Flow.load1 Tf.ty_23 rfl (b13.cell 2) ?_
    refine Flow.len rfl Tf.us_23 rfl rfl ?_
    refine Flow.moveC ?_
    refine hK _ _ _ ?_
    clear hK K
    refine W.block ?_
    refine W.loop (ι := Nat × (Option Addr × Nat) × (Option Addr × Nat)) (fun q ds e w' => ds = [] ∧ q.1 ≤ t.flaws.length ∧ AllAt e [(1, .pointer (some ⟨w.heap.size, 0, none⟩)), (6, .int .i64 (meritS t)), (7, .slice q.2.1.1 (idsK t (sureP t) q.1).length q.2.1.2), (8, .slice q.2.2.1 (idsK t (someP t) q.1).length q.2.2.2), (19, .slice af t.flaws.length cf), (20, .int .i64 t.flaws.length), (21, .int .i64 q.1)] ∧
        Chg [] w3 w' ∧ Mine w3.heap.size w' q.2.1.1 q.2.1.2 (idsK t (sureP t) q.1) ∧ Mine w3.heap.size w' q.2.2.1 q.2.2.2 (idsK t (someP t) q.1) ∧ (∀ b ∈ ownB q.2.1.1, b ∉ ownB q.2.2.1))
      (fun q => t.flaws.length - q.1) (i0 := (0, (none, 0), (none, 0))) ⟨rfl, by omega, ⟨rfl, rfl, rfl, rfl, rfl, rfl, rfl, trivial⟩, Chg.refl _ _, Mine.nil _ _, Mine.nil _ _, by simp [ownB]⟩ ?_
    rintro ⟨k, ⟨a1, k1⟩, ⟨a2, k2⟩⟩ ds e v0 ⟨rfl, hk, hE, hcv, hm1, hm2, hdis⟩
    obtain ⟨e, rfl⟩ : ∃ e0, e = putL e0 _ := ⟨e, putL_self hE⟩
    clear hE
    simp only at hk hm1 hm2 hdis ⊢
    have hsv := hcv.size
    refine W.seq fun K hK => ?_
    refine W.region (by rfl) ?_
    refine Flow.lss rfl rfl ?_
    refine hK _ _ _ ?_
    clear hK K
    refine W.seq fun K2 hK2 => ?_
    refine W.cond rfl (fun h => W.skip (hK2 _ _ _ ?_)) (fun h => W.exit ?_)
    · have hlt : k < t.flaws.length := by simpa using h
      have hC0 := hC.ext (c13.then hcv)
      have hF0 := hF.ext (c13.then hcv)
      have b10 := b13.chg hcv (by simp)
      obtain ⟨bf, of_, haf, hcellF⟩ := hF0.get hlt
      have hget : flawAt t k = t.flaws[k] := flawAt_get (by simpa using hlt)
      have hn1 := idsK_len t (sureP t) k
      have hn2 := idsK_len t (someP t) k
      have hsA := idsK_succ t (sureP t) k
      have hsB := idsK_succ t (someP t) k
      rw [hget] at hsA hsB
      subst haf
      refine W.seq fun K3 hK3 => ?_
      refine W.block ?_
      refine W.seq fun K hK => ?_
      refine W.region (by rfl) ?_
      refine Flow.move (v := .int _ _) rfl ?_
      refine Flow.indexAddr Tf.sl_23 rfl rfl (by omega) (by omega) ?_
      refine Flow.loadA Tf.ty_81 rfl rfl (hcellF k hlt) ?_
      refine Flow.alloc Tf.ty_81 (cs := [_, _, _, _]) rfl fun v1 d1 z1 e1' => ?_
      refine Flow.assign (v := .int _ _) rfl ?_
      refine Flow.store Tf.ty_81 rfl rfl (e1') (vs := [_, _, _, _]) rfl rfl (by simp) rfl fun v2 d2 z2 e2' => ?_
      refine hK _ _ _ ?_
      clear hK K
      have d02 : Chg [] v0 v2 := d1.step d2 (by simp)
      have hfl1 : (withoutS t [(k : Int)]).flaws.length < 20 := by have := (without_sub t [(k : Int)]).length_le; omega
      refine W.seq fun K9 hK9 => ?_
      refine W.seq fun K hK => ?_
      refine W.region (by rfl) ?_
      refine Flow.loadA Tf.ty_25 rfl rfl ((b10.chg d02 (by simp)).cells0) ?_
      refine Flow.move (v := .int _ _) rfl ?_
      refine Flow.buildSlice1 Tf.sl_22 Tf.us_22 rfl (by decide) (by decide) rfl (cs := [_]) rfl rfl fun v3 d3 z3 e3' => ?_
      refine Flow.call2 Tf.hb_69 (v1 := .agg _) rfl (v2 := .slice _ _ _) rfl ?_
      refine Ret.mono (without_ok _ t ac _ cc cf _ _ [(k : Int)] (hC0.ext (d02.then d3)) (hF0.ext (d02.then d3)) hs.cl hs.fl (b2il e3') (by simp)) ?_
      rintro _ v4 ⟨d4, a3, k3, a4, k4, rfl, hm3, hm4⟩
      refine Flow.call1 Tf.hb_68 (v1 := .agg _) rfl ?_
      refine Ret.mono (merit_ok _ (withoutS t [(k : Int)]) a3 a4 k3 k4 hm3.il hm4.fl (hv.without _).small hfl1) ?_
      rintro _ v5 ⟨rfl, d5⟩
      refine Flow.move (v := .int _ _) rfl ?_
      refine Flow.lss rfl rfl ?_
      refine hK _ _ _ ?_
      clear hK K
      have d25 := d3.then (d4.then d5)
      have d05 := d02.then d25
      have e25 := e2'.chg d25 (by simp)
      have hs05 := d05.size
      -- behind the first test
      have hnext9 : ∀ (e : Env) (v6 : World) (a1 : Option Addr) (k1 : Nat), AllAt e [(1, .pointer (some ⟨w.heap.size, 0, none⟩)), (6, .int .i64 (meritS t)), (7, .slice a1 (idsK t (sureP t) (k + 1)).length k1), (8, .slice a2 (idsK t (someP t) k).length k2), (9, .int .i64 k), (10, .pointer (some ⟨v0.heap.size, 0, none⟩)), (19, .slice (some ⟨bf, of_, none⟩) t.flaws.length cf), (20, .int .i64 t.flaws.length), (21, .int .i64 k)] →
          Chg [] w3 v6 → v0.heap.size ≤ v6.heap.size → Blk v6 v0.heap.size (flawCells t.flaws[k]) 81 → Mine w3.heap.size v6 a1 k1 (idsK t (sureP t) (k + 1)) → Mine w3.heap.size v6 a2 k2 (idsK t (someP t) k) → (∀ b ∈ ownB a1, b ∉ ownB a2) → K9 [] e v6 := by
        intro e v6 a1 k1 hE hcv6 hsz6 e6 hm1 hm2 hdis
        obtain ⟨e, rfl⟩ : ∃ e0, e = putL e0 _ := ⟨e, putL_self hE⟩
        clear hE
        refine hK9 _ _ _ ?_
        have hC6 := hC.ext (c13.then hcv6)
        have hF6 := hF.ext (c13.then hcv6)
        refine W.seq fun K hK => ?_
        refine W.region (by rfl) ?_
        refine Flow.loadA Tf.ty_25 rfl rfl ((b13.chg hcv6 (by simp)).cells0) ?_
        refine Flow.move (v := .int _ _) rfl ?_
        refine Flow.call2 Tf.hb_70 (v1 := .agg _) rfl (v2 := .int _ _) rfl ?_
        refine Ret.mono (daysOf_ok _ t ac _ cc cf k hC6 hF6 hv (by omega) hlt) ?_
        rintro _ v7 ⟨d7, a5, k5, rfl, _⟩
        refine Flow.len rfl Tf.us_22 rfl rfl ?_
        refine Flow.gtr rfl rfl ?_
        refine hK _ _ _ ?_
        clear hK K
        have hm1 := hm1.ext d7
        have hm2 := hm2.ext d7
        have e7 := e6.chg d7 (by simp)
        have hcv7 := hcv6.then d7
        have hs7 := hcv7.size
        refine W.cond rfl (fun h => ?_) (fun h => W.skip (hK3 _ _ _ ?_))
        · have hp : someP t k = true := by simpa [someP] using h
          rw [if_pos hp] at hsB
          refine W.region (by rfl) ?_
          refine Flow.move (v := .slice _ _ _) rfl ?_
          refine Flow.fieldAddr Tf.fo_81_0 rfl ?_
          refine Flow.load1 Tf.ty_3 rfl (e7.cell 0) ?_
          refine Flow.buildSlice1 Tf.sl_22 Tf.us_22 rfl (by decide) (by decide) rfl (cs := [_]) rfl rfl fun v8 d8 z8 e8 => ?_
          refine Flow.append Tf.sl_22 Tf.us_22 rfl (by decide) rfl rfl ((hm2.ext d8).1) (e8.cells0) rfl rfl (by omega) (by omega) fun a6 k6 v9 o6 d9 hd6 hn6 => ?_
          refine Flow.assign (v := .slice _ _ _) rfl ?_
          have hm9 := (hm2.ext d8).app (by have := d8.size; omega) o6 hd6
          refine Flow.nil (hK3 _ _ _ ?_)
          refine W.region (by rfl) ?_
          refine Flow.add rfl rfl (by omega) (by omega) ?_
          refine Flow.move (v := .int _ _) rfl ?_
          have hdis9 : ∀ b ∈ ownB a1, b ∉ ownB a6 := by
            rcases hd6 with rfl | ⟨g, rfl, hg⟩
            · exact hdis
            · intro b hb h
              have := (hm1.ext d8).1.lt b hb
              simp [ownB] at h; omega
          refine Flow.nil ⟨(k + 1, (a1, k1), (a6, k6)), by simp only; omega, rfl, by simp only; omega, ⟨rfl, rfl, rfl, by simp only [hsB]; simp; rfl, rfl, rfl, rfl, trivial⟩, (hcv7.then d8).step d9 (fun b hb => hm2.2 b hb), (hm1.ext d8).chg d9 hdis, by simp only [hsB]; exact hm9, hdis9⟩
        · have hp : someP t k = false := by
            have h2 : ¬ 0 < (daysOfS t (k : Int)).length := by simpa using h
            simpa [someP] using h2
          rw [hp] at hsB
          have hsB : idsK t (someP t) (k + 1) = idsK t (someP t) k := by rw [hsB]; rfl
          refine W.region (by rfl) ?_
          refine Flow.add rfl rfl (by omega) (by omega) ?_
          refine Flow.move (v := .int _ _) rfl ?_
          exact Flow.nil ⟨(k + 1, (a1, k1), (a2, k2)), by simp only; omega, rfl, by simp only; omega, ⟨rfl, rfl, rfl, by simp only [hsB]; rfl, rfl, rfl, rfl, trivial⟩, hcv7, hm1, by simp only [hsB]; exact hm2, hdis⟩
      refine W.cond rfl (fun h => ?_) (fun h => W.skip ?_)
      · have hp : sureP t k = true := h
        rw [if_pos hp] at hsA
        have hm1' := hm1.ext d05
        refine W.region (by rfl) ?_
        refine Flow.move (v := .slice _ _ _) rfl ?_
        refine Flow.fieldAddr Tf.fo_81_0 rfl ?_
        refine Flow.load1 Tf.ty_3 rfl (e25.cell 0) ?_
        refine Flow.buildSlice1 Tf.sl_22 Tf.us_22 rfl (by decide) (by decide) rfl (cs := [_]) rfl rfl fun v8 d8 z8 e8 => ?_
        refine Flow.append Tf.sl_22 Tf.us_22 rfl (by decide) rfl rfl ((hm1'.ext d8).1) (e8.cells0) rfl rfl (by omega) (by omega) fun a6 k6 v9 o6 d9 hd6 hn6 => ?_
        refine Flow.assign (v := .slice _ _ _) rfl ?_
        have hm9 := (hm1'.ext d8).app (by have := d8.size; omega) o6 hd6
        have hdis9 : ∀ b ∈ ownB a6, b ∉ ownB a2 := by
          rcases hd6 with rfl | ⟨g, rfl, hg⟩
          · exact hdis
          · intro b hb h
            have := ((hm2.ext d05).ext d8).1.lt b h
            simp [ownB] at hb; omega
        have hs8 := d8.size
        have hs9 := d9.size
        refine Flow.nil (hnext9 _ _ a6 k6 ⟨rfl, rfl, ?_, rfl, rfl, rfl, rfl, rfl, rfl, trivial⟩ (((hcv.then d05).then d8).step d9 (fun b hb => hm1.2 b hb)) (by omega) ((e25.chg d8 (by simp)).chg d9 (fun h => by have := hm1.1.lt _ h; omega)) (by rw [hsA]; exact hm9) (((hm2.ext d05).ext d8).chg d9 (fun b hb h => hdis b h hb)) hdis9)
        rw [hsA]; simp; rfl
      · have hp : sureP t k = false := h
        rw [hp] at hsA
        have hsA : idsK t (sureP t) (k + 1) = idsK t (sureP t) k := by rw [hsA]; rfl
        exact hnext9 _ _ a1 k1 ⟨rfl, rfl, by rw [hsA]; rfl, rfl, rfl, rfl, rfl, rfl, rfl, trivial⟩ (hcv.then d05) (by omega) e25 (by rw [hsA]; exact hm1.ext d05) (hm2.ext d05) hdis
    · have hge : k = t.flaws.length := by simp at h; omega
      subst hge
      have hn1 := idsK_len t (sureP t) t.flaws.length
      have hn2 := idsK_len t (someP t) t.flaws.length
      refine hK6 _ _ _ ?_
      refine W.seq fun K hK => ?_
      refine W.region (by rfl) ?_
      refine Flow.move (v := .slice _ _ _) rfl ?_
      refine Flow.call1 Tf.hb_71 (v1 := .slice _ _ _) rfl ?_
      refine Ret.mono (sort_ok w3.heap.size _ a1 k1 _ hm1 (by omega)) ?_
      rintro _ v1 ⟨hm1', d1⟩
      refine hK _ _ _ ?_
      clear hK K
      have hm2' := hm2.chg d1 (fun b hb h => hdis b h hb)
      refine W.seq fun K hK => ?_
      refine W.region (by rfl) ?_
      refine Flow.move (v := .slice _ _ _) rfl ?_
      refine Flow.call1 Tf.hb_71 (v1 := .slice _ _ _) rfl ?_
      refine Ret.mono (sort_ok w3.heap.size _ a2 k2 _ hm2' (by omega)) ?_
      rintro _ v2 ⟨hm2'', d2⟩
      refine hK _ _ _ ?_
      clear hK K
      have hm1'' := hm1'.chg d2 hdis
      refine W.seq fun K hK => ?_
      refine W.region (by rfl) ?_
      refine Flow.move (v := .slice _ _ _) rfl ?_
      refine Flow.move (v := .slice _ _ _) rfl ?_
      refine Flow.assign (v := .slice _ _ _) rfl ?_
      refine Flow.assign (v := .slice _ _ _) rfl ?_
      refine Flow.assignC ?_
      refine hK _ _ _ ?_
      clear hK K
      refine W.ret ⟨_, res3 rfl (v := .slice _ _ _) (v' := .slice _ _ _) (v'' := .int _ _) rfl rfl rfl, ((c13.then hcv).step d1 (fun b hb => by have := hm1.2 b hb; have := c13.size; omega)).step d2 (fun b hb => by have := hm2.2 b hb; have := c13.size; omega), a1, k1, a2, k2, ?_, by rw [e1]; exact hm1''.il, by rw [e2]; exact hm2''.il⟩
      rw [e1, e2, sortS_len, sortS_len, h0]

end Go.Proofs.YtkoejelglinmnaaGreat

/-
  Contracts: takers, Spread.
-/
namespace Go.Proofs.YtkoejelglinmnaaGreat
open Sg
set_option maxRecDepth 100000

structure Taker where
  id : Int
  day : Int
  flaws : List Int

/-- The takers of a slice that begins at a. -/
def TL (w : World) (a : Option Addr) (l : List Taker) : Prop :=
  l = [] ∨ ∃ b o, a = some ⟨b, o, none⟩ ∧ ∀ i (h : i < l.length), ∃ ai ci, Cells w b (o + i * 3) [.int .i64 l[i].id, .int .i64 l[i].day, .slice ai l[i].flaws.length ci] ∧ IL w ai l[i].flaws

theorem TL.get {w : World} {a : Option Addr} {l : List Taker} (h : TL w a l) {i : Nat} (hi : i < l.length) :
    ∃ b o, a = some ⟨b, o, none⟩ ∧ ∀ i (h : i < l.length), ∃ ai ci, Cells w b (o + i * 3) [.int .i64 l[i].id, .int .i64 l[i].day, .slice ai l[i].flaws.length ci] ∧ IL w ai l[i].flaws := by
  rcases h with rfl | h
  · simp at hi
  · exact h

theorem TL.ext {w w' : World} {a : Option Addr} {l : List Taker} (h : TL w a l) (hc : Chg [] w w') : TL w' a l := by
  rcases h with rfl | ⟨b, o, rfl, h⟩
  · exact .inl rfl
  · refine .inr ⟨b, o, rfl, fun i hi => ?_⟩
    obtain ⟨ai, ci, h1, h2⟩ := h i hi
    exact ⟨ai, ci, h1.chg hc (by simp), h2.ext hc⟩

def takersF (t : Tour) : List Int → List Taker → Int
  | _, [] => 0
  | had, x :: l =>
    if okL t x.flaws = false ∨ ¬ (1 ≤ x.id ∧ x.id ≤ 1099511627776) ∨ ¬ (0 ≤ x.day ∧ x.day ≤ t.days - 1) then 1
    else if x.id ∈ had then 6 else takersF t (x.id :: had) l

def takersE (t : Tour) (l : List Taker) : Int := if 40 < l.length then 2 else takersF t [] l

set_option maxHeartbeats 1000000 in
theorem takers_ok (w : World) (t : Tour) (ac af : Option Addr) (cc cf : Nat) (al : Option Addr) (cl : Nat) (l : List Taker) (hC : IL w ac t.closed) (hF : FL w af t.flaws) (hs : Small t) (hL : TL w al l) (hn : l.length ≤ 1000) (hxn : ∀ x ∈ l, x.flaws.length ≤ 1000) :
    Ret Tryz.prog 91 #[.agg #[.int .i64 t.days, .slice ac t.closed.length cc, .slice af t.flaws.length cf], .slice al l.length cl] w fun v w' => v = .int .i64 (takersE t l) ∧ Chg [] w w' := by
  have hdl := hs.dl
  have hdh := hs.dh
  refine Ret.of_W (n := 52) Tryz.func91 rfl rfl (Nat.le_of_ble_eq_true rfl) ?_
  refine W.seq fun K hK => ?_
  refine W.region (by rfl) ?_
  refine Flow.box rfl (cs := [_, _, _]) rfl fun w1 c1 s1 b1 => ?_
  refine Flow.assignC ?_
  refine hK _ _ _ ?_
  clear hK K
  refine W.seq fun K1 hK1 => ?_
  refine W.seq fun K hK => ?_
  refine W.region (by rfl) ?_
  refine Flow.move (v := .slice _ _ _) rfl ?_
  refine Flow.len rfl Tf.us_52 rfl rfl ?_
  refine Flow.gtr rfl rfl ?_
  refine hK _ _ _ ?_
  clear hK K
  refine W.cond rfl (fun h => ?_) (fun h => W.skip (hK1 _ _ _ ?_))
  · have h40 : 40 < l.length := by
      have : (40 : Int) < l.length := by simpa using h
      omega
    refine W.seq fun K hK => ?_
    refine W.region (by rfl) ?_
    refine Flow.assignC ?_
    refine hK _ _ _ ?_
    clear hK K
    exact W.ret ⟨_, res1 rfl (v := .int _ _) rfl, by rw [takersE, if_pos h40], c1⟩
  have h40 : ¬ 40 < l.length := by
    have : ¬ (40 : Int) < l.length := by simpa using h
    omega
  have hte : takersE t l = takersF t [] l := by rw [takersE, if_neg h40]
  refine W.seq fun K hK => ?_
  refine W.region (by rfl) ?_
  refine Flow.makeMap fun w2 c2 s2 m2 => ?_
  refine Flow.assign (v := .map _) rfl ?_
  refine hK _ _ _ ?_
  clear hK K
  have b12 := b1.chg c2 (by simp)
  have hs1 := c1.size
  refine W.seq fun K4 hK4 => ?_
  refine W.seq fun K hK => ?_
  refine W.region (by rfl) ?_
  refine Flow.move (v := .slice _ _ _) rfl ?_
  refine Flow.len rfl Tf.us_52 rfl rfl ?_
  refine Flow.moveC ?_
  refine hK _ _ _ ?_
  clear hK K
  refine W.block ?_
  refine W.loop (ι := Nat × List Int) (fun k ds e w5 => ds = [] ∧ k.1 ≤ l.length ∧ AllAt e [(1, .slice al l.length cl), (2, .pointer (some ⟨w.heap.size, 0, none⟩)), (5, .map (some w1.heap.size)), (14, .slice al l.length cl), (15, .int .i64 l.length), (16, .int .i64 k.1)] ∧
      Chg [] w1 w5 ∧ w2.heap.size ≤ w5.heap.size ∧ (∃ kv, MapO w5 w1.heap.size kv ∧ ∀ x, Sg.look kv x = if x ∈ k.2 then some (.bool true) else none) ∧ takersE t l = takersF t k.2 (l.drop k.1))
    (fun k => l.length - k.1) (i0 := (0, [])) ⟨rfl, by omega, ⟨rfl, rfl, rfl, rfl, rfl, rfl, trivial⟩, c2, Nat.le_refl _, ⟨[], m2, by simp [Sg.look]⟩, by simpa using hte⟩ ?_
  rintro ⟨k, had⟩ ds e w5 ⟨rfl, hk, hE, hc5, hs5, ⟨kv, hm, hlk⟩, hw⟩
  obtain ⟨e, rfl⟩ : ∃ e0, e = putL e0 _ := ⟨e, putL_self hE⟩
  clear hE
  simp only at hk hw hlk hm ⊢
  have b15 := b1.chg hc5 (by simp)
  have c05 := c1.then hc5
  refine W.seq fun K hK => ?_
  refine W.region (by rfl) ?_
  refine Flow.lss rfl rfl ?_
  refine hK _ _ _ ?_
  clear hK K
  refine W.seq fun K5 hK5 => ?_
  refine W.cond rfl (fun h => W.skip (hK5 _ _ _ ?_)) (fun h => W.exit ?_)
  case refine_2 =>
    have hge : k = l.length := by simp at h; omega
    subst hge
    rw [List.drop_length, takersF] at hw
    refine hK4 _ _ _ ?_
    refine W.seq fun K hK => ?_
    refine W.region (by rfl) ?_
    refine Flow.assignC ?_
    refine hK _ _ _ ?_
    clear hK K
    exact W.ret ⟨_, res1 rfl (v := .int _ _) rfl, by rw [hw], c05⟩
  have hlt : k < l.length := by simpa using h
  obtain ⟨bl, ol, rfl, hcell⟩ := (hL.ext c05).get hlt
  obtain ⟨ai, ci, hx, hxl⟩ := hcell k hlt
  have hxk := hxn _ (List.getElem_mem hlt)
  rw [List.drop_eq_getElem_cons hlt, takersF] at hw
  refine W.seq fun K6 hK6 => ?_
  refine W.block ?_
  refine W.seq fun K hK => ?_
  refine W.region (by rfl) ?_
  refine Flow.indexAddr Tf.sl_52 rfl rfl (by omega) (by omega) ?_
  refine Flow.loadA Tf.ty_55 rfl rfl (hx) ?_
  refine Flow.alloc Tf.ty_55 (cs := [_, _, _]) rfl fun w6 c6 s6 b6 => ?_
  refine Flow.store Tf.ty_55 rfl rfl (b6) (vs := [_, _, _]) rfl rfl (by simp) rfl fun w7 c7 s7 b7 => ?_
  refine hK _ _ _ ?_
  clear hK K
  have c57 : Chg [] w5 w7 := c6.step c7 (by simp)
  have hm7 := hm.chg c57 (by simp)
  have hbad : (okL t l[k].flaws = false ∨ ¬ (1 ≤ l[k].id ∧ l[k].id ≤ 1099511627776) ∨ ¬ (0 ≤ l[k].day ∧ l[k].day ≤ t.days - 1)) → takersE t l = 1 := fun h => by rw [hw, if_pos h]
  refine W.seq fun K hK => ?_
  refine W.region (by rfl) ?_
  refine Flow.loadA Tf.ty_25 rfl rfl ((b15.chg c57 (by simp)).cells0) ?_
  refine Flow.fieldAddr Tf.fo_55_2 rfl ?_
  refine Flow.load1 Tf.ty_22 rfl (b7.cell 2) ?_
  refine Flow.call2 Tf.hb_140 (v1 := .agg _) rfl (v2 := .slice _ _ _) rfl ?_
  refine Ret.mono (listed_ok _ t ac af cc cf ai ci l[k].flaws (hC.ext (c05.then c57)) (hF.ext (c05.then c57)) hs (hxl.ext c57) hxk) ?_
  rintro _ w8 ⟨⟨ar, cr, rfl, _⟩, c8⟩
  refine Flow.move (v := .tuple _) rfl ?_
  refine Flow.extract (v := .slice _ _ _) rfl rfl ?_
  refine Flow.extract (v := .bool _) rfl rfl ?_
  refine Flow.assign (v := .slice _ _ _) rfl ?_
  refine Flow.assign (v := .bool _) rfl ?_
  refine hK _ _ _ ?_
  clear hK K
  have c58 := c57.then c8
  have b78 := b7.chg c8 (by simp)
  refine W.seq fun K8 hK8 => ?_
  cases hok : okL t l[k].flaws with
  | false =>
    refine W.seq fun K hK => ?_
    refine W.region (by rfl) ?_
    refine Flow.move (v := .bool _) rfl ?_
    refine Flow.not rfl ?_
    refine Flow.move (v := .bool _) rfl ?_
    refine Flow.off (c := true) rfl rfl rfl ?_
    refine Flow.off (c := true) rfl rfl rfl ?_
    refine Flow.off (c := true) rfl rfl rfl ?_
    refine Flow.off (c := true) rfl rfl rfl ?_
    refine Flow.pickT rfl rfl ?_
    refine Flow.move (v := .bool _) rfl ?_
    refine Flow.off (c := true) rfl rfl rfl ?_
    refine Flow.off (c := true) rfl rfl rfl ?_
    refine Flow.off (c := true) rfl rfl rfl ?_
    refine Flow.off (c := true) rfl rfl rfl ?_
    refine Flow.off (c := true) rfl rfl rfl ?_
    refine Flow.off (c := true) rfl rfl rfl ?_
    refine Flow.off (c := true) rfl rfl rfl ?_
    refine Flow.pickT rfl rfl ?_
    refine hK _ _ _ ?_
    clear hK K
    refine W.cond (t := true) rfl (fun _ => ?_) (fun h => by simp at h)
    refine W.seq fun K hK => ?_
    refine W.region (by rfl) ?_
    refine Flow.assignC ?_
    refine hK _ _ _ ?_
    clear hK K
    exact W.ret ⟨_, res1 rfl (v := .int _ _) rfl, by rw [hbad (.inl hok)], c05.then c58⟩
  | true =>
    refine W.seq fun K hK => ?_
    refine W.region (by rfl) ?_
    refine Flow.move (v := .bool _) rfl ?_
    refine Flow.not rfl ?_
    refine Flow.move (v := .bool _) rfl ?_
    refine Flow.on rfl rfl ?_
    refine Flow.fieldAddr Tf.fo_55_0 rfl ?_
    refine Flow.on rfl rfl ?_
    refine Flow.load1 Tf.ty_3 rfl (b78.cell 0) ?_
    refine Flow.on rfl rfl ?_
    refine Flow.call3 Tf.hb_111 (v1 := .int _ _) rfl (v2 := .int _ _) rfl (v3 := .int _ _) rfl ?_
    refine Ret.mono (within_ok _ _ _ _) ?_
    rintro _ w9 ⟨rfl, c9⟩
    by_cases h1 : 1 ≤ l[k].id ∧ l[k].id ≤ 1099511627776
    case neg =>
      rw [decide_eq_false h1]
      refine Flow.on rfl rfl ?_
      refine Flow.not rfl ?_
      refine Flow.pickF rfl rfl ?_
      refine Flow.move (v := .bool _) rfl ?_
      refine Flow.off (c := true) rfl rfl rfl ?_
      refine Flow.off (c := true) rfl rfl rfl ?_
      refine Flow.off (c := true) rfl rfl rfl ?_
      refine Flow.off (c := true) rfl rfl rfl ?_
      refine Flow.off (c := true) rfl rfl rfl ?_
      refine Flow.off (c := true) rfl rfl rfl ?_
      refine Flow.off (c := true) rfl rfl rfl ?_
      refine Flow.pickT rfl rfl ?_
      refine hK _ _ _ ?_
      clear hK K
      refine W.cond (t := true) rfl (fun _ => ?_) (fun h => by simp at h)
      refine W.seq fun K hK => ?_
      refine W.region (by rfl) ?_
      refine Flow.assignC ?_
      refine hK _ _ _ ?_
      clear hK K
      exact W.ret ⟨_, res1 rfl (v := .int _ _) rfl, by rw [hbad (.inr (.inl h1))], c05.then (c58.then c9)⟩
    rw [decide_eq_true h1]
    refine Flow.on rfl rfl ?_
    refine Flow.not rfl ?_
    refine Flow.pickF rfl rfl ?_
    refine Flow.move (v := .bool _) rfl ?_
    refine Flow.on rfl rfl ?_
    refine Flow.fieldAddr Tf.fo_55_1 rfl ?_
    refine Flow.on rfl rfl ?_
    refine Flow.load1 Tf.ty_3 rfl ((b78.chg c9 (by simp)).cell 1) ?_
    refine Flow.on rfl rfl ?_
    refine Flow.fieldAddr Tf.fo_25_0 rfl ?_
    refine Flow.on rfl rfl ?_
    refine Flow.load1 Tf.ty_3 rfl ((b15.chg (c58.then c9) (by simp)).cell 0) ?_
    refine Flow.on rfl rfl ?_
    refine Flow.sub rfl rfl (by omega) (by omega) ?_
    refine Flow.on rfl rfl ?_
    refine Flow.call3 Tf.hb_111 (v1 := .int _ _) rfl (v2 := .int _ _) rfl (v3 := .int _ _) rfl ?_
    refine Ret.mono (within_ok _ _ _ _) ?_
    rintro _ w10 ⟨rfl, c10⟩
    have c510 := c58.then (c9.then c10)
    have b710 := b78.chg (c9.then c10) (by simp)
    have hm10 := hm.chg c510 (by simp)
    by_cases h2 : 0 ≤ l[k].day ∧ l[k].day ≤ t.days - 1
    case neg =>
      rw [decide_eq_false h2]
      refine Flow.on rfl rfl ?_
      refine Flow.not rfl ?_
      refine Flow.pickF rfl rfl ?_
      refine hK _ _ _ ?_
      clear hK K
      refine W.cond (t := true) rfl (fun _ => ?_) (fun h => by simp at h)
      refine W.seq fun K hK => ?_
      refine W.region (by rfl) ?_
      refine Flow.assignC ?_
      refine hK _ _ _ ?_
      clear hK K
      exact W.ret ⟨_, res1 rfl (v := .int _ _) rfl, by rw [hbad (.inr (.inr h2))], c05.then c510⟩
    rw [decide_eq_true h2]
    refine Flow.on rfl rfl ?_
    refine Flow.not rfl ?_
    refine Flow.pickF rfl rfl ?_
    refine hK _ _ _ ?_
    clear hK K
    refine W.cond (t := false) rfl (fun h => by simp at h) (fun _ => W.skip (hK8 _ _ _ ?_))
    have hgood : ¬ (okL t l[k].flaws = false ∨ ¬ (1 ≤ l[k].id ∧ l[k].id ≤ 1099511627776) ∨ ¬ (0 ≤ l[k].day ∧ l[k].day ≤ t.days - 1)) := by simp [h1, h2, hok]
    rw [if_neg hgood] at hw
    have hv : (Sg.look kv l[k].id).getD (.bool false) = .bool (decide (l[k].id ∈ had)) := by rw [hlk]; by_cases h : l[k].id ∈ had <;> simp [h]
    refine W.seq fun K10 hK10 => ?_
    refine W.seq fun K hK => ?_
    refine W.region (by rfl) ?_
    refine Flow.move (v := .map _) rfl ?_
    refine Flow.fieldAddr Tf.fo_55_0 rfl ?_
    refine Flow.load1 Tf.ty_3 rfl (b710.cell 0) ?_
    refine Flow.lookup Tf.mp_141 rfl rfl (hm10) (hv) ?_
    refine hK _ _ _ ?_
    clear hK K
    refine W.cond rfl (fun h => ?_) (fun h => W.skip (hK10 _ _ _ ?_))
    · have hin : l[k].id ∈ had := by simpa using h
      refine W.seq fun K hK => ?_
      refine W.region (by rfl) ?_
      refine Flow.assignC ?_
      refine hK _ _ _ ?_
      clear hK K
      exact W.ret ⟨_, res1 rfl (v := .int _ _) rfl, by rw [hw, if_pos hin], c05.then c510⟩
    · have hin : l[k].id ∉ had := by simpa using h
      rw [if_neg hin] at hw
      have hnone : Sg.look kv l[k].id = none := by rw [hlk, if_neg hin]
      refine W.region (by rfl) ?_
      refine Flow.move (v := .map _) rfl ?_
      refine Flow.fieldAddr Tf.fo_55_0 rfl ?_
      refine Flow.load1 Tf.ty_3 rfl (b710.cell 0) ?_
      refine Flow.mapUpdate Tf.mp_141 rfl rfl (v := .bool _) rfl (hm10) (hnone) fun w11 c11 s11 m11 => ?_
      refine Flow.nil (hK6 _ _ _ ?_)
      refine W.region (by rfl) ?_
      refine Flow.add rfl rfl (by omega) (by omega) ?_
      refine Flow.move (v := .int _ _) rfl ?_
      refine Flow.nil ⟨(k + 1, l[k].id :: had), by simp only; omega, rfl, by simp only; omega, ⟨rfl, rfl, rfl, rfl, rfl, rfl, trivial⟩, (hc5.then c510).step c11 (by simp), by have := c510.size; omega, ⟨_, m11, fun x => ?_⟩, hw⟩
      rw [look_app hnone, hlk]
      by_cases e : x = l[k].id
      · simp [e]
      · simp [e]

/-! ### Spread -/
theorem spread1_ok (w : World) (id : Int) (mb tb r : Nat) (kv : List (Int × Value)) (d day : Int) (h1 : w.cell? ⟨mb, 0, none⟩ = some (.map (some r))) (hm : MapO w r kv) (hd : (Sg.look kv id).getD (.int .i64 0) = .int .i64 d) (h2 : w.cell? ⟨tb, 1, none⟩ = some (.int .i64 day)) :
    Ret Tryz.prog 92 #[.int .i64 id, .pointer (some ⟨mb, 0, none⟩), .pointer (some ⟨tb, 0, none⟩)] w fun v w' => v = .bool (decide (0 ≤ d ∧ d < day)) ∧ Chg [] w w' := by
  by_cases h : 0 ≤ d
  · refine Ret.of_W (n := 17) Tryz.func92 rfl rfl (Nat.le_of_ble_eq_true rfl) ?_
    refine W.seq fun K hK => ?_
    refine W.region (by rfl) ?_
    refine Flow.assignC ?_
    refine hK _ _ _ ?_
    clear hK K
    refine W.seq fun K hK => ?_
    refine W.region (by rfl) ?_
    refine Flow.load1 Tf.ty_124 rfl (h1) ?_
    refine Flow.move (v := .int _ _) rfl ?_
    refine Flow.lookup Tf.mp_124 rfl rfl (hm) (hd) ?_
    refine Flow.geqD (c := true) rfl rfl (decide_eq_true (by omega)) ?_
    refine Flow.move (v := .bool _) rfl ?_
    refine Flow.on rfl rfl ?_
    refine Flow.load1 Tf.ty_124 rfl (h1) ?_
    refine Flow.on rfl rfl ?_
    refine Flow.move (v := .int _ _) rfl ?_
    refine Flow.on rfl rfl ?_
    refine Flow.lookup Tf.mp_124 rfl rfl (hm) (hd) ?_
    refine Flow.on rfl rfl ?_
    refine Flow.fieldAddr Tf.fo_55_1 rfl ?_
    refine Flow.on rfl rfl ?_
    refine Flow.load1 Tf.ty_3 rfl (h2) ?_
    refine Flow.on rfl rfl ?_
    refine Flow.lss rfl rfl ?_
    refine Flow.pickT rfl rfl ?_
    refine Flow.assign (v := .bool _) rfl ?_
    refine hK _ _ _ ?_
    clear hK K
    exact W.ret ⟨_, res1 rfl (v := .bool _) rfl, by simp [h], Chg.refl _ _⟩
  · refine Ret.of_W (n := 17) Tryz.func92 rfl rfl (Nat.le_of_ble_eq_true rfl) ?_
    refine W.seq fun K hK => ?_
    refine W.region (by rfl) ?_
    refine Flow.assignC ?_
    refine hK _ _ _ ?_
    clear hK K
    refine W.seq fun K hK => ?_
    refine W.region (by rfl) ?_
    refine Flow.load1 Tf.ty_124 rfl (h1) ?_
    refine Flow.move (v := .int _ _) rfl ?_
    refine Flow.lookup Tf.mp_124 rfl rfl (hm) (hd) ?_
    refine Flow.geqD (c := false) rfl rfl (decide_eq_false (by omega)) ?_
    refine Flow.move (v := .bool _) rfl ?_
    refine Flow.off (c := false) rfl rfl rfl ?_
    refine Flow.off (c := false) rfl rfl rfl ?_
    refine Flow.off (c := false) rfl rfl rfl ?_
    refine Flow.off (c := false) rfl rfl rfl ?_
    refine Flow.off (c := false) rfl rfl rfl ?_
    refine Flow.off (c := false) rfl rfl rfl ?_
    refine Flow.pickF rfl rfl ?_
    refine Flow.assign (v := .bool _) rfl ?_
    refine hK _ _ _ ?_
    clear hK K
    exact W.ret ⟨_, res1 rfl (v := .bool _) rfl, by simp [h], Chg.refl _ _⟩

/-- The day of a flaw. -/
def dayS (t : Tour) (on : List Int) (id : Int) : Int := if findS id 0 t.flaws < 0 then 0 else on.getD (findS id 0 t.flaws).toNat (-1)
def spreadE (t : Tour) (on : List Int) (l : List Taker) : Int := if chk t = 0 then (if on.length ≠ t.flaws.length ∨ 0 ≤ wrongS t.closed 0 t.flaws on [] then 1 else takersE t l) else chk t
def leftOf (t : Tour) (on : List Int) (x : Taker) : List Int := x.flaws.filter fun id => !decide (0 ≤ dayS t on id ∧ dayS t on id < x.day)
def spreadL (t : Tour) (on : List Int) (l : List Taker) : List (List Int) := if spreadE t on l = 0 then l.map (leftOf t on) else []

/-- Lists of ints in a slice that begins at a. -/
def LL (w : World) (a : Option Addr) (ls : List (List Int)) : Prop :=
  ls = [] ∨ ∃ b o, a = some ⟨b, o, none⟩ ∧ ∀ i (h : i < ls.length), ∃ ai ci, w.cell? ⟨b, o + i, none⟩ = some (.slice ai ls[i].length ci) ∧ IL w ai ls[i]

theorem LL.ext {w w' : World} {a : Option Addr} {ls : List (List Int)} (h : LL w a ls) (hc : Chg [] w w') : LL w' a ls := by
  rcases h with rfl | ⟨b, o, rfl, h⟩
  · exact .inl rfl
  · refine .inr ⟨b, o, rfl, fun i hi => ?_⟩
    obtain ⟨ai, ci, h1, h2⟩ := h i hi
    exact ⟨ai, ci, cell_chg h1 hc (by simp), h2.ext hc⟩

theorem idxS_at {α : Type} (p : α → Bool) : ∀ (k : Nat) (l : List α) (i : Nat) (h : i < l.length), p l[i] = true → (∀ j (hj : j < i), p (l[j]'(by omega)) = false) → idxS p k l = (k + i : Nat)
  | k, x :: l, 0, h, hp, _ => by simp only [idxS]; rw [if_pos (by simpa using hp)]; rfl
  | k, x :: l, i + 1, h, hp, hn => by
    have h0 := hn 0 (by omega)
    simp only [idxS]
    rw [if_neg (by simpa using h0)]
    have := idxS_at p (k + 1) l i (by simpa using h) (by simpa using hp) (fun j hj => by have := hn (j + 1) (by omega); simpa using this)
    rw [this]; congr 1; omega

theorem findS_at {fl : List Flaw} (hnd : (fl.map (·.id)).Nodup) {k : Nat} (hk : k < fl.length) : findS fl[k].id 0 fl = k := by
  rw [findS_eq, idxS_at _ 0 fl k hk (by simp) (fun j hj => ?_)]
  · simp
  · have h := List.pairwise_iff_getElem.1 hnd j k (by simp; omega) (by simpa using hk) hj
    simp only [List.getElem_map] at h
    simpa using h

theorem findS_id {fl : List Flaw} {id : Int} {k : Nat} (hk : k < fl.length) (h : findS id 0 fl = k) : fl[k].id = id := by
  have key : ∀ (fl : List Flaw) (m k : Nat) (hk : k < fl.length), findS id m fl = (m + k : Nat) → fl[k].id = id := by
    intro fl
    induction fl with
    | nil => intro m k hk; simp at hk
    | cons f fl ih =>
      intro m k hk h
      simp only [findS] at h
      by_cases e : f.id = id
      · rw [if_pos e] at h
        have : k = 0 := by omega
        subst this; exact e
      · rw [if_neg e] at h
        cases k with
        | zero =>
          have := idxS_ge (fun f : Flaw => decide (f.id = id)) (m + 1) fl
          rw [← findS_eq] at this
          omega
        | succ k => exact ih (m + 1) k (by simpa using hk) (by rw [h]; congr 1; omega)
  exact key fl 0 k hk (by rw [h]; simp)

end Go.Proofs.YtkoejelglinmnaaGreat

/-
  Contract: Spread.
-/
namespace Go.Proofs.YtkoejelglinmnaaGreat
open Sg
set_option maxRecDepth 100000

/-- Own lists as the cells of an own slice. -/
def LM (s : Nat) (w : World) (vals : List Value) (ls : List (List Int)) : Prop :=
  vals.length = ls.length ∧ ∀ i (h : i < ls.length) (h' : i < vals.length), ∃ ai ci, vals[i] = .slice ai ls[i].length ci ∧ Mine s w ai ci ls[i]

theorem LM.chg {s : Nat} {w w' : World} {vals : List Value} {ls : List (List Int)} {S : List Nat} (h : LM s w vals ls) (hc : Chg S w w') (hS : ∀ i (h : i < vals.length) ai n ci, vals[i] = .slice ai n ci → ∀ b ∈ ownB ai, b ∉ S) : LM s w' vals ls :=
  ⟨h.1, fun i hi hi' => by obtain ⟨ai, ci, h1, h2⟩ := h.2 i hi hi'; exact ⟨ai, ci, h1, h2.chg hc (hS i hi' ai _ ci h1)⟩⟩

theorem LM.ext {s : Nat} {w w' : World} {vals : List Value} {ls : List (List Int)} (h : LM s w vals ls) (hc : Chg [] w w') : LM s w' vals ls := h.chg hc (by simp)

theorem LM.snoc {s : Nat} {w : World} {vals : List Value} {ls : List (List Int)} {a : Option Addr} {c : Nat} {l : List Int} (h : LM s w vals ls) (hm : Mine s w a c l) : LM s w (vals ++ [.slice a l.length c]) (ls ++ [l]) := by
  refine ⟨by simp [h.1], fun i hi hi' => ?_⟩
  by_cases e : i < ls.length
  · obtain ⟨ai, ci, h1, h2⟩ := h.2 i e (by rw [h.1]; exact e)
    rw [List.getElem_append_left e, List.getElem_append_left (by rw [h.1]; exact e)]
    exact ⟨ai, ci, h1, h2⟩
  · have hi2 : i = ls.length := by simp at hi; omega
    subst hi2
    rw [List.getElem_append_right (Nat.le_refl _), List.getElem_append_right (by rw [h.1]; exact Nat.le_refl _)]
    simp only [h.1, Nat.sub_self, List.getElem_cons_zero]
    exact ⟨a, c, rfl, hm⟩

theorem LM.all {s : Nat} {w : World} {vals : List Value} {ls : List (List Int)} (h : LM s w vals ls) : ∀ i (h : i < vals.length) ai n ci, vals[i] = .slice ai n ci → ∃ l c, Mine s w ai c l := by
  intro i hi ai n ci he
  obtain ⟨a', c', h1, h2⟩ := h.2 i (by rw [← h.1]; exact hi) hi
  rw [he] at h1
  injection h1 with h1 _ h3
  subst h1
  exact ⟨_, _, h2⟩

theorem leftOf_len (t : Tour) (on : List Int) (x : Taker) : (leftOf t on x).length ≤ x.flaws.length := List.length_filter_le _ _

set_option maxHeartbeats 2000000 in
theorem Spread_ok (w : World) (t : Tour) (ac af : Option Addr) (cc cf : Nat) (ao : Option Addr) (co : Nat) (on : List Int) (mer : Int) (ar : Option Addr) (nr cr : Nat) (al : Option Addr) (cl : Nat) (l : List Taker)
    (hC : IL w ac t.closed) (hF : FL w af t.flaws) (hcl : t.closed.length ≤ 1000) (hfl : t.flaws.length ≤ 1000) (hO : IL w ao on) (hL : TL w al l) (hn : l.length ≤ 1000) (hxn : ∀ x ∈ l, x.flaws.length ≤ 1000) :
    Ret Tryz.prog 30 #[.agg #[.int .i64 t.days, .slice ac t.closed.length cc, .slice af t.flaws.length cf], .agg #[.slice ao on.length co, .int .i64 mer, .slice ar nr cr], .slice al l.length cl] w fun v w' => Chg [] w w' ∧ ∃ a c, v = .tuple #[.slice a (spreadL t on l).length c, .int .i64 (spreadE t on l)] ∧ LL w' a (spreadL t on l) := by
  have hnil : spreadE t on l ≠ 0 → spreadL t on l = [] := fun h => by rw [spreadL, if_neg h]
  refine Ret.of_W (n := 75) Tryz.func30 rfl rfl (Nat.le_of_ble_eq_true rfl) ?_
  refine W.seq fun K hK => ?_
  refine W.region (by rfl) ?_
  refine Flow.box rfl (cs := [_, _, _]) rfl fun w1 c1 s1 b1 => ?_
  refine Flow.box rfl (cs := [_, _, _]) rfl fun w2 c2 s2 b2 => ?_
  refine Flow.assignC ?_
  refine Flow.assignC ?_
  refine hK _ _ _ ?_
  clear hK K
  have b12 := b1.chg c2 (by simp)
  have c12 := c1.then c2
  refine W.seq fun K1 hK1 => ?_
  refine W.seq fun K hK => ?_
  refine W.region (by rfl) ?_
  refine Flow.loadA Tf.ty_25 rfl rfl (b12.cells0) ?_
  refine Flow.call1 Tf.hb_55 (v1 := .agg _) rfl ?_
  refine Ret.mono (check_ok _ t ac af cc cf (hC.ext c12) (hF.ext c12) hcl hfl) ?_
  rintro _ w3 ⟨rfl, c3⟩
  refine Flow.assign (v := .int _ _) rfl ?_
  refine hK _ _ _ ?_
  clear hK K
  refine W.seq fun K hK => ?_
  refine W.region (by rfl) ?_
  refine Flow.move (v := .int _ _) rfl ?_
  refine Flow.neq rfl rfl ?_
  refine hK _ _ _ ?_
  clear hK K
  have c13 := c12.then c3
  have b13 := b12.chg c3 (by simp)
  have b23 := b2.chg c3 (by simp)
  refine W.cond rfl (fun h => ?_) (fun h => W.skip (hK1 _ _ _ ?_))
  · have h0 : chk t ≠ 0 := by simpa using h
    have e1 : spreadE t on l = chk t := by rw [spreadE, if_neg h0]
    have e2 := hnil (by rw [e1]; exact h0)
    refine W.seq fun K hK => ?_
    refine W.region (by rfl) ?_
    refine Flow.move (v := .int _ _) rfl ?_
    refine Flow.assignC ?_
    refine Flow.assign (v := .int _ _) rfl ?_
    refine hK _ _ _ ?_
    clear hK K
    exact W.ret ⟨_, res2 rfl (v := .slice _ _ _) (v' := .int _ _) rfl rfl, c13, none, 0, by rw [e1, e2]; rfl, .inl e2⟩
  have h0 : chk t = 0 := by simpa using h
  have hv := chk_valid h0
  have hs := hv.small
  have hsE : spreadE t on l = if on.length ≠ t.flaws.length ∨ 0 ≤ wrongS t.closed 0 t.flaws on [] then 1 else takersE t l := by rw [spreadE, if_pos h0]
  refine W.seq fun K4 hK4 => ?_
  by_cases hlen : on.length = t.flaws.length
  case neg =>
    have he : spreadE t on l = 1 := by rw [hsE, if_pos (.inl hlen)]
    refine W.seq fun K hK => ?_
    refine W.region (by rfl) ?_
    refine Flow.fieldAddr Tf.fo_51_0 rfl ?_
    refine Flow.load1 Tf.ty_22 rfl (b23.cell 0) ?_
    refine Flow.len rfl Tf.us_22 rfl rfl ?_
    refine Flow.fieldAddr Tf.fo_25_2 rfl ?_
    refine Flow.load1 Tf.ty_23 rfl (b13.cell 2) ?_
    refine Flow.len rfl Tf.us_23 rfl rfl ?_
    refine Flow.neqD (c := true) rfl rfl (decide_eq_true (by omega)) ?_
    refine Flow.move (v := .bool _) rfl ?_
    refine Flow.off (c := true) rfl rfl rfl ?_
    refine Flow.off (c := true) rfl rfl rfl ?_
    refine Flow.off (c := true) rfl rfl rfl ?_
    refine Flow.off (c := true) rfl rfl rfl ?_
    refine Flow.off (c := true) rfl rfl rfl ?_
    refine Flow.pickT rfl rfl ?_
    refine hK _ _ _ ?_
    clear hK K
    refine W.cond (t := true) rfl (fun _ => ?_) (fun h => by simp at h)
    have e2 := hnil (by rw [he]; decide)
    refine W.seq fun K hK => ?_
    refine W.region (by rfl) ?_
    refine Flow.assignC ?_
    refine Flow.assignC ?_
    refine hK _ _ _ ?_
    clear hK K
    exact W.ret ⟨_, res2 rfl (v := .slice _ _ _) (v' := .int _ _) rfl rfl, c13, none, 0, by rw [he, e2]; rfl, .inl e2⟩
  refine W.seq fun K hK => ?_
  refine W.region (by rfl) ?_
  refine Flow.fieldAddr Tf.fo_51_0 rfl ?_
  refine Flow.load1 Tf.ty_22 rfl (b23.cell 0) ?_
  refine Flow.len rfl Tf.us_22 rfl rfl ?_
  refine Flow.fieldAddr Tf.fo_25_2 rfl ?_
  refine Flow.load1 Tf.ty_23 rfl (b13.cell 2) ?_
  refine Flow.len rfl Tf.us_23 rfl rfl ?_
  refine Flow.neqD (c := false) rfl rfl (decide_eq_false (by omega)) ?_
  refine Flow.move (v := .bool _) rfl ?_
  refine Flow.on rfl rfl ?_
  refine Flow.loadA Tf.ty_25 rfl rfl (b13.cells0) ?_
  refine Flow.on rfl rfl ?_
  refine Flow.fieldAddr Tf.fo_51_0 rfl ?_
  refine Flow.on rfl rfl ?_
  refine Flow.load1 Tf.ty_22 rfl (b23.cell 0) ?_
  refine Flow.on rfl rfl ?_
  refine Flow.call2 Tf.hb_90 (v1 := .agg _) rfl (v2 := .slice _ _ _) rfl ?_
  refine Ret.mono (wrong_ok _ t ac af ao cc cf co on (hC.ext c13) (hF.ext c13) (hO.ext c13) hs (by omega)) ?_
  rintro _ w4 ⟨rfl, c4⟩
  refine Flow.on rfl rfl ?_
  refine Flow.geq rfl rfl ?_
  refine Flow.pickF rfl rfl ?_
  refine hK _ _ _ ?_
  clear hK K
  have c14 := c13.then c4
  have b14 := b13.chg c4 (by simp)
  have b24 := b23.chg c4 (by simp)
  refine W.cond rfl (fun h => ?_) (fun h => W.skip (hK4 _ _ _ ?_))
  · have hw : 0 ≤ wrongS t.closed 0 t.flaws on [] := by simpa using h
    have he : spreadE t on l = 1 := by rw [hsE, if_pos (.inr hw)]
    have e2 := hnil (by rw [he]; decide)
    refine W.seq fun K hK => ?_
    refine W.region (by rfl) ?_
    refine Flow.assignC ?_
    refine Flow.assignC ?_
    refine hK _ _ _ ?_
    clear hK K
    exact W.ret ⟨_, res2 rfl (v := .slice _ _ _) (v' := .int _ _) rfl rfl, c14, none, 0, by rw [he, e2]; rfl, .inl e2⟩
  have hw : ¬ 0 ≤ wrongS t.closed 0 t.flaws on [] := by simpa using h
  have hsE : spreadE t on l = takersE t l := by rw [hsE, if_neg (by rw [not_or]; exact ⟨by simpa using hlen, hw⟩)]
  refine W.seq fun K6 hK6 => ?_
  refine W.seq fun K hK => ?_
  refine W.region (by rfl) ?_
  refine Flow.loadA Tf.ty_25 rfl rfl (b14.cells0) ?_
  refine Flow.move (v := .slice _ _ _) rfl ?_
  refine Flow.call2 Tf.hb_91 (v1 := .agg _) rfl (v2 := .slice _ _ _) rfl ?_
  refine Ret.mono (takers_ok _ t ac af cc cf al cl l (hC.ext c14) (hF.ext c14) hs (hL.ext c14) hn hxn) ?_
  rintro _ w5 ⟨rfl, c5⟩
  refine Flow.assign (v := .int _ _) rfl ?_
  refine hK _ _ _ ?_
  clear hK K
  refine W.seq fun K hK => ?_
  refine W.region (by rfl) ?_
  refine Flow.move (v := .int _ _) rfl ?_
  refine Flow.neq rfl rfl ?_
  refine hK _ _ _ ?_
  clear hK K
  have c15 := c14.then c5
  have b15 := b14.chg c5 (by simp)
  have b25 := b24.chg c5 (by simp)
  refine W.cond rfl (fun h => ?_) (fun h => W.skip (hK6 _ _ _ ?_))
  · have hte : takersE t l ≠ 0 := by simpa using h
    have e2 := hnil (by rw [hsE]; exact hte)
    refine W.seq fun K hK => ?_
    refine W.region (by rfl) ?_
    refine Flow.move (v := .int _ _) rfl ?_
    refine Flow.assignC ?_
    refine Flow.assign (v := .int _ _) rfl ?_
    refine hK _ _ _ ?_
    clear hK K
    exact W.ret ⟨_, res2 rfl (v := .slice _ _ _) (v' := .int _ _) rfl rfl, c15, none, 0, by rw [hsE, e2]; rfl, .inl e2⟩
  have hte : takersE t l = 0 := by simpa using h
  have hsL : spreadL t on l = l.map (leftOf t on) := by rw [spreadL, if_pos (by rw [hsE]; exact hte)]
  clear hK1 K1 hK4 K4 hK6 K6
  refine W.seq fun K hK => ?_
  refine W.region (by rfl) ?_
  refine Flow.makeMap fun w6 c6 s6 m6 => ?_
  refine Flow.alloc Tf.ty_124 (cs := [_]) rfl fun w7 c7 s7 b7 => ?_
  refine Flow.store1 Tf.ty_124 rfl (v := .map _) rfl (b7) (by simp) rfl fun w8 c8 s8 b8 => ?_
  refine hK _ _ _ ?_
  clear hK K
  have c57 : Chg [] w5 w7 := c6.then c7
  have c58 : Chg [] w5 w8 := c57.step c8 (by simp; omega)
  have m8 := (m6.chg c7 (by simp)).chg c8 (by simp; omega)
  have b18 := b15.chg c58 (by simp)
  have b28 := b25.chg c58 (by simp)
  have c18 := c15.then c58
  have l18 := b18.lt
  have l28 := b28.lt
  have l5 := b15.lt
  have l52 := b25.lt
  refine W.seq fun K10 hK10 => ?_
  refine W.seq fun K hK => ?_
  refine W.region (by rfl) ?_
  refine Flow.fieldAddr Tf.fo_25_2 rfl ?_
  refine Flow.load1 Tf.ty_23 rfl (b18.cell 2) ?_
  refine Flow.len rfl Tf.us_23 rfl rfl ?_
  refine Flow.moveC ?_
  refine hK _ _ _ ?_
  clear hK K
  refine W.block ?_
  refine W.loop (ι := Nat) (fun k ds e w' => ds = [] ∧ k ≤ t.flaws.length ∧ AllAt e [(2, .slice al l.length cl), (3, .pointer (some ⟨w.heap.size, 0, none⟩)), (4, .pointer (some ⟨w1.heap.size, 0, none⟩)), (10, .pointer (some ⟨w6.heap.size, 0, none⟩)), (43, .slice af t.flaws.length cf), (44, .int .i64 t.flaws.length), (45, .int .i64 k)] ∧
      Chg [] w5 w' ∧ w8.heap.size ≤ w'.heap.size ∧ Blk w' w6.heap.size [.map (some w5.heap.size)] 124 ∧ ∃ kv, MapO w' w5.heap.size kv ∧ ∀ x, Sg.look kv x = if 0 ≤ findS x 0 t.flaws ∧ findS x 0 t.flaws < k then some (.int .i64 (on.getD (findS x 0 t.flaws).toNat (-1))) else none)
    (fun k => t.flaws.length - k) (i0 := 0) ⟨rfl, by omega, ⟨rfl, rfl, rfl, rfl, rfl, rfl, rfl, trivial⟩, c58, Nat.le_refl _, b8, [], m8, fun x => by rw [if_neg (by omega)]; rfl⟩ ?_
  rintro k ds e v0 ⟨rfl, hk, hE, hcv, hsv, hb10, kv, hm, hlk⟩
  obtain ⟨e, rfl⟩ : ∃ e0, e = putL e0 _ := ⟨e, putL_self hE⟩
  clear hE
  have c0v := c15.then hcv
  have b1v := b15.chg hcv (by simp)
  have b2v := b25.chg hcv (by simp)
  refine W.seq fun K hK => ?_
  refine W.region (by rfl) ?_
  refine Flow.lss rfl rfl ?_
  refine hK _ _ _ ?_
  clear hK K
  refine W.seq fun K11 hK11 => ?_
  refine W.cond rfl (fun h => W.skip (hK11 _ _ _ ?_)) (fun h => W.exit ?_)
  · have hlt : k < t.flaws.length := by simpa using h
    obtain ⟨bf, of_, rfl, hcellF⟩ := (hF.ext c0v).get hlt
    obtain ⟨bo, oo, rfl, hcellO⟩ := (hO.ext c0v).get (i := k) (by omega)
    refine W.seq fun K12 hK12 => ?_
    refine W.block ?_
    refine W.seq fun K hK => ?_
    refine W.region (by rfl) ?_
    refine Flow.move (v := .int _ _) rfl ?_
    refine Flow.indexAddr Tf.sl_23 rfl rfl (by omega) (by omega) ?_
    refine Flow.loadA Tf.ty_81 rfl rfl (hcellF k hlt) ?_
    refine Flow.alloc Tf.ty_81 (cs := [_, _, _, _]) rfl fun v1 d1 z1 e1 => ?_
    refine Flow.assign (v := .int _ _) rfl ?_
    refine Flow.store Tf.ty_81 rfl rfl (e1) (vs := [_, _, _, _]) rfl rfl (by simp) rfl fun v2 d2 z2 e2 => ?_
    refine hK _ _ _ ?_
    clear hK K
    have d02 : Chg [] v0 v2 := d1.step d2 (by simp)
    have hfk := findS_at hv.nd hlt
    have hnone : Sg.look kv t.flaws[k].id = none := by rw [hlk, hfk, if_neg (by omega)]
    refine W.regionD [8] [8] (by kernel_rfl) (by kernel_rfl) fun u0 q0 h0' => ?_
    refine FD.val (fun _ hw => Rn.load1 Tf.ty_124 rfl ((hb10.chg (d02.then q0) (by simp)).cell 0) (hw rfl rfl)) ?_
    refine FD.val (fun _ hw => Rn.fieldAddr Tf.fo_81_0 rfl) ?_
    refine FD.val (fun _ hw => Rn.load1 Tf.ty_3 rfl ((e2.chg q0 (by simp)).cell 0) (hw rfl rfl)) ?_
    refine FD.val (fun _ hw => Rn.fieldAddr Tf.fo_51_0 rfl) ?_
    refine FD.val (fun _ hw => Rn.load1 Tf.ty_22 rfl ((b2v.chg (d02.then q0) (by simp)).cell 0) (hw rfl rfl)) ?_
    refine FD.val (fun _ hw => Rn.move (v := .int _ _) rfl) ?_
    refine FD.val (fun _ hw => Rn.indexAddr1 Tf.sl_22 rfl rfl (by omega) (by omega)) ?_
    refine FD.val (fun _ hw => Rn.load1 Tf.ty_3 rfl (cell_chg (hcellO k (by omega)) (d02.then q0) (by simp)) (hw rfl rfl)) ?_
    refine FD.hardE (by rfl) (by rfl) ?_
    refine Flow.mapUpdate Tf.mp_124 rfl rfl (v := .int _ _) rfl ((hm.chg (d02.then q0) (by simp))) (hnone) fun v3 d3 z3 m3 => ?_
    refine Flow.nil ?_
    refine FD.nil ?_
    refine hK12 _ _ _ ?_
    refine W.region (by rfl) ?_
    refine Flow.add rfl rfl (by omega) (by omega) ?_
    refine Flow.move (v := .int _ _) rfl ?_
    have d03 := d02.then q0
    refine Flow.nil ⟨k + 1, by omega, rfl, by omega, ⟨rfl, rfl, rfl, rfl, rfl, rfl, rfl, trivial⟩, (hcv.then d03).step d3 (by simp), by have := d03.size; omega, (hb10.chg d03 (by simp)).chg d3 (by simp; omega), _, m3, fun x => ?_⟩
    rw [look_app hnone, hlk]
    by_cases e : x = t.flaws[k].id
    · subst e
      rw [if_pos rfl, hfk, if_pos (by omega), List.getD_eq_getElem?_getD]
      simp [show k < on.length from by omega]
    · rw [if_neg e]
      have hne : findS x 0 t.flaws ≠ k := fun h => e (findS_id hlt h).symm
      by_cases hh : 0 ≤ findS x 0 t.flaws ∧ findS x 0 t.flaws < k
      · rw [if_pos hh, if_pos (by omega)]
      · rw [if_neg hh, if_neg (by omega)]
  have hge : k = t.flaws.length := by simp at h; omega
  subst hge
  have hday : ∀ x, (Sg.look kv x).getD (.int .i64 0) = .int .i64 (dayS t on x) := by
    intro x
    rw [hlk, dayS]
    rcases findS_ge x t.flaws with h | h
    · rw [if_neg (by omega), if_pos (by omega)]; rfl
    · rw [if_pos h, if_neg (by omega)]; rfl
  refine hK10 _ _ _ ?_
  clear hK10 K10 hK11 K11
  have c0v := c15.then hcv
  have hszv : w5.heap.size < v0.heap.size := hm.lt
  have hsz6 := hb10.lt
  refine W.seq fun K hK => ?_
  refine W.region (by rfl) ?_
  refine Flow.assignC ?_
  refine hK _ _ _ ?_
  clear hK K
  refine W.seq fun K16 hK16 => ?_
  refine W.seq fun K hK => ?_
  refine W.region (by rfl) ?_
  refine Flow.move (v := .slice _ _ _) rfl ?_
  refine Flow.len rfl Tf.us_52 rfl rfl ?_
  refine Flow.moveC ?_
  refine hK _ _ _ ?_
  clear hK K
  refine W.block ?_
  refine W.loop (ι := Nat) (fun k ds e w' => ds = [] ∧ k ≤ l.length ∧ ∃ (a : Option Addr) (c : Nat) (vals : List Value), AllAt e [(10, .pointer (some ⟨w6.heap.size, 0, none⟩)), (13, .slice a k c), (59, .slice al l.length cl), (60, .int .i64 l.length), (61, .int .i64 k)] ∧
      Chg [] v0 w' ∧ Own w' 22 1 a k c vals ∧ (∀ b ∈ ownB a, v0.heap.size ≤ b) ∧ LM v0.heap.size w' vals ((l.take k).map (leftOf t on)))
    (fun k => l.length - k) (i0 := 0) ⟨rfl, by omega, none, 0, [], ⟨rfl, rfl, rfl, rfl, rfl, trivial⟩, Chg.refl _ _, Own.nil _ _ _, by simp [ownB], by simp, by simp⟩ ?_
  rintro k ds e u0 ⟨rfl, hk, a, c, vals, hE, hcu, hown, hnew, hlm⟩
  obtain ⟨e, rfl⟩ : ∃ e0, e = putL e0 _ := ⟨e, putL_self hE⟩
  clear hE
  have hsu := hcu.size
  refine W.seq fun K hK => ?_
  refine W.region (by rfl) ?_
  refine Flow.lss rfl rfl ?_
  refine hK _ _ _ ?_
  clear hK K
  refine W.seq fun K17 hK17 => ?_
  refine W.cond rfl (fun h => W.skip (hK17 _ _ _ ?_)) (fun h => W.exit ?_)
  · have hlt : k < l.length := by simpa using h
    obtain ⟨bl, ol, rfl, hcell⟩ := (hL.ext (c0v.then hcu)).get hlt
    obtain ⟨ai, ci, hx, hxl⟩ := hcell k hlt
    have hxk := hxn _ (List.getElem_mem hlt)
    refine W.seq fun K18 hK18 => ?_
    refine W.block ?_
    refine W.seq fun K hK => ?_
    refine W.region (by rfl) ?_
    refine Flow.indexAddr Tf.sl_52 rfl rfl (by omega) (by omega) ?_
    refine Flow.loadA Tf.ty_55 rfl rfl (hx) ?_
    refine Flow.alloc Tf.ty_55 (cs := [_, _, _]) rfl fun u1 q1 z1 e1 => ?_
    refine Flow.store Tf.ty_55 rfl rfl (e1) (vs := [_, _, _]) rfl rfl (by simp) rfl fun u2 q2 z2 e2 => ?_
    refine hK _ _ _ ?_
    clear hK K
    have q02 : Chg [] u0 u2 := q1.step q2 (by simp)
    refine W.region (by rfl) ?_
    refine Flow.move (v := .slice _ _ _) rfl ?_
    refine Flow.fieldAddr Tf.fo_55_2 rfl ?_
    refine Flow.load1 Tf.ty_22 rfl (e2.cell 2) ?_
    refine Flow.call1 Tf.hb_84 (v1 := .slice _ _ _) rfl ?_
    refine Ret.mono (cloneI_ok _ _ _ _ (hxl.ext q02) hxk) ?_
    rintro _ u3 ⟨q3, a3, k3, rfl, hm3⟩
    have hs02 := q02.size
    have hs3 := q3.size
    have hno : ∀ b ∈ ownB a3, u2.heap.size ≤ b := fun b hb => hm3.2 b hb
    have hne3 : ∀ b, b < u2.heap.size → b ∉ ownB a3 := fun b hb h => by have := hno b h; omega
    have hb103 := hb10.chg (hcu.then (q02.then q3)) (by simp)
    have hm103 := hm.chg (hcu.then (q02.then q3)) (by simp)
    have e23 := e2.chg q3 (by simp)
    have l23 := e2.lt
    refine Flow.makeFunc2 rfl rfl ?_
    refine Flow.call2 Tf.hb_83 (v1 := .slice _ _ _) rfl (v2 := .func _ _ _) rfl ?_
    refine Ret.mono (deleteFunc_ok u2.heap.size u3 a3 k3 l[k].flaws 92 #[.pointer (some ⟨w6.heap.size, 0, none⟩), .pointer (some ⟨u0.heap.size, 0, none⟩)] (fun id => decide (0 ≤ dayS t on id ∧ dayS t on id < l[k].day)) hm3 hxk Tf.hb_92 (fun id _ wa hca => spread1_ok wa id w6.heap.size u0.heap.size w5.heap.size kv (dayS t on id) l[k].day ((hb103.chg hca (hne3 _ (by omega))).cell 0) (hm103.chg hca (hne3 _ (by omega))) (hday id) ((e23.chg hca (hne3 _ (by omega))).cell 1))) ?_
    rintro _ u4 ⟨q4, rfl, hm4⟩
    have hown4 : Own u4 22 1 a k c vals := (hown.ext (q02.then q3)).chg q4 (fun b hb h => by have := hown.lt b hb; have := hno b h; omega)
    have q04 : Chg [] u0 u4 := (q02.then q3).step q4 (fun b hb => by have := hno b hb; omega)
    have hlm4 : LM v0.heap.size u4 vals ((l.take k).map (leftOf t on)) := (hlm.ext (q02.then q3)).chg q4 (fun i hi ai n ci he b hb h => by
      obtain ⟨l', c', hl'⟩ := hlm.all i hi ai n ci he
      have := hl'.1.lt b hb
      have := hno b h
      omega)
    have hvl : vals.length = k := by have := hown.1; omega
    have hml : (leftOf t on l[k]).length ≤ l[k].flaws.length := leftOf_len t on l[k]
    refine Flow.buildSlice1 Tf.sl_56 Tf.us_56 rfl (by decide) (by decide) rfl (cs := [_]) rfl rfl fun u5 q5 z5 e5 => ?_
    refine Flow.append Tf.sl_56 Tf.us_56 rfl (by decide) rfl rfl ((hown4.ext q5)) (e5.cells0) rfl rfl (by omega) (by omega) fun a6 k6 u6 o6 q6 hd6 hn6 => ?_
    refine Flow.assign (v := .slice _ _ _) rfl ?_
    refine Flow.nil (hK18 _ _ _ ?_)
    refine W.region (by rfl) ?_
    refine Flow.add rfl rfl (by omega) (by omega) ?_
    refine Flow.move (v := .int _ _) rfl ?_
    have hown5 := hown4.ext q5
    have hlm5 := (hlm4.ext q5).chg q6 (fun i hi ai n ci he b hb h => by
      obtain ⟨l', c', hl'⟩ := (hlm4.ext q5).all i hi ai n ci he
      rcases hl'.1.2 with ⟨rfl, _⟩ | ⟨g', cs', rfl, hb', _⟩
      · simp [ownB] at hb
      · simp [ownB] at hb
        subst hb
        exact own_ne hown5 hb' (by decide) h)
    have hm6 : Mine u2.heap.size u6 a3 k3 (leftOf t on l[k]) := (hm4.ext q5).chg q6 (fun b hb h => by
      rcases (hm4.ext q5).1.2 with ⟨rfl, _⟩ | ⟨g', cs', rfl, hb', _⟩
      · simp [ownB] at hb
      · simp [ownB] at hb
        subst hb
        exact own_ne hown5 hb' (by decide) h)
    have hts : (l.take (k + 1)).map (leftOf t on) = (l.take k).map (leftOf t on) ++ [leftOf t on l[k]] := by rw [List.take_add_one, List.getElem?_eq_getElem hlt, List.map_append]; rfl
    have hq5 := q5.size
    have hq4 := q4.size
    refine Flow.nil ⟨k + 1, by omega, rfl, by omega, a6, k6, vals ++ [.slice a3 (leftOf t on l[k]).length k3], ⟨rfl, rfl, rfl, rfl, rfl, trivial⟩, ((hcu.then q04).then q5).step q6 hnew, o6, ?_, ?_⟩
    · rcases hd6 with rfl | ⟨g, rfl, hg⟩
      · exact hnew
      · intro b hb; simp [ownB] at hb; omega
    · rw [hts]
      exact hlm5.snoc (hm6.weak (by omega))
  · have hge : k = l.length := by simp at h; omega
    subst hge
    rw [List.take_length, ← hsL] at hlm
    refine hK16 _ _ _ ?_
    refine W.seq fun K hK => ?_
    refine W.region (by rfl) ?_
    refine Flow.move (v := .slice _ _ _) rfl ?_
    refine Flow.assign (v := .slice _ _ _) rfl ?_
    refine Flow.assignC ?_
    refine hK _ _ _ ?_
    clear hK K
    have hll : (spreadL t on l).length = l.length := by rw [hsL, List.length_map]
    refine W.ret ⟨_, res2 rfl (v := .slice _ _ _) (v' := .int _ _) rfl rfl, c0v.then hcu, a, c, by rw [hll, hsE, hte], ?_⟩
    rcases hown.2 with ⟨rfl, h0', _⟩ | ⟨g, cs, rfl, hb, h1, h2, h3, h4⟩
    · exact .inl (List.length_eq_zero_iff.1 (by rw [hll]; exact h0'))
    · refine .inr ⟨g, 0, rfl, fun i hi => ?_⟩
      have hiv : i < vals.length := by rw [hlm.1]; exact hi
      obtain ⟨ai, ci, e1, e2⟩ := hlm.2 i hi hiv
      refine ⟨ai, ci, ?_, e2.il⟩
      rw [hb.cell, Nat.zero_add, ← e1]
      have : vals[i]? = cs[i]? := by
        rw [← h4, List.getElem?_take_of_lt (by rw [Nat.mul_one]; rw [← hll]; exact hi)]
      rw [← this, List.getElem?_eq_getElem hiv]

end Go.Proofs.YtkoejelglinmnaaGreat
