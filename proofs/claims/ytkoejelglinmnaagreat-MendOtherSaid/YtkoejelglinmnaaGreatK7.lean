/-
  Plain laws: the reference's way to the best worth.
-/
import Derived.Test.YtkoejelglinmnaaGreatK6
set_option linter.unusedSimpArgs false
set_option linter.unusedVariables false
namespace Go.Proofs.YtkoejelglinmnaaGreat
open Mm

theorem putAt_at {less : Int → Int → Bool} {x : Int} {l : List Int} {k : Nat} (hk : k ≤ l.length) (h1 : ∀ j (h : j < l.length), k ≤ j → less x l[j] = true) (h2 : ∀ (h : 0 < k), less x (l[k - 1]'(by omega)) = false) : putAt less x l = k := by
  obtain ⟨p1, p2⟩ := putAt_spec less x l
  have hle : putAt less x l ≤ l.length := Nat.sub_le _ _
  have q1 : ∀ j (h : j < l.length), putAt less x l ≤ j → less x l[j] = true := fun j h hj => p1 _ (by
    refine List.mem_iff_getElem.2 ⟨j - putAt less x l, by rw [List.length_drop]; omega, ?_⟩
    rw [List.getElem_drop]
    congr 1; omega)
  apply Classical.byContradiction
  intro hne
  rcases Nat.lt_or_gt_of_ne hne with h | h
  · have := h2 (by omega)
    rw [q1 (k - 1) (by omega) (by omega)] at this
    cases this
  · obtain ⟨h', e⟩ := p2 (by omega)
    rw [h1 _ h' (by omega)] at e
    cases e

/-- The first flaws in their order. -/
def ordK (t : Tour) (k : Nat) : List Int := sortS (lessW t) (places k)

theorem ordK_succ (t : Tour) (k : Nat) : ordK t (k + 1) = putIn (lessW t) k (ordK t k) := by
  simp [ordK, sortS, places, List.range_succ, List.foldl_append]

theorem ordK_len (t : Tour) (k : Nat) : (ordK t k).length = k := by
  rw [ordK, (sortS_perm (lessW t) (places k)).length_eq]; simp [places]

theorem ordK_mem {t : Tour} {k : Nat} {x : Int} : x ∈ ordK t k ↔ 0 ≤ x ∧ x < k := by
  rw [ordK, (sortS_perm (lessW t) (places k)).mem_iff]; exact mem_places

/-- One flaw more, if it can be: who has each day, and the worth. -/
def rStep (t : Tour) (s : List Int × Int) (i : Int) : List Int × Int :=
  if (give (adjT t) fuel i s.1 []).1 then ((give (adjT t) fuel i s.1 []).2.1, s.2 + (flawAt t i).merit) else s
def rFold (t : Tour) (l : List Int) : List Int × Int := l.foldl (rStep t) (noDays t, 0)

theorem rFold_snoc (t : Tour) (l : List Int) (i : Int) : rFold t (l ++ [i]) = rStep t (rFold t l) i := by simp [rFold, List.foldl_append]

theorem addAll_snoc (adj : Int → List Int) : ∀ (l : List Int) (has : List Int) (i : Int), addAll adj has (l ++ [i]) = (addS adj fuel (addAll adj has l) i).getD (addAll adj has l)
  | [], _, _ => rfl
  | x :: l, has, i => by simp only [List.cons_append, addAll]; exact addAll_snoc adj l _ i

/-- What the reference takes for the best worth is the best worth. -/
theorem rFold_best {t : Tour} (hv : Valid t) : ∀ k, k ≤ (orderS (lessW t) t.flaws.length).length →
    Greedy (adjT t) t.days.toNat t.flaws.length (wI t) ((orderS (lessW t) t.flaws.length).take k) (rFold t ((orderS (lessW t) t.flaws.length).take k)).1 ∧
      (rFold t ((orderS (lessW t) t.flaws.length).take k)).2 = meritOf t (rFold t ((orderS (lessW t) t.flaws.length).take k)).1 ∧
      (rFold t ((orderS (lessW t) t.flaws.length).take k)).1 = addAll (adjT t) (noDays t) ((orderS (lessW t) t.flaws.length).take k) := by
  have hme : ∀ f ∈ t.flaws, 0 ≤ f.merit := fun f hf => by have := hv.fm f hf; omega
  have hadj : ∀ i : Int, 0 ≤ i ∧ i < t.flaws.length → ∀ d ∈ adjT t i, 0 ≤ d ∧ d < t.days.toNat := adjV hv
  have hf : t.days.toNat < fuel := by have := hv.d2; show t.days.toNat < 130; omega
  have hnd : (orderS (lessW t) t.flaws.length).Nodup := (sortS_perm (lessW t) (places t.flaws.length)).nodup_iff.2 (places_nodup _)
  have hsort : (orderS (lessW t) t.flaws.length).Pairwise (fun a b => (flawAt t b).merit ≤ (flawAt t a).merit) := sortS_sorted (less := lessW t) (fun i => (flawAt t i).merit) (fun x y => rfl) _
  obtain ⟨o, ho⟩ : ∃ o, o = orderS (lessW t) t.flaws.length := ⟨_, rfl⟩
  have hmem : ∀ x ∈ o, 0 ≤ x ∧ x < t.flaws.length := fun x hx => order_mem.1 (ho ▸ hx)
  rw [← ho] at hnd hsort ⊢
  intro k
  induction k with
  | zero =>
    intro _
    refine ⟨Greedy.none _ _ _ _, ?_, rfl⟩
    have : hadBy (noDays t) = [] := List.filter_eq_nil_iff.2 fun x hx => by rw [(List.mem_replicate.1 hx).2]; decide
    show (0 : Int) = meritOf t (noDays t)
    rw [meritOf_sum hme (noDays t) (fun x hx => .inl (List.mem_replicate.1 hx).2), this]; rfl
  | succ k ih =>
    intro hk
    have hlt : k < o.length := by omega
    obtain ⟨g, e1, e2⟩ := ih (by omega)
    have hi := hmem _ (List.getElem_mem hlt)
    have ht : o.take (k + 1) = o.take k ++ [o[k]] := by rw [List.take_add_one, List.getElem?_eq_getElem hlt]; rfl
    have hno : o[k] ∉ o.take k := fun hm => by
      obtain ⟨j, hj, e⟩ := List.mem_iff_getElem.1 hm
      rw [List.length_take] at hj
      rw [List.getElem_take] at e
      have := (List.getElem_inj hnd).1 e
      omega
    have hw : ∀ j ∈ o.take k, wI t o[k] ≤ wI t j := fun j hj => by
      obtain ⟨m, hm, rfl⟩ := List.mem_iff_getElem.1 hj
      rw [List.length_take] at hm
      rw [List.getElem_take]
      have := List.pairwise_iff_getElem.1 hsort m k (by omega) hlt (by omega)
      unfold wI; omega
    have hst := g.step hadj hf hi hno hw
    rw [ht, rFold_snoc, addAll_snoc]
    obtain ⟨s, hs⟩ : ∃ s, s = rFold t (o.take k) := ⟨_, rfl⟩
    rw [← hs] at g e1 e2 hst ⊢
    rw [← e2]
    have hone : (rStep t s o[k]).1 = (addS (adjT t) fuel s.1 o[k]).getD s.1 := by
      rw [addS_eq, rStep]
      split
      · next h => rw [Option.getD_some]
      · rfl
    refine ⟨by rw [hone]; exact hst, ?_, hone⟩
    rw [rStep]
    by_cases hr : (give (adjT t) fuel o[k] s.1 []).1 = true
    · rw [if_pos hr]
      have hiA : o[k] ∉ hadBy s.1 := fun hm => hno (g.sub _ hm)
      obtain ⟨hM, _, _⟩ := g.st.mat g.inv.len
      obtain ⟨g1, _⟩ := give_true hadj fuel o[k] s.1 [] _ hi g.inv g.st hiA hr
      obtain ⟨k1, _⟩ := give_inv hadj fuel o[k] s.1 [] hi g.inv
      obtain ⟨hM', hS', _⟩ := g1.mat k1.len
      have hp : (hadBy (give (adjT t) fuel o[k] s.1 []).2.1).Perm (o[k] :: hadBy s.1) :=
        (List.perm_ext_iff_of_nodup hM'.nd (List.nodup_cons.2 ⟨hiA, hM.nd⟩)).2 fun x => by rw [← hS' x, List.mem_cons]; exact or_comm
      have hp2 := sumw_perm (w := wI t) hp
      have hp3 : sumw (wI t) (o[k] :: hadBy s.1) = wI t o[k] + sumw (wI t) (hadBy s.1) := rfl
      have hmi : (wI t o[k] : Int) = (flawAt t o[k]).merit := by
        have := hme _ (flawAt_mem hi)
        unfold wI; omega
      show s.2 + (flawAt t o[k]).merit = meritOf t (give (adjT t) fuel o[k] s.1 []).2.1
      rw [meritOf_sum hme _ k1.ok, e1, meritOf_sum hme _ g.inv.ok]
      omega
    · rw [if_neg hr]; exact e1

theorem rFold_merit {t : Tour} (hv : Valid t) : (rFold t (orderS (lessW t) t.flaws.length)).2 = meritS t := by
  obtain ⟨_, h2, h3⟩ := rFold_best hv _ (Nat.le_refl _)
  rw [List.take_length] at h2 h3
  rw [h2, h3]; rfl

end Go.Proofs.YtkoejelglinmnaaGreat

/-
  Contracts of the reference: in, span, has, flaw, may.
-/
namespace Go.Proofs.YtkoejelglinmnaaGreat
open Sg
set_option maxRecDepth 100000

theorem rin_ok (w : World) (n lo hi : Int) : Ret Tryz.prog 93 #[.int .i64 n, .int .i64 lo, .int .i64 hi] w fun v w' => v = .bool (decide (lo ≤ n ∧ n ≤ hi)) ∧ Chg [] w w' := by
  refine Ret.of_W (n := 15) Tryz.func93 rfl rfl (Nat.le_of_ble_eq_true rfl) ?_
  refine W.seq fun K hK => ?_
  refine W.region (by rfl) ?_
  refine Flow.assignC ?_
  refine hK _ _ _ ?_
  clear hK K
  by_cases h : lo ≤ n
  · refine W.seq fun K hK => ?_
    refine W.region (by rfl) ?_
    refine Flow.move (v := .int _ _) rfl ?_
    refine Flow.move (v := .int _ _) rfl ?_
    refine Flow.geqD (c := true) rfl rfl (decide_eq_true (by omega)) ?_
    refine Flow.move (v := .bool _) rfl ?_
    refine Flow.on rfl rfl ?_
    refine Flow.move (v := .int _ _) rfl ?_
    refine Flow.on rfl rfl ?_
    refine Flow.move (v := .int _ _) rfl ?_
    refine Flow.on rfl rfl ?_
    refine Flow.leq rfl rfl ?_
    refine Flow.pickT rfl rfl ?_
    refine Flow.assign (v := .bool _) rfl ?_
    refine hK _ _ _ ?_
    clear hK K
    exact W.ret ⟨_, res1 rfl (v := .bool _) rfl, by simp [h], Chg.refl _ _⟩
  · refine W.seq fun K hK => ?_
    refine W.region (by rfl) ?_
    refine Flow.move (v := .int _ _) rfl ?_
    refine Flow.move (v := .int _ _) rfl ?_
    refine Flow.geqD (c := false) rfl rfl (decide_eq_false (by omega)) ?_
    refine Flow.move (v := .bool _) rfl ?_
    refine Flow.off (c := false) rfl rfl rfl ?_
    refine Flow.off (c := false) rfl rfl rfl ?_
    refine Flow.off (c := false) rfl rfl rfl ?_
    refine Flow.pickF rfl rfl ?_
    refine Flow.assign (v := .bool _) rfl ?_
    refine hK _ _ _ ?_
    clear hK K
    exact W.ret ⟨_, res1 rfl (v := .bool _) rfl, by simp [h], Chg.refl _ _⟩

theorem rspan_ok (w : World) (days slo shi : Int) (ac af : Option Addr) (lc cc lf cf : Nat) :
    Ret Tryz.prog 89 #[.agg #[.int .i64 days, .slice ac lc cc, .slice af lf cf], .agg #[.int .i64 slo, .int .i64 shi]] w fun v w' => v = .bool (spanOk days slo shi) ∧ Chg [] w w' := by
  by_cases h1 : 0 ≤ slo
  · by_cases h2 : slo ≤ shi
    · refine Ret.of_W (n := 22) Tryz.func89 rfl rfl (Nat.le_of_ble_eq_true rfl) ?_
      refine W.seq fun K hK => ?_
      refine W.region (by rfl) ?_
      refine Flow.box rfl (cs := [_, _, _]) rfl fun w1 c1 s1 b1 => ?_
      refine Flow.box rfl (cs := [_, _]) rfl fun w2 c2 s2 b2 => ?_
      refine Flow.assignC ?_
      refine hK _ _ _ ?_
      clear hK K
      refine W.seq fun K hK => ?_
      refine W.region (by rfl) ?_
      refine Flow.fieldAddr Tf.fo_44_0 rfl ?_
      refine Flow.load1 Tf.ty_3 rfl (b2.cell 0) ?_
      refine Flow.geqD (c := true) rfl rfl (decide_eq_true (by omega)) ?_
      refine Flow.move (v := .bool _) rfl ?_
      refine Flow.on rfl rfl ?_
      refine Flow.fieldAddr Tf.fo_44_0 rfl ?_
      refine Flow.on rfl rfl ?_
      refine Flow.load1 Tf.ty_3 rfl (b2.cell 0) ?_
      refine Flow.on rfl rfl ?_
      refine Flow.fieldAddr Tf.fo_44_1 rfl ?_
      refine Flow.on rfl rfl ?_
      refine Flow.load1 Tf.ty_3 rfl (b2.cell 1) ?_
      refine Flow.on rfl rfl ?_
      refine Flow.leqD (c := true) rfl rfl (decide_eq_true (by omega)) ?_
      refine Flow.pickT rfl rfl ?_
      refine Flow.move (v := .bool _) rfl ?_
      refine Flow.on rfl rfl ?_
      refine Flow.fieldAddr Tf.fo_44_1 rfl ?_
      refine Flow.on rfl rfl ?_
      refine Flow.load1 Tf.ty_3 rfl (b2.cell 1) ?_
      refine Flow.on rfl rfl ?_
      refine Flow.fieldAddr Tf.fo_25_0 rfl ?_
      refine Flow.on rfl rfl ?_
      refine Flow.load1 Tf.ty_3 rfl ((b1.chg c2 (by simp)).cell 0) ?_
      refine Flow.on rfl rfl ?_
      refine Flow.lss rfl rfl ?_
      refine Flow.pickT rfl rfl ?_
      refine Flow.assign (v := .bool _) rfl ?_
      refine hK _ _ _ ?_
      clear hK K
      refine W.ret ⟨_, res1 rfl (v := .bool _) rfl, by simp [h1, h2, spanOk], c1.then c2⟩
    · refine Ret.of_W (n := 22) Tryz.func89 rfl rfl (Nat.le_of_ble_eq_true rfl) ?_
      refine W.seq fun K hK => ?_
      refine W.region (by rfl) ?_
      refine Flow.box rfl (cs := [_, _, _]) rfl fun w1 c1 s1 b1 => ?_
      refine Flow.box rfl (cs := [_, _]) rfl fun w2 c2 s2 b2 => ?_
      refine Flow.assignC ?_
      refine hK _ _ _ ?_
      clear hK K
      refine W.seq fun K hK => ?_
      refine W.region (by rfl) ?_
      refine Flow.fieldAddr Tf.fo_44_0 rfl ?_
      refine Flow.load1 Tf.ty_3 rfl (b2.cell 0) ?_
      refine Flow.geqD (c := true) rfl rfl (decide_eq_true (by omega)) ?_
      refine Flow.move (v := .bool _) rfl ?_
      refine Flow.on rfl rfl ?_
      refine Flow.fieldAddr Tf.fo_44_0 rfl ?_
      refine Flow.on rfl rfl ?_
      refine Flow.load1 Tf.ty_3 rfl (b2.cell 0) ?_
      refine Flow.on rfl rfl ?_
      refine Flow.fieldAddr Tf.fo_44_1 rfl ?_
      refine Flow.on rfl rfl ?_
      refine Flow.load1 Tf.ty_3 rfl (b2.cell 1) ?_
      refine Flow.on rfl rfl ?_
      refine Flow.leqD (c := false) rfl rfl (decide_eq_false (by omega)) ?_
      refine Flow.pickT rfl rfl ?_
      refine Flow.move (v := .bool _) rfl ?_
      refine Flow.off (c := false) rfl rfl rfl ?_
      refine Flow.off (c := false) rfl rfl rfl ?_
      refine Flow.off (c := false) rfl rfl rfl ?_
      refine Flow.off (c := false) rfl rfl rfl ?_
      refine Flow.off (c := false) rfl rfl rfl ?_
      refine Flow.pickF rfl rfl ?_
      refine Flow.assign (v := .bool _) rfl ?_
      refine hK _ _ _ ?_
      clear hK K
      refine W.ret ⟨_, res1 rfl (v := .bool _) rfl, by simp [h1, h2, spanOk], c1.then c2⟩
  · refine Ret.of_W (n := 22) Tryz.func89 rfl rfl (Nat.le_of_ble_eq_true rfl) ?_
    refine W.seq fun K hK => ?_
    refine W.region (by rfl) ?_
    refine Flow.box rfl (cs := [_, _, _]) rfl fun w1 c1 s1 b1 => ?_
    refine Flow.box rfl (cs := [_, _]) rfl fun w2 c2 s2 b2 => ?_
    refine Flow.assignC ?_
    refine hK _ _ _ ?_
    clear hK K
    refine W.seq fun K hK => ?_
    refine W.region (by rfl) ?_
    refine Flow.fieldAddr Tf.fo_44_0 rfl ?_
    refine Flow.load1 Tf.ty_3 rfl (b2.cell 0) ?_
    refine Flow.geqD (c := false) rfl rfl (decide_eq_false (by omega)) ?_
    refine Flow.move (v := .bool _) rfl ?_
    refine Flow.off (c := false) rfl rfl rfl ?_
    refine Flow.off (c := false) rfl rfl rfl ?_
    refine Flow.off (c := false) rfl rfl rfl ?_
    refine Flow.off (c := false) rfl rfl rfl ?_
    refine Flow.off (c := false) rfl rfl rfl ?_
    refine Flow.pickF rfl rfl ?_
    refine Flow.move (v := .bool _) rfl ?_
    refine Flow.off (c := false) rfl rfl rfl ?_
    refine Flow.off (c := false) rfl rfl rfl ?_
    refine Flow.off (c := false) rfl rfl rfl ?_
    refine Flow.off (c := false) rfl rfl rfl ?_
    refine Flow.off (c := false) rfl rfl rfl ?_
    refine Flow.pickF rfl rfl ?_
    refine Flow.assign (v := .bool _) rfl ?_
    refine hK _ _ _ ?_
    clear hK K
    refine W.ret ⟨_, res1 rfl (v := .bool _) rfl, by simp [h1, spanOk], c1.then c2⟩

theorem rhas_ok (w : World) (a : Option Addr) (c : Nat) (l : List Int) (x : Int) (hl : IL w a l) (hn : l.length ≤ 1000000) :
    Ret Tryz.prog 109 #[.slice a l.length c, .int .i64 x] w fun v w' => v = .bool (decide (x ∈ l)) ∧ Chg [] w w' := by
  refine Ret.of_W (n := 18) Tryz.func109 rfl rfl (Nat.le_of_ble_eq_true rfl) ?_
  refine W.seq fun K hK => ?_
  refine W.region (by rfl) ?_
  refine Flow.assignC ?_
  refine hK _ _ _ ?_
  clear hK K
  refine W.seq fun K0 hK0 => ?_
  refine W.seq fun K hK => ?_
  refine W.region (by rfl) ?_
  refine Flow.assignC ?_
  refine hK _ _ _ ?_
  clear hK K
  refine W.block ?_
  refine W.loop (ι := Nat) (fun k ds e w' => ds = [] ∧ k ≤ l.length ∧ AllAt e [(0, .slice a l.length c), (1, .int .i64 x), (5, .int .i64 k)] ∧ Chg [] w w' ∧ ∀ j (h : j < l.length), j < k → l[j] ≠ x)
    (fun k => l.length - k) (i0 := 0) ⟨rfl, by omega, ⟨rfl, rfl, rfl, trivial⟩, Chg.refl _ _, fun _ _ h => absurd h (by omega)⟩ ?_
  rintro k ds e w' ⟨rfl, hk, hE, hc, hno⟩
  obtain ⟨e, rfl⟩ : ∃ e0, e = putL e0 _ := ⟨e, putL_self hE⟩
  clear hE
  refine W.seq fun K2 hK2 => ?_
  refine W.seq fun K hK => ?_
  refine W.region (by rfl) ?_
  refine Flow.move (v := .int _ _) rfl ?_
  refine Flow.move (v := .slice _ _ _) rfl ?_
  refine Flow.len rfl Tf.us_22 rfl rfl ?_
  refine Flow.lss rfl rfl ?_
  refine hK _ _ _ ?_
  clear hK K
  refine W.cond rfl (fun h => W.skip (hK2 _ _ _ ?_)) (fun h => W.exit ?_)
  · have hlt : k < l.length := by simpa using h
    obtain ⟨b, o, rfl, hcell⟩ := (hl.ext hc).get hlt
    refine W.seq fun K3 hK3 => ?_
    refine W.block ?_
    refine W.seq fun K hK => ?_
    refine W.region (by rfl) ?_
    refine Flow.move (v := .slice _ _ _) rfl ?_
    refine Flow.move (v := .int _ _) rfl ?_
    refine Flow.indexAddr1 Tf.sl_22 rfl rfl (by omega) (by omega) ?_
    refine Flow.load1 Tf.ty_3 rfl (hcell k hlt) ?_
    refine Flow.move (v := .int _ _) rfl ?_
    refine Flow.eql rfl rfl ?_
    refine hK _ _ _ ?_
    clear hK K
    refine W.cond rfl (fun h => ?_) (fun h => W.skip (hK3 _ _ _ ?_))
    · refine W.seq fun K hK => ?_
      refine W.region (by rfl) ?_
      refine Flow.assignC ?_
      refine hK _ _ _ ?_
      clear hK K
      have hx : l[k] = x := by simpa using h
      exact W.ret ⟨_, res1 rfl (v := .bool _) rfl, by rw [decide_eq_true (show x ∈ l from hx ▸ List.getElem_mem hlt)], hc⟩
    · have hx : l[k] ≠ x := by simpa using h
      refine W.region (by rfl) ?_
      refine Flow.move (v := .int _ _) rfl ?_
      refine Flow.add rfl rfl (by omega) (by omega) ?_
      refine Flow.assign (v := .int _ _) rfl ?_
      refine Flow.nil ⟨k + 1, by omega, rfl, by omega, ⟨rfl, rfl, rfl, trivial⟩, hc, fun j hj hjk => ?_⟩
      by_cases e : j = k
      · subst e; exact hx
      · exact hno j hj (by omega)
  · have hge : k = l.length := by simp at h; omega
    refine hK0 _ _ _ ?_
    refine W.seq fun K hK => ?_
    refine W.region (by rfl) ?_
    refine Flow.assignC ?_
    refine hK _ _ _ ?_
    clear hK K
    refine W.ret ⟨_, res1 rfl (v := .bool _) rfl, ?_, hc⟩
    rw [decide_eq_false ?_]
    intro hm
    obtain ⟨j, hj, he⟩ := List.getElem_of_mem hm
    exact hno j hj (by omega) he

theorem rflaw_ok (w : World) (t : Tour) (ac af : Option Addr) (cc cf : Nat) (id : Int) (hF : FL w af t.flaws) (hfl : t.flaws.length ≤ 1000) :
    Ret Tryz.prog 77 #[.agg #[.int .i64 t.days, .slice ac t.closed.length cc, .slice af t.flaws.length cf], .int .i64 id] w fun v w' => v = .int .i64 (findS id 0 t.flaws) ∧ Chg [] w w' := by
  refine Ret.of_W (n := 22) Tryz.func77 rfl rfl (Nat.le_of_ble_eq_true rfl) ?_
  refine W.seq fun K hK => ?_
  refine W.region (by rfl) ?_
  refine Flow.box rfl (cs := [_, _, _]) rfl fun w1 c1 s1 b1 => ?_
  refine Flow.assignC ?_
  refine hK _ _ _ ?_
  clear hK K
  refine W.seq fun K0 hK0 => ?_
  refine W.seq fun K hK => ?_
  refine W.region (by rfl) ?_
  refine Flow.assignC ?_
  refine hK _ _ _ ?_
  clear hK K
  refine W.block ?_
  refine W.loop (ι := Nat) (fun k ds e w' => ds = [] ∧ k ≤ t.flaws.length ∧ AllAt e [(1, .int .i64 id), (2, .pointer (some ⟨w.heap.size, 0, none⟩)), (5, .int .i64 k)] ∧ Chg [] w1 w' ∧ ∀ j (h : j < t.flaws.length), j < k → t.flaws[j].id ≠ id)
    (fun k => t.flaws.length - k) (i0 := 0) ⟨rfl, by omega, ⟨rfl, rfl, rfl, trivial⟩, Chg.refl _ _, fun _ _ h => absurd h (by omega)⟩ ?_
  rintro k ds e w2 ⟨rfl, hk, hE, hc, hno⟩
  obtain ⟨e, rfl⟩ : ∃ e0, e = putL e0 _ := ⟨e, putL_self hE⟩
  clear hE
  have b12 := b1.chg hc (by simp)
  refine W.seq fun K2 hK2 => ?_
  refine W.seq fun K hK => ?_
  refine W.region (by rfl) ?_
  refine Flow.move (v := .int _ _) rfl ?_
  refine Flow.fieldAddr Tf.fo_25_2 rfl ?_
  refine Flow.load1 Tf.ty_23 rfl (b12.cell 2) ?_
  refine Flow.len rfl Tf.us_23 rfl rfl ?_
  refine Flow.lss rfl rfl ?_
  refine hK _ _ _ ?_
  clear hK K
  refine W.cond rfl (fun h => W.skip (hK2 _ _ _ ?_)) (fun h => W.exit ?_)
  · have hlt : k < t.flaws.length := by simpa using h
    obtain ⟨bf, of_, rfl, hflaw⟩ := (hF.ext (c1.then hc)).get hlt
    refine W.seq fun K3 hK3 => ?_
    refine W.block ?_
    refine W.seq fun K hK => ?_
    refine W.region (by rfl) ?_
    refine Flow.fieldAddr Tf.fo_25_2 rfl ?_
    refine Flow.load1 Tf.ty_23 rfl (b12.cell 2) ?_
    refine Flow.move (v := .int _ _) rfl ?_
    refine Flow.indexAddr Tf.sl_23 rfl rfl (by omega) (by omega) ?_
    refine Flow.fieldAddr Tf.fo_81_0 rfl ?_
    refine Flow.load1 Tf.ty_3 rfl ((hflaw k hlt).1) ?_
    refine Flow.move (v := .int _ _) rfl ?_
    refine Flow.eql rfl rfl ?_
    refine hK _ _ _ ?_
    clear hK K
    refine W.cond rfl (fun h => ?_) (fun h => W.skip (hK3 _ _ _ ?_))
    · have hx : t.flaws[k].id = id := by simpa using h
      refine W.seq fun K hK => ?_
      refine W.region (by rfl) ?_
      refine Flow.move (v := .int _ _) rfl ?_
      refine Flow.assign (v := .int _ _) rfl ?_
      refine hK _ _ _ ?_
      clear hK K
      refine W.ret ⟨_, res1 rfl (v := .int _ _) rfl, ?_, c1.then hc⟩
      rw [findS_eq, idxS_at _ 0 t.flaws k hlt (by simpa using hx) (fun j hj => by simpa using hno j (by omega) hj)]
      simp
    · have hx : t.flaws[k].id ≠ id := by simpa using h
      refine W.region (by rfl) ?_
      refine Flow.move (v := .int _ _) rfl ?_
      refine Flow.add rfl rfl (by omega) (by omega) ?_
      refine Flow.assign (v := .int _ _) rfl ?_
      refine Flow.nil ⟨k + 1, by omega, rfl, by omega, ⟨rfl, rfl, rfl, trivial⟩, hc, fun j hj hjk => ?_⟩
      by_cases e : j = k
      · subst e; exact hx
      · exact hno j hj (by omega)
  · have hge : k = t.flaws.length := by simp at h; omega
    refine hK0 _ _ _ ?_
    refine W.seq fun K hK => ?_
    refine W.region (by rfl) ?_
    refine Flow.assignC ?_
    refine hK _ _ _ ?_
    clear hK K
    refine W.ret ⟨_, res1 rfl (v := .int _ _) rfl, ?_, c1.then hc⟩
    rcases findS_ge id t.flaws with h | h
    · rw [h]
    · obtain ⟨j, hj⟩ := Int.eq_ofNat_of_zero_le h.1
      have hjl : j < t.flaws.length := by omega
      exact absurd (findS_id hjl hj) (hno j hjl (by omega))

theorem rmay_ok (w : World) (t : Tour) (ac af : Option Addr) (cc cf : Nat) (f : Flaw) (d : Int) (hC : IL w ac t.closed) (hcl : t.closed.length ≤ 1000) :
    Ret Tryz.prog 78 #[.agg #[.int .i64 t.days, .slice ac t.closed.length cc, .slice af t.flaws.length cf], .agg #[.int .i64 f.id, .int .i64 f.lo, .int .i64 f.hi, .int .i64 f.merit], .int .i64 d] w fun v w' => v = .bool (decide ((f.lo ≤ d ∧ d ≤ f.hi) ∧ d ∉ t.closed)) ∧ Chg [] w w' := by
  refine Ret.of_W (n := 22) Tryz.func78 rfl rfl (Nat.le_of_ble_eq_true rfl) ?_
  refine W.seq fun K hK => ?_
  refine W.region (by rfl) ?_
  refine Flow.box rfl (cs := [_, _, _]) rfl fun w1 c1 s1 b1 => ?_
  refine Flow.box rfl (cs := [_, _, _, _]) rfl fun w2 c2 s2 b2 => ?_
  refine Flow.assignC ?_
  refine hK _ _ _ ?_
  clear hK K
  have b12 := b1.chg c2 (by simp)
  have c12 := c1.then c2
  refine W.seq fun K hK => ?_
  refine W.region (by rfl) ?_
  refine Flow.move (v := .int _ _) rfl ?_
  refine Flow.fieldAddr Tf.fo_81_1 rfl ?_
  refine Flow.fieldAddr Tf.fo_44_0 rfl ?_
  refine Flow.load1 Tf.ty_3 rfl (b2.cell 1) ?_
  refine Flow.fieldAddr Tf.fo_81_1 rfl ?_
  refine Flow.fieldAddr Tf.fo_44_1 rfl ?_
  refine Flow.load1 Tf.ty_3 rfl (b2.cell 2) ?_
  refine Flow.call3 Tf.hb_93 (v1 := .int _ _) rfl (v2 := .int _ _) rfl (v3 := .int _ _) rfl ?_
  refine Ret.mono (rin_ok _ _ _ _) ?_
  rintro _ w3 ⟨rfl, c3⟩
  by_cases h : f.lo ≤ d ∧ d ≤ f.hi
  · rw [decide_eq_true h]
    refine Flow.move (v := .bool _) rfl ?_
    refine Flow.on rfl rfl ?_
    refine Flow.fieldAddr Tf.fo_25_1 rfl ?_
    refine Flow.on rfl rfl ?_
    refine Flow.load1 Tf.ty_22 rfl ((b12.chg c3 (by simp)).cell 1) ?_
    refine Flow.on rfl rfl ?_
    refine Flow.move (v := .int _ _) rfl ?_
    refine Flow.on rfl rfl ?_
    refine Flow.call2 Tf.hb_109 (v1 := .slice _ _ _) rfl (v2 := .int _ _) rfl ?_
    refine Ret.mono (rhas_ok _ _ _ t.closed _ (hC.ext (c12.then c3)) (by omega)) ?_
    rintro _ w4 ⟨rfl, c4⟩
    refine Flow.on rfl rfl ?_
    refine Flow.not rfl ?_
    refine Flow.pickT rfl rfl ?_
    refine Flow.assign (v := .bool _) rfl ?_
    refine hK _ _ _ ?_
    clear hK K
    exact W.ret ⟨_, res1 rfl (v := .bool _) rfl, by simp [h], (c12.then c3).then c4⟩
  · rw [decide_eq_false h]
    refine Flow.move (v := .bool _) rfl ?_
    refine Flow.off (c := false) rfl rfl rfl ?_
    refine Flow.off (c := false) rfl rfl rfl ?_
    refine Flow.off (c := false) rfl rfl rfl ?_
    refine Flow.off (c := false) rfl rfl rfl ?_
    refine Flow.off (c := false) rfl rfl rfl ?_
    refine Flow.pickF rfl rfl ?_
    refine Flow.assign (v := .bool _) rfl ?_
    refine hK _ _ _ ?_
    clear hK K
    exact W.ret ⟨_, res1 rfl (v := .bool _) rfl, by simp [h], c12.then c3⟩

end Go.Proofs.YtkoejelglinmnaaGreat

/-
  Contract of the reference: Check.
-/
namespace Go.Proofs.YtkoejelglinmnaaGreat
open Sg
set_option maxRecDepth 100000

theorem findS_le {id : Int} : ∀ (fl : List Flaw) (m j : Nat) (hj : j < fl.length), fl[j].id = id → (m : Int) ≤ findS id m fl ∧ findS id m fl ≤ m + j
  | [], _, _, hj, _ => by simp at hj
  | f :: fl, m, j, hj, h => by
    simp only [findS]
    by_cases hf : f.id = id
    · rw [if_pos hf]; omega
    · rw [if_neg hf]
      cases j with
      | zero => exact absurd (by simpa using h) hf
      | succ j =>
        have := findS_le fl (m + 1) j (by simpa using hj) (by simpa using h)
        omega

def hadK (t : Tour) (k : Nat) : List Int := ((t.flaws.take k).map (·.id)).reverse

theorem hadK_succ {t : Tour} {k : Nat} (h : k < t.flaws.length) : hadK t (k + 1) = t.flaws[k].id :: hadK t k := by
  unfold hadK
  rw [List.take_add_one, List.getElem?_eq_getElem h, List.map_append, List.reverse_append]
  rfl

theorem mem_hadK {t : Tour} {k : Nat} (h : k < t.flaws.length) : t.flaws[k].id ∈ hadK t k ↔ findS t.flaws[k].id 0 t.flaws < k := by
  have h0 := findS_le (id := t.flaws[k].id) t.flaws 0 k h rfl
  simp only [hadK, List.mem_reverse, List.mem_map]
  constructor
  · rintro ⟨f, hf, e⟩
    obtain ⟨j, hj, rfl⟩ := List.mem_iff_getElem.1 hf
    rw [List.length_take] at hj
    rw [List.getElem_take] at e
    have := findS_le (id := t.flaws[k].id) t.flaws 0 j (by omega) e
    omega
  · intro hlt
    obtain ⟨j, hj⟩ := Int.eq_ofNat_of_zero_le h0.1
    have hjk : j < k := by omega
    exact ⟨t.flaws[j], List.mem_iff_getElem.2 ⟨j, by rw [List.length_take]; omega, by rw [List.getElem_take]⟩, findS_id (by omega) hj⟩

set_option maxHeartbeats 2000000 in
theorem rcheck_ok (w : World) (t : Tour) (ac af : Option Addr) (cc cf : Nat) (hC : IL w ac t.closed) (hF : FL w af t.flaws) (hcl : t.closed.length ≤ 1000) (hfl : t.flaws.length ≤ 1000) :
    Ret Tryz.prog 56 #[.agg #[.int .i64 t.days, .slice ac t.closed.length cc, .slice af t.flaws.length cf]] w fun v w' => v = .int .i64 (chk t) ∧ Chg [] w w' := by
  refine Ret.of_W (n := 84) Tryz.func56 rfl rfl (Nat.le_of_ble_eq_true rfl) ?_
  refine W.seq fun K hK => ?_
  refine W.region (by rfl) ?_
  refine Flow.box rfl (cs := [_, _, _]) rfl fun w1 c1 s1 b1 => ?_
  refine Flow.assignC ?_
  refine hK _ _ _ ?_
  clear hK K
  refine W.seq fun K1 hK1 => ?_
  refine W.seq fun K hK => ?_
  refine W.region (by rfl) ?_
  refine Flow.fieldAddr Tf.fo_25_0 rfl ?_
  refine Flow.load1 Tf.ty_3 rfl (b1.cell 0) ?_
  refine Flow.call3 Tf.hb_93 (v1 := .int _ _) rfl (v2 := .int _ _) rfl (v3 := .int _ _) rfl ?_
  refine Ret.mono (rin_ok _ _ _ _) ?_
  rintro _ w2 ⟨rfl, c2⟩
  by_cases hd : 1 ≤ t.days ∧ t.days ≤ 60
  case neg =>
    rw [decide_eq_false hd]
    refine Flow.not rfl ?_
    refine hK _ _ _ ?_
    clear hK K
    refine W.cond (t := true) rfl (fun _ => ?_) (fun h => by simp at h)
    refine W.seq fun K hK => ?_
    refine W.region (by rfl) ?_
    refine Flow.assignC ?_
    refine hK _ _ _ ?_
    clear hK K
    refine W.ret ⟨_, res1 rfl (v := .int _ _) rfl, by rw [chk, if_pos hd], c1.then c2⟩
  rw [decide_eq_true hd]
  refine Flow.not rfl ?_
  refine hK _ _ _ ?_
  clear hK K
  refine W.cond (t := false) rfl (fun h => by simp at h) (fun _ => W.skip (hK1 _ _ _ ?_))
  refine W.seq fun K3 hK3 => ?_
  refine W.seq fun K hK => ?_
  refine W.region (by rfl) ?_
  refine Flow.assignC ?_
  refine hK _ _ _ ?_
  clear hK K
  refine W.block ?_
  refine W.loop (ι := Nat) (fun k ds e w' => ds = [] ∧ k ≤ t.closed.length ∧ AllAt e [(1, .pointer (some ⟨w.heap.size, 0, none⟩)), (3, .int .i64 k)] ∧
      Chg [] w1 w' ∧ badClosed t.days none t.closed = badClosed t.days (prevAt t.closed k) (t.closed.drop k))
    (fun k => t.closed.length - k) (i0 := 0) ⟨rfl, by omega, ⟨rfl, rfl, trivial⟩, c2, by simp [prevAt]⟩ ?_
  rintro k ds e w' ⟨rfl, hk, hE, hc, hw⟩
  obtain ⟨e, rfl⟩ : ∃ e0, e = putL e0 _ := ⟨e, putL_self hE⟩
  clear hE
  have b1c := b1.chg hc (by simp)
  refine W.seq fun K4 hK4 => ?_
  refine W.seq fun K hK => ?_
  refine W.region (by rfl) ?_
  refine Flow.move (v := .int _ _) rfl ?_
  refine Flow.fieldAddr Tf.fo_25_1 rfl ?_
  refine Flow.load1 Tf.ty_22 rfl (b1c.cell 1) ?_
  refine Flow.len rfl Tf.us_22 rfl rfl ?_
  refine Flow.lss rfl rfl ?_
  refine hK _ _ _ ?_
  clear hK K
  refine W.cond rfl (fun h => W.skip (hK4 _ _ _ ?_)) (fun h => W.exit ?_)
  · have hlt : k < t.closed.length := by simpa using h
    obtain ⟨b, o, rfl, hcell⟩ := (hC.ext (c1.then hc)).get hlt
    rw [List.drop_eq_getElem_cons hlt, badClosed_cons] at hw
    refine W.seq fun K5 hK5 => ?_
    refine W.block ?_
    have hbad : badClosed t.days none t.closed = true → chk t = 1 := fun h => by rw [chk, if_neg (by simpa using hd), if_pos h]
    refine W.seq fun K hK => ?_
    refine W.regionD [8] [] (by kernel_rfl) (by kernel_rfl) fun w3 c3 h3 => ?_
    refine FD.val (fun _ hw => Rn.fieldAddr Tf.fo_25_1 rfl) ?_
    refine FD.val (fun _ hw => Rn.load1 Tf.ty_22 rfl ((b1c.chg c3 (by simp)).cell 1) (hw rfl rfl)) ?_
    refine FD.val (fun _ hw => Rn.move (v := .int _ _) rfl) ?_
    refine FD.val (fun _ hw => Rn.indexAddr1 Tf.sl_22 rfl rfl (by omega) (by omega)) ?_
    refine FD.val (fun _ hw => Rn.load1 Tf.ty_3 rfl (cell_chg (hcell k hlt) c3 (by simp)) (hw rfl rfl)) ?_
    refine FD.val (fun _ hw => Rn.fieldAddr Tf.fo_25_0 rfl) ?_
    refine FD.val (fun _ hw => Rn.load1 Tf.ty_3 rfl ((b1c.chg c3 (by simp)).cell 0) (hw rfl rfl)) ?_
    refine FD.val (fun _ hw => Rn.sub rfl rfl (by omega) (by omega)) ?_
    refine FD.eff (by rfl) (Chg.refl _ _) ?_
    refine Flow.call3 Tf.hb_93 (v1 := .int _ _) rfl (v2 := .int _ _) rfl (v3 := .int _ _) rfl ?_
    refine Ret.mono (rin_ok _ _ _ _) ?_
    rintro _ w4 ⟨rfl, c4⟩
    refine Flow.nil ⟨c4, ?_⟩
    by_cases hr : 0 ≤ t.closed[k] ∧ t.closed[k] ≤ t.days - 1
    case neg =>
      rw [decide_eq_false hr]
      refine FD.val (fun _ hw => Rn.not rfl) ?_
      refine FD.val (fun _ hw => Rn.move (v := .bool _) rfl) ?_
      refine FD.off (c := true) rfl rfl rfl ?_
      refine FD.off (c := true) rfl rfl rfl ?_
      refine FD.off (c := true) rfl rfl rfl ?_
      refine FD.offU rfl rfl ?_
      refine FD.offU rfl rfl ?_
      refine FD.offU rfl rfl ?_
      refine FD.offU rfl rfl ?_
      refine FD.offU rfl rfl ?_
      refine FD.offU rfl rfl ?_
      refine FD.offU rfl rfl ?_
      refine FD.offU rfl rfl ?_
      refine FD.offU rfl rfl ?_
      refine FD.offU rfl rfl ?_
      refine FD.offU rfl rfl ?_
      refine FD.offU rfl rfl ?_
      refine FD.off (c := true) rfl rfl rfl ?_
      refine FD.val (fun _ hw => Rn.pickT rfl rfl) ?_
      refine FD.nil ?_
      refine hK _ _ _ ?_
      clear hK K
      refine W.cond (t := true) rfl (fun _ => ?_) (fun h => by simp at h)
      refine W.seq fun K hK => ?_
      refine W.region (by rfl) ?_
      refine Flow.assignC ?_
      refine hK _ _ _ ?_
      clear hK K
      refine W.ret ⟨_, res1 rfl (v := .int _ _) rfl, by rw [hbad (by rw [hw]; simp [hr])], c1.then (hc.then (c3.then c4))⟩
    rw [decide_eq_true hr]
    by_cases hk0 : k = 0
    · refine FD.val (fun _ hw => Rn.not rfl) ?_
      refine FD.val (fun _ hw => Rn.move (v := .bool _) rfl) ?_
      refine FD.on rfl rfl ?_
      refine FD.val (fun _ hw => Rn.move (v := .int _ _) rfl) ?_
      refine FD.on rfl rfl ?_
      refine FD.val (fun _ hw => Rn.gtrD (c := false) rfl rfl (decide_eq_false (by omega))) ?_
      refine FD.on rfl rfl ?_
      refine FD.val (fun _ hw => Rn.move (v := .bool _) rfl) ?_
      refine FD.off (c := false) rfl rfl rfl ?_
      refine FD.off (c := false) rfl rfl rfl ?_
      refine FD.off (c := false) rfl rfl rfl ?_
      refine FD.off (c := false) rfl rfl rfl ?_
      refine FD.off (c := false) rfl rfl rfl ?_
      refine FD.off (c := false) rfl rfl rfl ?_
      refine FD.off (c := false) rfl rfl rfl ?_
      refine FD.off (c := false) rfl rfl rfl ?_
      refine FD.off (c := false) rfl rfl rfl ?_
      refine FD.off (c := false) rfl rfl rfl ?_
      refine FD.off (c := false) rfl rfl rfl ?_
      refine FD.off (c := false) rfl rfl rfl ?_
      refine FD.on rfl rfl ?_
      refine FD.val (fun _ hw => Rn.pickF rfl rfl) ?_
      refine FD.val (fun _ hw => Rn.pickF rfl rfl) ?_
      refine FD.nil ?_
      refine hK _ _ _ ?_
      clear hK K
      refine W.cond (t := false) rfl (fun h => by simp at h) (fun _ => W.skip (hK5 _ _ _ ?_))
      refine W.region (by rfl) ?_
      refine Flow.move (v := .int _ _) rfl ?_
      refine Flow.add rfl rfl (by omega) (by omega) ?_
      refine Flow.assign (v := .int _ _) rfl ?_
      refine Flow.nil ⟨k + 1, by omega, rfl, by omega, ⟨rfl, rfl, trivial⟩, hc.then (c3.then c4), ?_⟩
      rw [hw, prevAt_succ hlt]; subst hk0; simp [prevAt, hr]
    · rw [prevAt_pos (by omega) hlt] at hw
      have hcell' : w3.cell? ⟨b, o + (k - 1), none⟩ = _ := cell_chg (hcell (k - 1) (by omega)) c3 (by simp)
      have hkk : ((k : Int) - 1).toNat = k - 1 := by omega
      refine FD.val (fun _ hw => Rn.not rfl) ?_
      refine FD.val (fun _ hw => Rn.move (v := .bool _) rfl) ?_
      refine FD.on rfl rfl ?_
      refine FD.val (fun _ hw => Rn.move (v := .int _ _) rfl) ?_
      refine FD.on rfl rfl ?_
      refine FD.val (fun _ hw => Rn.gtrD (c := true) rfl rfl (decide_eq_true (by omega))) ?_
      refine FD.on rfl rfl ?_
      refine FD.val (fun _ hw => Rn.move (v := .bool _) rfl) ?_
      refine FD.on rfl rfl ?_
      refine FD.val (fun _ hw => Rn.fieldAddr Tf.fo_25_1 rfl) ?_
      refine FD.on rfl rfl ?_
      refine FD.val (fun _ hw => Rn.load1 Tf.ty_22 rfl ((b1c.chg c3 (by simp)).cell 1) (hw rfl rfl)) ?_
      refine FD.on rfl rfl ?_
      refine FD.val (fun _ hw => Rn.move (v := .int _ _) rfl) ?_
      refine FD.on rfl rfl ?_
      refine FD.val (fun _ hw => Rn.indexAddr1 Tf.sl_22 rfl rfl (by omega) (by omega)) ?_
      refine FD.on rfl rfl ?_
      refine FD.val (fun _ hw => Rn.load1 Tf.ty_3 rfl (cell_chg (hcell k hlt) c3 (by simp)) (hw rfl rfl)) ?_
      refine FD.on rfl rfl ?_
      refine FD.val (fun _ hw => Rn.fieldAddr Tf.fo_25_1 rfl) ?_
      refine FD.on rfl rfl ?_
      refine FD.val (fun _ hw => Rn.load1 Tf.ty_22 rfl ((b1c.chg c3 (by simp)).cell 1) (hw rfl rfl)) ?_
      refine FD.on rfl rfl ?_
      refine FD.val (fun _ hw => Rn.move (v := .int _ _) rfl) ?_
      refine FD.on rfl rfl ?_
      refine FD.val (fun _ hw => Rn.sub rfl rfl (by omega) (by omega)) ?_
      refine FD.on rfl rfl ?_
      refine FD.val (fun _ hw => Rn.indexAddr1 Tf.sl_22 rfl rfl (by omega) (by omega)) ?_
      refine FD.on rfl rfl ?_
      refine FD.val (fun _ hw => Rn.load1 Tf.ty_3 rfl (by rw [hkk]; exact hcell') (hw rfl rfl)) ?_
      refine FD.on rfl rfl ?_
      refine FD.val (fun _ hw => Rn.leqD rfl rfl rfl) ?_
      refine FD.on rfl rfl ?_
      refine FD.val (fun _ hw => Rn.pickT rfl rfl) ?_
      refine FD.val (fun _ hw => Rn.pickF rfl rfl) ?_
      refine FD.nil ?_
      refine hK _ _ _ ?_
      clear hK K
      refine W.cond rfl (fun h => ?_) (fun h => W.skip (hK5 _ _ _ ?_))
      · refine W.seq fun K hK => ?_
        refine W.region (by rfl) ?_
        refine Flow.assignC ?_
        refine hK _ _ _ ?_
        clear hK K
        refine W.ret ⟨_, res1 rfl (v := .int _ _) rfl, by rw [hbad (by rw [hw]; simp [show t.closed[k] ≤ t.closed[k - 1] from by simpa using h])], c1.then (hc.then (c3.then c4))⟩
      · have hle : ¬ t.closed[k] ≤ t.closed[k - 1] := by simpa using h
        refine W.region (by rfl) ?_
        refine Flow.move (v := .int _ _) rfl ?_
        refine Flow.add rfl rfl (by omega) (by omega) ?_
        refine Flow.assign (v := .int _ _) rfl ?_
        refine Flow.nil ⟨k + 1, by omega, rfl, by omega, ⟨rfl, rfl, trivial⟩, hc.then (c3.then c4), ?_⟩
        rw [hw, prevAt_succ hlt]; simp [hr, hle]
  have hge : k = t.closed.length := by simp at h; omega
  subst hge
  rw [List.drop_length, badClosed_nil] at hw
  refine hK3 _ _ _ ?_
  refine W.seq fun K8 hK8 => ?_
  refine W.seq fun K hK => ?_
  refine W.region (by rfl) ?_
  refine Flow.fieldAddr Tf.fo_25_2 rfl ?_
  refine Flow.load1 Tf.ty_23 rfl (b1c.cell 2) ?_
  refine Flow.len rfl Tf.us_23 rfl rfl ?_
  refine Flow.gtr rfl rfl ?_
  refine hK _ _ _ ?_
  clear hK K
  refine W.cond rfl (fun h => ?_) (fun h => W.skip (hK8 _ _ _ ?_))
  · have h40 : 40 < t.flaws.length := by
      have : (40 : Int) < t.flaws.length := by simpa using h
      omega
    refine W.seq fun K hK => ?_
    refine W.region (by rfl) ?_
    refine Flow.assignC ?_
    refine hK _ _ _ ?_
    clear hK K
    exact W.ret ⟨_, res1 rfl (v := .int _ _) rfl, by rw [chk, if_neg (by simpa using hd), if_neg (by rw [hw]; simp), if_pos h40], c1.then hc⟩
  have h40 : ¬ 40 < t.flaws.length := by
    have : ¬ (40 : Int) < t.flaws.length := by simpa using h
    omega
  have hchk : chk t = flawErr t.days [] t.flaws := by rw [chk, if_neg (by simpa using hd), if_neg (by rw [hw]; simp), if_neg h40]
  rw [hchk]
  clear hw h hK1 K1 hK3 K3 hK4 K4 hK8 K8
  refine W.forget [(1, .pointer (some ⟨w.heap.size, 0, none⟩))] ⟨rfl, trivial⟩ fun e => ?_
  refine W.seq fun K10 hK10 => ?_
  refine W.seq fun K hK => ?_
  refine W.region (by rfl) ?_
  refine Flow.assignC ?_
  refine hK _ _ _ ?_
  clear hK K
  refine W.block ?_
  refine W.loop (ι := Nat) (fun k ds e w2 => ds = [] ∧ k ≤ t.flaws.length ∧ AllAt e [(1, .pointer (some ⟨w.heap.size, 0, none⟩)), (4, .int .i64 k)] ∧ Chg [] w1 w2 ∧ flawErr t.days [] t.flaws = flawErr t.days (hadK t k) (t.flaws.drop k))
    (fun k => t.flaws.length - k) (i0 := 0) ⟨rfl, by omega, ⟨rfl, rfl, trivial⟩, hc, by simp [hadK]⟩ ?_
  clear b1c hc
  rintro k ds e w2 ⟨rfl, hk, hE, hc, hw⟩
  obtain ⟨e, rfl⟩ : ∃ e0, e = putL e0 _ := ⟨e, putL_self hE⟩
  clear hE
  have b1c := b1.chg hc (by simp)
  refine W.seq fun K11 hK11 => ?_
  refine W.seq fun K hK => ?_
  refine W.region (by rfl) ?_
  refine Flow.move (v := .int _ _) rfl ?_
  refine Flow.fieldAddr Tf.fo_25_2 rfl ?_
  refine Flow.load1 Tf.ty_23 rfl (b1c.cell 2) ?_
  refine Flow.len rfl Tf.us_23 rfl rfl ?_
  refine Flow.lss rfl rfl ?_
  refine hK _ _ _ ?_
  clear hK K
  refine W.cond rfl (fun h => W.skip (hK11 _ _ _ ?_)) (fun h => W.exit ?_)
  case refine_2 =>
    have hge : k = t.flaws.length := by simp at h; omega
    subst hge
    rw [List.drop_length] at hw
    refine hK10 _ _ _ ?_
    refine W.seq fun K hK => ?_
    refine W.region (by rfl) ?_
    refine Flow.assignC ?_
    refine hK _ _ _ ?_
    clear hK K
    exact W.ret ⟨_, res1 rfl (v := .int _ _) rfl, by rw [hw]; rfl, c1.then hc⟩
  have hlt : k < t.flaws.length := by simpa using h
  have c12 := c1.then hc
  obtain ⟨bf, of_, rfl, hflaw⟩ := (hF.ext c12).get hlt
  rw [List.drop_eq_getElem_cons hlt, flawErr] at hw
  refine W.seq fun K12 hK12 => ?_
  refine W.block ?_
  refine W.seq fun K hK => ?_
  refine W.region (by rfl) ?_
  refine Flow.fieldAddr Tf.fo_25_2 rfl ?_
  refine Flow.load1 Tf.ty_23 rfl (b1c.cell 2) ?_
  refine Flow.move (v := .int _ _) rfl ?_
  refine Flow.indexAddr Tf.sl_23 rfl rfl (by omega) (by omega) ?_
  refine Flow.loadA Tf.ty_81 rfl rfl (hflaw k hlt) ?_
  refine Flow.alloc Tf.ty_81 (cs := [_, _, _, _]) rfl fun w3 c3 s3 b3 => ?_
  refine Flow.store Tf.ty_81 rfl rfl (b3) (vs := [_, _, _, _]) rfl rfl (by simp) rfl fun w4 c4 s4 b4 => ?_
  refine hK _ _ _ ?_
  clear hK K
  have c24 : Chg [] w2 w4 := c3.step c4 (by simp)
  have b14 := b1c.chg c24 (by simp)
  have hneg : (¬ (1 ≤ t.flaws[k].id ∧ t.flaws[k].id ≤ 1099511627776) ∨ spanOk t.days t.flaws[k].lo t.flaws[k].hi = false ∨ ¬ (1 ≤ t.flaws[k].merit ∧ t.flaws[k].merit ≤ 1000)) → flawErr t.days [] t.flaws = 1 := fun h => by rw [hw, if_pos h]
  refine W.seq fun K14 hK14 => ?_
  refine W.seq fun K hK => ?_
  refine W.region (by rfl) ?_
  refine Flow.fieldAddr Tf.fo_81_0 rfl ?_
  refine Flow.load1 Tf.ty_3 rfl (b4.cell 0) ?_
  refine Flow.call3 Tf.hb_93 (v1 := .int _ _) rfl (v2 := .int _ _) rfl (v3 := .int _ _) rfl ?_
  refine Ret.mono (rin_ok _ _ _ _) ?_
  rintro _ w5 ⟨rfl, c5⟩
  by_cases h1 : 1 ≤ t.flaws[k].id ∧ t.flaws[k].id ≤ 1099511627776
  case neg =>
    rw [decide_eq_false h1]
    refine Flow.not rfl ?_
    refine Flow.move (v := .bool _) rfl ?_
    refine Flow.off (c := true) rfl rfl rfl ?_
    refine Flow.off (c := true) rfl rfl rfl ?_
    refine Flow.off (c := true) rfl rfl rfl ?_
    refine Flow.off (c := true) rfl rfl rfl ?_
    refine Flow.off (c := true) rfl rfl rfl ?_
    refine Flow.pickT rfl rfl ?_
    refine Flow.move (v := .bool _) rfl ?_
    refine Flow.off (c := true) rfl rfl rfl ?_
    refine Flow.off (c := true) rfl rfl rfl ?_
    refine Flow.off (c := true) rfl rfl rfl ?_
    refine Flow.off (c := true) rfl rfl rfl ?_
    refine Flow.pickT rfl rfl ?_
    refine hK _ _ _ ?_
    clear hK K
    refine W.cond (t := true) rfl (fun _ => ?_) (fun h => by simp at h)
    refine W.seq fun K hK => ?_
    refine W.region (by rfl) ?_
    refine Flow.assignC ?_
    refine hK _ _ _ ?_
    clear hK K
    exact W.ret ⟨_, res1 rfl (v := .int _ _) rfl, by rw [hneg (.inl h1)], c12.then (c24.then c5)⟩
  rw [decide_eq_true h1]
  have b45 := b4.chg c5 (by simp)
  refine Flow.not rfl ?_
  refine Flow.move (v := .bool _) rfl ?_
  refine Flow.on rfl rfl ?_
  refine Flow.loadA Tf.ty_25 rfl rfl ((b14.chg c5 (by simp)).cells0) ?_
  refine Flow.on rfl rfl ?_
  refine Flow.fieldAddr Tf.fo_81_1 rfl ?_
  refine Flow.on rfl rfl ?_
  refine Flow.loadA Tf.ty_44 rfl rfl (show Cells _ w2.heap.size 1 [_, _] from ⟨b45.cells0.2.1, b45.cells0.2.2.1, trivial⟩) ?_
  refine Flow.on rfl rfl ?_
  refine Flow.call2 Tf.hb_89 (v1 := .agg _) rfl (v2 := .agg _) rfl ?_
  refine Ret.mono (rspan_ok _ _ _ _ _ _ _ _ _ _) ?_
  rintro _ w6 ⟨rfl, c6⟩
  cases hsp : spanOk t.days t.flaws[k].lo t.flaws[k].hi with
  | false =>
    refine Flow.on rfl rfl ?_
    refine Flow.not rfl ?_
    refine Flow.pickF rfl rfl ?_
    refine Flow.move (v := .bool _) rfl ?_
    refine Flow.off (c := true) rfl rfl rfl ?_
    refine Flow.off (c := true) rfl rfl rfl ?_
    refine Flow.off (c := true) rfl rfl rfl ?_
    refine Flow.off (c := true) rfl rfl rfl ?_
    refine Flow.pickT rfl rfl ?_
    refine hK _ _ _ ?_
    clear hK K
    refine W.cond (t := true) rfl (fun _ => ?_) (fun h => by simp at h)
    refine W.seq fun K hK => ?_
    refine W.region (by rfl) ?_
    refine Flow.assignC ?_
    refine hK _ _ _ ?_
    clear hK K
    exact W.ret ⟨_, res1 rfl (v := .int _ _) rfl, by rw [hneg (.inr (.inl hsp))], c12.then (c24.then (c5.then c6))⟩
  | true =>
  have b46 := b45.chg c6 (by simp)
  refine Flow.on rfl rfl ?_
  refine Flow.not rfl ?_
  refine Flow.pickF rfl rfl ?_
  refine Flow.move (v := .bool _) rfl ?_
  refine Flow.on rfl rfl ?_
  refine Flow.fieldAddr Tf.fo_81_2 rfl ?_
  refine Flow.on rfl rfl ?_
  refine Flow.load1 Tf.ty_3 rfl (b46.cell 3) ?_
  refine Flow.on rfl rfl ?_
  refine Flow.call3 Tf.hb_93 (v1 := .int _ _) rfl (v2 := .int _ _) rfl (v3 := .int _ _) rfl ?_
  refine Ret.mono (rin_ok _ _ _ _) ?_
  rintro _ w7 ⟨rfl, c7⟩
  by_cases h3 : 1 ≤ t.flaws[k].merit ∧ t.flaws[k].merit ≤ 1000
  case neg =>
    rw [decide_eq_false h3]
    refine Flow.on rfl rfl ?_
    refine Flow.not rfl ?_
    refine Flow.pickF rfl rfl ?_
    refine hK _ _ _ ?_
    clear hK K
    refine W.cond (t := true) rfl (fun _ => ?_) (fun h => by simp at h)
    refine W.seq fun K hK => ?_
    refine W.region (by rfl) ?_
    refine Flow.assignC ?_
    refine hK _ _ _ ?_
    clear hK K
    exact W.ret ⟨_, res1 rfl (v := .int _ _) rfl, by rw [hneg (.inr (.inr h3))], c12.then (c24.then ((c5.then c6).then c7))⟩
  rw [decide_eq_true h3]
  refine Flow.on rfl rfl ?_
  refine Flow.not rfl ?_
  refine Flow.pickF rfl rfl ?_
  refine hK _ _ _ ?_
  clear hK K
  refine W.cond (t := false) rfl (fun h => by simp at h) (fun _ => W.skip (hK14 _ _ _ ?_))
  have c27 := c24.then ((c5.then c6).then c7)
  have b17 := b14.chg ((c5.then c6).then c7) (by simp)
  have b47 := b46.chg c7 (by simp)
  have hok : ¬ (¬ (1 ≤ t.flaws[k].id ∧ t.flaws[k].id ≤ 1099511627776) ∨ spanOk t.days t.flaws[k].lo t.flaws[k].hi = false ∨ ¬ (1 ≤ t.flaws[k].merit ∧ t.flaws[k].merit ≤ 1000)) := by
    rintro (h | h | h)
    · exact h h1
    · rw [hsp] at h; cases h
    · exact h h3
  rw [if_neg hok] at hw
  refine W.seq fun K hK => ?_
  refine W.region (by rfl) ?_
  refine Flow.loadA Tf.ty_25 rfl rfl (b17.cells0) ?_
  refine Flow.fieldAddr Tf.fo_81_0 rfl ?_
  refine Flow.load1 Tf.ty_3 rfl (b47.cell 0) ?_
  refine Flow.call2 Tf.hb_77 (v1 := .agg _) rfl (v2 := .int _ _) rfl ?_
  refine Ret.mono (rflaw_ok _ t ac _ cc cf t.flaws[k].id (hF.ext (c12.then c27)) hfl) ?_
  rintro _ w8 ⟨rfl, c8⟩
  refine Flow.move (v := .int _ _) rfl ?_
  refine Flow.lss rfl rfl ?_
  refine hK _ _ _ ?_
  clear hK K
  refine W.cond rfl (fun h => ?_) (fun h => W.skip (hK12 _ _ _ ?_))
  · have hlt2 : findS t.flaws[k].id 0 t.flaws < k := by simpa using h
    refine W.seq fun K hK => ?_
    refine W.region (by rfl) ?_
    refine Flow.assignC ?_
    refine hK _ _ _ ?_
    clear hK K
    exact W.ret ⟨_, res1 rfl (v := .int _ _) rfl, by rw [hw, if_pos ((mem_hadK hlt).2 hlt2)], c12.then (c27.then c8)⟩
  · have hlt2 : ¬ findS t.flaws[k].id 0 t.flaws < k := by simpa using h
    refine W.region (by rfl) ?_
    refine Flow.move (v := .int _ _) rfl ?_
    refine Flow.add rfl rfl (by omega) (by omega) ?_
    refine Flow.assign (v := .int _ _) rfl ?_
    refine Flow.nil ⟨k + 1, by omega, rfl, by omega, ⟨rfl, rfl, trivial⟩, hc.then (c27.then c8), ?_⟩
    rw [hw, if_neg (fun h => hlt2 ((mem_hadK hlt).1 h)), hadK_succ hlt]

end Go.Proofs.YtkoejelglinmnaaGreat

/-
  Contract of the reference: place.
-/
namespace Go.Proofs.YtkoejelglinmnaaGreat
open Sg
set_option maxRecDepth 100000

theorem daysFrom_sorted (closed : List Int) : ∀ (k : Nat) (d : Int), (daysFrom closed k d).Pairwise (· < ·)
  | 0, _ => List.Pairwise.nil
  | k + 1, d => by
    simp only [daysFrom]
    split
    · exact daysFrom_sorted closed k (d + 1)
    · refine List.pairwise_cons.2 ⟨fun x hx => ?_, daysFrom_sorted closed k (d + 1)⟩
      have := ((mem_daysFrom closed k (d + 1) x).1 hx).1
      omega

/-- The days of a list from one day on. -/
def fromD (l : List Int) (d : Nat) : List Int := l.filter fun x => decide ((d : Int) ≤ x)

theorem fromD_step : ∀ {l : List Int} (d : Nat), l.Pairwise (· < ·) → fromD l d = if (d : Int) ∈ l then (d : Int) :: fromD l (d + 1) else fromD l (d + 1)
  | [], d, _ => by simp [fromD]
  | a :: l, d, h => by
    have h' := List.pairwise_cons.1 h
    have ih := fromD_step d h'.2
    have f1 : (d : Int) ≤ a → fromD (a :: l) d = a :: fromD l d := fun h => List.filter_cons_of_pos (p := fun x => decide ((d : Int) ≤ x)) (decide_eq_true h)
    have f2 : ¬ (d : Int) ≤ a → fromD (a :: l) d = fromD l d := fun h => List.filter_cons_of_neg (p := fun x => decide ((d : Int) ≤ x)) (by simpa using h)
    have g1 : ((d + 1 : Nat) : Int) ≤ a → fromD (a :: l) (d + 1) = a :: fromD l (d + 1) := fun h => List.filter_cons_of_pos (p := fun x => decide (((d + 1 : Nat) : Int) ≤ x)) (decide_eq_true h)
    have g2 : ¬ ((d + 1 : Nat) : Int) ≤ a → fromD (a :: l) (d + 1) = fromD l (d + 1) := fun h => List.filter_cons_of_neg (p := fun x => decide (((d + 1 : Nat) : Int) ≤ x)) (fun hh => h (of_decide_eq_true hh))
    by_cases e : a = d
    · have hno : (d : Int) ∉ l := fun hx => by have := h'.1 _ hx; omega
      rw [f1 (by omega), g2 (by omega), if_pos (by rw [e]; simp), ih, if_neg hno, e]
    · have hm : ((d : Int) ∈ a :: l) ↔ (d : Int) ∈ l := by
        rw [List.mem_cons]
        exact ⟨fun h => h.resolve_left fun e' => e e'.symm, .inr⟩
      by_cases hlt : (d : Int) ≤ a
      · have hno : (d : Int) ∉ l := fun hx => by have := h'.1 _ hx; omega
        rw [f1 hlt, g1 (by omega), if_neg (fun h => hno (hm.1 h)), ih, if_neg hno]
      · rw [f2 hlt, g2 (by omega), ih]
        by_cases hx : (d : Int) ∈ l
        · rw [if_pos hx, if_pos (hm.2 hx)]
        · rw [if_neg hx, if_neg (fun h => hx (hm.1 h))]

/-- The search's things, but for the days tried and who has each day. -/
structure PlaceB (w : World) (t : Tour) (ac af : Option Addr) (cc cf sb hg tb : Nat) : Prop where
  blk : Blk w sb [.int .i64 t.days, .slice ac t.closed.length cc, .slice af t.flaws.length cf, .slice (some ⟨hg, 0, none⟩) t.days.toNat t.days.toNat, .slice (some ⟨tb, 0, none⟩) t.days.toNat t.days.toNat] 169
  il : IL w ac t.closed
  fl : FL w af t.flaws
  ne : tb ≠ hg
  nd : sb ∉ [tb, hg]
  oc : Off ac t.closed [tb, hg]
  of' : Off af t.flaws [tb, hg]

theorem PlaceB.chg {w w' : World} {t : Tour} {ac af : Option Addr} {cc cf sb hg tb : Nat} (h : PlaceB w t ac af cc cf sb hg tb) {S : List Nat} (hc' : Chg S w w') (hS : ∀ b ∈ S, b < w.heap.size → b = tb ∨ b = hg) :
    PlaceB w' t ac af cc cf sb hg tb := by
  have hc'' : Chg [tb, hg] w w' := hc'.mono (fun b hb hm => by have := hS b hm hb; simpa using this)
  exact ⟨h.blk.chg hc'' h.nd, h.il.chg hc'' h.oc, h.fl.chg hc'' h.of', h.ne, h.nd, h.oc, h.of'⟩

def PlaceM (w : World) (n tb hg : Nat) (has tr : List Int) : Prop := Blk w tb (boolCells n fun i => decide ((i : Int) ∈ tr)) 4 ∧ Blk w hg (ints has) 3

theorem PlaceM.chg {w w' : World} {n tb hg : Nat} {has tr : List Int} (h : PlaceM w n tb hg has tr) {S : List Nat} (hc : Chg S w w') (h1 : tb ∉ S) (h2 : hg ∉ S) : PlaceM w' n tb hg has tr := ⟨h.1.chg hc h1, h.2.chg hc h2⟩

set_option maxHeartbeats 2000000 in
theorem place_ok (t : Tour) (hs : Small t) (ac af : Option Addr) (cc cf sb hg tb : Nat) : ∀ (f : Nat) (i : Int) (has tr : List Int) (w : World), 0 ≤ i ∧ i < t.flaws.length → GInv t.days.toNat t.flaws.length has tr → t.days.toNat < f + tr.length →
    PlaceB w t ac af cc cf sb hg tb → PlaceM w t.days.toNat tb hg has tr →
    Ret Tryz.prog 132 #[.pointer (some ⟨sb, 0, none⟩), .int .i64 i] w fun v w' =>
      v = .bool (give (adjT t) f i has tr).1 ∧ PlaceM w' t.days.toNat tb hg (give (adjT t) f i has tr).2.1 (give (adjT t) f i has tr).2.2 ∧ Chg [tb, hg] w w'
  | 0, i, has, tr, w, _, hI, hf, _, _ => by have := hI.le; omega
  | f + 1, i, has, tr, w, hi, hI, hf, hB, hM => by
    have hcl := hs.cl
    have hdl := hs.dl
    have hdh := hs.dh
    have n1 := hB.ne
    have hil : i.toNat < t.flaws.length := by omega
    have he : flawAt t i = t.flaws[i.toNat] := flawAt_get hil
    have hrg := fun d hd => adjT_rg hs rfl hi d hd
    obtain ⟨R, hR0⟩ : ∃ R, R = giveScan (give (adjT t) f) i (adjT t i) has tr := ⟨_, rfl⟩
    have hR : give (adjT t) (f + 1) i has tr = R := hR0.symm
    rw [hR]
    have hsort : (adjT t i).Pairwise (· < ·) := daysFrom_sorted _ _ _
    have hf0 : fromD (adjT t i) 0 = adjT t i := List.filter_eq_self.2 fun x hx => decide_eq_true (by have := hrg x hx; omega)
    have hfn : fromD (adjT t i) t.days.toNat = [] := List.filter_eq_nil_iff.2 fun x hx => by have := hrg x hx; simp; omega
    have hmay : ∀ d : Nat, (d : Int) ∈ adjT t i ↔ (t.flaws[i.toNat].lo ≤ (d : Int) ∧ (d : Int) ≤ t.flaws[i.toNat].hi) ∧ (d : Int) ∉ t.closed := fun d => by
      rw [adjT, he, mem_opens]; exact and_assoc.symm
    obtain ⟨bf, of_, rfl, _⟩ := hB.fl.get hil
    refine Ret.of_W (n := 71) Tryz.func132 rfl rfl (Nat.le_of_ble_eq_true rfl) ?_
    refine W.seq fun K hK => ?_
    refine W.region (by rfl) ?_
    refine Flow.assignC ?_
    refine hK _ _ _ ?_
    clear hK K
    refine W.seq fun K0 hK0 => ?_
    refine W.seq fun K hK => ?_
    refine W.region (by rfl) ?_
    refine Flow.assignC ?_
    refine hK _ _ _ ?_
    clear hK K
    refine W.block ?_
    refine W.loop (ι := Nat × List Int × List Int) (fun k ds e w' => ds = [] ∧ k.1 ≤ t.days.toNat ∧ AllAt e [(0, .pointer (some ⟨sb, 0, none⟩)), (1, .int .i64 i), (5, .int .i64 k.1)] ∧ Chg [tb, hg] w w' ∧
        R = giveScan (give (adjT t) f) i (fromD (adjT t i) k.1) k.2.1 k.2.2 ∧ GInv t.days.toNat t.flaws.length k.2.1 k.2.2 ∧ tr.length ≤ k.2.2.length ∧ PlaceM w' t.days.toNat tb hg k.2.1 k.2.2)
      (fun k => t.days.toNat - k.1) (i0 := (0, has, tr)) ⟨rfl, by omega, ⟨rfl, rfl, rfl, trivial⟩, Chg.refl _ _, by rw [hf0]; exact hR0, hI, Nat.le_refl _, hM⟩ ?_
    rintro ⟨d, has', tr'⟩ ds e w2 ⟨rfl, hd, hE, hc, h1, h2, h3, h4⟩
    obtain ⟨e, rfl⟩ : ∃ e0, e = putL e0 _ := ⟨e, putL_self hE⟩
    clear hE
    simp only at hd h1 h2 h3 h4 ⊢
    have hB2 := hB.chg hc (fun b hb _ => by simpa using hb)
    refine W.seq fun K2 hK2 => ?_
    refine W.seq fun K hK => ?_
    refine W.region (by rfl) ?_
    refine Flow.move (v := .int _ _) rfl ?_
    refine Flow.move (v := .pointer _) rfl ?_
    refine Flow.nilCheck rfl ?_
    refine Flow.fieldAddr Tf.fo_169_0 rfl ?_
    refine Flow.fieldAddr Tf.fo_25_0 rfl ?_
    refine Flow.load1 Tf.ty_3 rfl (hB2.blk.cell 0) ?_
    refine Flow.lss rfl rfl ?_
    refine hK _ _ _ ?_
    clear hK K
    refine W.cond rfl (fun h => W.skip (hK2 _ _ _ ?_)) (fun h => W.exit ?_)
    case refine_2 =>
      have hge : d = t.days.toNat := by simp at h; omega
      subst hge
      rw [hfn] at h1
      refine hK0 _ _ _ ?_
      refine W.seq fun K hK => ?_
      refine W.region (by rfl) ?_
      refine Flow.assignC ?_
      refine hK _ _ _ ?_
      clear hK K
      exact W.ret ⟨_, res1 rfl (v := .bool _) rfl, by rw [h1]; rfl, by rw [h1]; exact h4, hc⟩
    have hlt : d < t.days.toNat := by simp at h; omega
    have hdl' : d < has'.length := by rw [h2.len]; omega
    obtain ⟨bf', of', he', hflaw⟩ := hB2.fl.get hil
    obtain ⟨rfl, rfl⟩ : bf = bf' ∧ of_ = of' := by simpa using he'
    refine W.seq fun K3 hK3 => ?_
    have hnext : ∀ (e : Env) (w' : World) (has2 tr2 : List Int), AllAt e [(0, .pointer (some ⟨sb, 0, none⟩)), (1, .int .i64 i), (5, .int .i64 d)] → Chg [tb, hg] w w' → R = giveScan (give (adjT t) f) i (fromD (adjT t i) (d + 1)) has2 tr2 → GInv t.days.toNat t.flaws.length has2 tr2 → tr.length ≤ tr2.length → PlaceM w' t.days.toNat tb hg has2 tr2 → K3 [] e w' := by
      intro e w' has2 tr2 hE hc' g1 g2 g3 g4
      refine hK3 _ _ _ ?_
      obtain ⟨e, rfl⟩ : ∃ e0, e = putL e0 _ := ⟨e, putL_self hE⟩
      clear hE
      refine W.region (by rfl) ?_
      refine Flow.move (v := .int _ _) rfl ?_
      refine Flow.add rfl rfl (by omega) (by omega) ?_
      refine Flow.assign (v := .int _ _) rfl ?_
      exact Flow.nil ⟨(d + 1, has2, tr2), by simp only; omega, rfl, by simp only; omega, ⟨rfl, rfl, rfl, trivial⟩, hc', g1, g2, g3, g4⟩
    have hst := fromD_step d hsort
    refine W.block ?_
    refine W.seq fun K4 hK4 => ?_
    have hX := fun (w3 : World) (c3 : Chg [] w2 w3) => (hB2.chg c3 (by simp)).blk.cells0
    refine W.seq fun K hK => ?_
    refine W.regionD [13] [] (by kernel_rfl) (by kernel_rfl) fun w3 c3 hh3 => ?_
    refine FD.val (fun _ hw => Rn.move (v := .pointer _) rfl) ?_
    refine FD.val (fun _ hw => Rn.nilCheck rfl) ?_
    refine FD.val (fun _ hw => Rn.fieldAddr Tf.fo_169_0 rfl) ?_
    refine FD.val (fun _ hw => Rn.loadA Tf.ty_25 rfl rfl (show Cells _ sb 0 [_, _, _] from ⟨(hX _ c3).1, (hX _ c3).2.1, (hX _ c3).2.2.1, trivial⟩) (hw rfl rfl)) ?_
    refine FD.val (fun _ hw => Rn.move (v := .pointer _) rfl) ?_
    refine FD.val (fun _ hw => Rn.nilCheck rfl) ?_
    refine FD.val (fun _ hw => Rn.fieldAddr Tf.fo_169_0 rfl) ?_
    refine FD.val (fun _ hw => Rn.fieldAddr Tf.fo_25_2 rfl) ?_
    refine FD.val (fun _ hw => Rn.load1 Tf.ty_23 rfl ((hB2.chg c3 (by simp)).blk.cell 2) (hw rfl rfl)) ?_
    refine FD.val (fun _ hw => Rn.move (v := .int _ _) rfl) ?_
    refine FD.val (fun _ hw => Rn.indexAddr Tf.sl_23 rfl rfl (by omega) (by omega)) ?_
    refine FD.val (fun _ hw => Rn.loadA Tf.ty_81 rfl rfl (Cells.chg c3 (by simp) (hflaw _ hil)) (hw rfl rfl)) ?_
    refine FD.val (fun _ hw => Rn.move (v := .int _ _) rfl) ?_
    refine FD.eff (by rfl) (Chg.refl _ _) ?_
    refine Flow.call3 Tf.hb_78 (v1 := .agg _) rfl (v2 := .agg _) rfl (v3 := .int _ _) rfl ?_
    refine Ret.mono (rmay_ok _ t ac _ cc cf t.flaws[i.toNat] (d : Int) (hB2.chg c3 (by simp)).il hcl) ?_
    rintro _ w4 ⟨rfl, c4⟩
    refine Flow.nil ⟨c4, ?_⟩
    by_cases hm : (t.flaws[i.toNat].lo ≤ (d : Int) ∧ (d : Int) ≤ t.flaws[i.toNat].hi) ∧ (d : Int) ∉ t.closed
    case neg =>
      rw [decide_eq_false hm]
      rw [if_neg (fun h => hm ((hmay d).1 h))] at hst
      rw [hst] at h1
      refine FD.val (fun _ hw => Rn.not rfl) ?_
      refine FD.val (fun _ hw => Rn.move (v := .bool _) rfl) ?_
      refine FD.off (c := true) rfl rfl rfl ?_
      refine FD.off (c := true) rfl rfl rfl ?_
      refine FD.off (c := true) rfl rfl rfl ?_
      refine FD.off (c := true) rfl rfl rfl ?_
      refine FD.off (c := true) rfl rfl rfl ?_
      refine FD.off (c := true) rfl rfl rfl ?_
      refine FD.off (c := true) rfl rfl rfl ?_
      refine FD.val (fun _ hw => Rn.pickT rfl rfl) ?_
      refine FD.nil ?_
      refine hK _ _ _ ?_
      clear hK K
      refine W.cond (t := true) rfl (fun _ => W.exit ?_) (fun h => by simp at h)
      exact hnext _ _ has' tr' ⟨rfl, rfl, rfl, trivial⟩ (hc.trans ((c3.then c4).mono (by simp)) (fun _ _ h => h)) h1 h2 h3 (h4.chg (c3.then c4) (by simp) (by simp))
    rw [decide_eq_true hm]
    rw [if_pos ((hmay d).2 hm)] at hst
    rw [hst, giveScan_cons] at h1
    have hbg : ∀ p : Nat → Bool, (boolCells t.days.toNat p)[0 + d]? = some (.bool (p d)) := fun p => by rw [Nat.zero_add]; exact boolCells_get hlt
    have c24 := c3.then c4
    refine FD.val (fun _ hw => Rn.not rfl) ?_
    refine FD.val (fun _ hw => Rn.move (v := .bool _) rfl) ?_
    refine FD.on rfl rfl ?_
    refine FD.val (fun _ hw => Rn.move (v := .pointer _) rfl) ?_
    refine FD.on rfl rfl ?_
    refine FD.val (fun _ hw => Rn.nilCheck rfl) ?_
    refine FD.on rfl rfl ?_
    refine FD.val (fun _ hw => Rn.fieldAddr Tf.fo_169_2 rfl) ?_
    refine FD.on rfl rfl ?_
    refine FD.val (fun _ hw => Rn.load1 Tf.ty_151 rfl ((hB2.chg c3 (by simp)).blk.cell 4) (hw rfl rfl)) ?_
    refine FD.on rfl rfl ?_
    refine FD.val (fun _ hw => Rn.move (v := .int _ _) rfl) ?_
    refine FD.on rfl rfl ?_
    refine FD.val (fun _ hw => Rn.indexAddr1 Tf.sl_151 rfl rfl (by omega) (by omega)) ?_
    refine FD.on rfl rfl ?_
    refine FD.val (fun _ hw => Rn.load1 Tf.ty_4 rfl (((h4.1.chg c3 (by simp)).cell _).trans (hbg _)) (hw rfl rfl)) ?_
    refine FD.val (fun _ hw => Rn.pickF rfl rfl) ?_
    refine FD.nil ?_
    refine hK _ _ _ ?_
    clear hK K
    refine W.cond rfl (fun h => W.exit ?_) (fun h => W.skip (hK4 _ _ _ ?_))
    · have hin : (d : Int) ∈ tr' := by simpa using h
      rw [if_pos hin] at h1
      exact hnext _ _ has' tr' ⟨rfl, rfl, rfl, trivial⟩ (hc.trans (c24.mono (by simp)) (fun _ _ h => h)) h1 h2 h3 (h4.chg c24 (by simp) (by simp))
    have hin : (d : Int) ∉ tr' := by simpa using h
    rw [if_neg hin] at h1
    have h44 := h4.chg c24 (by simp) (by simp)
    have hB4 := hB2.chg c24 (by simp)
    refine W.seq fun K hK => ?_
    refine W.region (by rfl) ?_
    refine Flow.move (v := .pointer _) rfl ?_
    refine Flow.nilCheck rfl ?_
    refine Flow.fieldAddr Tf.fo_169_2 rfl ?_
    refine Flow.load1 Tf.ty_151 rfl (hB4.blk.cell 4) ?_
    refine Flow.move (v := .int _ _) rfl ?_
    refine Flow.indexAddr1 Tf.sl_151 rfl rfl (by omega) (by omega) ?_
    refine Flow.store1 Tf.ty_4 rfl (v := .bool _) rfl (h44.1) (by simp [boolCells_len]; omega) rfl fun w5 c5 s5 b5 => ?_
    refine hK _ _ _ ?_
    clear hK K
    have b5 : Blk w5 tb (boolCells t.days.toNat fun j => decide ((j : Int) ∈ (d : Int) :: tr')) 4 := by rw [← boolCells_put (by omega)]; exact b5
    have hM5 : PlaceM w5 t.days.toNat tb hg has' ((d : Int) :: tr') := ⟨b5, h44.2.chg c5 (by simp; omega)⟩
    have hB5 := hB4.chg c5 (fun b hb _ => by simp at hb; simp [hb])
    have hI5 : GInv t.days.toNat t.flaws.length has' ((d : Int) :: tr') := h2.cons (by omega) hin
    have cc5 : Chg [tb, hg] w w5 := (hc.trans (c24.mono (by simp)) (fun _ _ h => h)).trans (c5.mono (T := [tb, hg]) (fun b _ h => by simp at h; simp [h])) (fun _ _ h => h)
    have hgd : has'.getD ((d : Int)).toNat (-1) = has'.getD d (-1) := rfl
    by_cases hd0 : has'.getD ((d : Int)).toNat (-1) < 0
    · rw [if_pos hd0] at h1
      refine W.seq fun K hK => ?_
      refine W.region (by rfl) ?_
      refine Flow.move (v := .pointer _) rfl ?_
      refine Flow.nilCheck rfl ?_
      refine Flow.fieldAddr Tf.fo_169_1 rfl ?_
      refine Flow.load1 Tf.ty_22 rfl (hB5.blk.cell 3) ?_
      refine Flow.move (v := .int _ _) rfl ?_
      refine Flow.indexAddr1 Tf.sl_22 rfl rfl (by omega) (by omega) ?_
      refine Flow.load1 Tf.ty_3 rfl ((hM5.2.cell _).trans (ints_get0 hdl')) ?_
      refine Flow.lssD (c := true) rfl rfl (decide_eq_true (by omega)) ?_
      refine Flow.move (v := .bool _) rfl ?_
      refine Flow.off (c := true) rfl rfl rfl ?_
      refine Flow.off (c := true) rfl rfl rfl ?_
      refine Flow.off (c := true) rfl rfl rfl ?_
      refine Flow.off (c := true) rfl rfl rfl ?_
      refine Flow.off (c := true) rfl rfl rfl ?_
      refine Flow.off (c := true) rfl rfl rfl ?_
      refine Flow.off (c := true) rfl rfl rfl ?_
      refine Flow.off (c := true) rfl rfl rfl ?_
      refine Flow.off (c := true) rfl rfl rfl ?_
      refine Flow.pickT rfl rfl ?_
      refine hK _ _ _ ?_
      clear hK K
      refine W.cond (t := true) rfl (fun _ => ?_) (fun h => by simp at h)
      refine W.seq fun K hK => ?_
      refine W.region (by rfl) ?_
      refine Flow.move (v := .pointer _) rfl ?_
      refine Flow.nilCheck rfl ?_
      refine Flow.fieldAddr Tf.fo_169_1 rfl ?_
      refine Flow.load1 Tf.ty_22 rfl (hB5.blk.cell 3) ?_
      refine Flow.move (v := .int _ _) rfl ?_
      refine Flow.move (v := .int _ _) rfl ?_
      refine Flow.indexAddr1 Tf.sl_22 rfl rfl (by omega) (by omega) ?_
      refine Flow.store1 Tf.ty_3 rfl (v := .int _ _) rfl (hM5.2) (by simp [ints]; omega) rfl fun w6 c6 s6 b6 => ?_
      refine hK _ _ _ ?_
      clear hK K
      rw [Nat.zero_add, ints_set] at b6
      refine W.seq fun K hK => ?_
      refine W.region (by rfl) ?_
      refine Flow.assignC ?_
      refine hK _ _ _ ?_
      clear hK K
      refine W.ret ⟨_, res1 rfl (v := .bool _) rfl, by rw [h1], ?_, cc5.trans (c6.mono (T := [tb, hg]) (fun b _ h => by simp at h; simp [h])) (fun _ _ h => h)⟩
      rw [h1]
      exact ⟨hM5.1.chg c6 (by simp; omega), b6⟩
    · rw [if_neg hd0] at h1
      have hget := h2.get (d := (d : Int)) (by omega) (by omega) hd0
      refine W.seq fun K hK => ?_
      refine W.region (by rfl) ?_
      refine Flow.move (v := .pointer _) rfl ?_
      refine Flow.nilCheck rfl ?_
      refine Flow.fieldAddr Tf.fo_169_1 rfl ?_
      refine Flow.load1 Tf.ty_22 rfl (hB5.blk.cell 3) ?_
      refine Flow.move (v := .int _ _) rfl ?_
      refine Flow.indexAddr1 Tf.sl_22 rfl rfl (by omega) (by omega) ?_
      refine Flow.load1 Tf.ty_3 rfl ((hM5.2.cell _).trans (ints_get0 hdl')) ?_
      refine Flow.lssD (c := false) rfl rfl (decide_eq_false (by omega)) ?_
      refine Flow.move (v := .bool _) rfl ?_
      refine Flow.on rfl rfl ?_
      refine Flow.move (v := .pointer _) rfl ?_
      refine Flow.on rfl rfl ?_
      refine Flow.move (v := .pointer _) rfl ?_
      refine Flow.on rfl rfl ?_
      refine Flow.nilCheck rfl ?_
      refine Flow.on rfl rfl ?_
      refine Flow.fieldAddr Tf.fo_169_1 rfl ?_
      refine Flow.on rfl rfl ?_
      refine Flow.load1 Tf.ty_22 rfl (hB5.blk.cell 3) ?_
      refine Flow.on rfl rfl ?_
      refine Flow.move (v := .int _ _) rfl ?_
      refine Flow.on rfl rfl ?_
      refine Flow.indexAddr1 Tf.sl_22 rfl rfl (by omega) (by omega) ?_
      refine Flow.on rfl rfl ?_
      refine Flow.load1 Tf.ty_3 rfl ((hM5.2.cell _).trans (ints_get0 hdl')) ?_
      refine Flow.on rfl rfl ?_
      refine Flow.call2 Tf.hb_132 (v1 := .pointer _) rfl (v2 := .int _ _) rfl ?_
      refine Ret.mono (place_ok t hs ac _ cc cf sb hg tb f _ has' ((d : Int) :: tr') w5 hget hI5 (by simp; omega) hB5 hM5) ?_
      rintro _ w6 ⟨rfl, hM6, c6⟩
      refine Flow.pickF rfl rfl ?_
      refine hK _ _ _ ?_
      clear hK K
      obtain ⟨g1, g2⟩ := give_inv (adj := adjT t) (fun _ h => adjT_rg hs rfl h) f (has'.getD ((d : Int)).toNat (-1)) has' ((d : Int) :: tr') hget hI5
      simp only [List.length_cons] at g2
      have cc6 : Chg [tb, hg] w w6 := cc5.trans c6 (fun _ _ h => h)
      have hB6 := hB5.chg c6 (fun b hb _ => by simpa using hb)
      refine W.cond rfl (fun hg' => ?_) (fun hg' => W.skip ?_)
      · rw [if_pos hg'] at h1
        refine W.seq fun K hK => ?_
        refine W.region (by rfl) ?_
        refine Flow.move (v := .pointer _) rfl ?_
        refine Flow.nilCheck rfl ?_
        refine Flow.fieldAddr Tf.fo_169_1 rfl ?_
        refine Flow.load1 Tf.ty_22 rfl (hB6.blk.cell 3) ?_
        refine Flow.move (v := .int _ _) rfl ?_
        refine Flow.move (v := .int _ _) rfl ?_
        refine Flow.indexAddr1 Tf.sl_22 rfl rfl (by omega) (by omega) ?_
        refine Flow.store1 Tf.ty_3 rfl (v := .int _ _) rfl (hM6.2) (by rw [Nat.zero_add, ints, List.length_map, g1.len]; omega) rfl fun w7 c7 s7 b7 => ?_
        refine hK _ _ _ ?_
        clear hK K
        rw [Nat.zero_add, ints_set] at b7
        refine W.seq fun K hK => ?_
        refine W.region (by rfl) ?_
        refine Flow.assignC ?_
        refine hK _ _ _ ?_
        clear hK K
        refine W.ret ⟨_, res1 rfl (v := .bool _) rfl, by rw [h1], ?_, cc6.trans (c7.mono (T := [tb, hg]) (fun b _ h => by simp at h; simp [h])) (fun _ _ h => h)⟩
        rw [h1]
        exact ⟨hM6.1.chg c7 (by simp; omega), b7⟩
      · rw [if_neg (by rw [hg']; simp)] at h1
        exact hnext _ _ _ _ ⟨rfl, rfl, rfl, trivial⟩ cc6 h1 g1 (by omega) hM6

end Go.Proofs.YtkoejelglinmnaaGreat

/-
  Contract of the reference: best.
-/
namespace Go.Proofs.YtkoejelglinmnaaGreat
open Sg Mm
set_option maxRecDepth 100000

theorem rcells_part {w : World} {b o : Nat} {l : List Int} (h : ∀ i (h : i < l.length), w.cell? ⟨b, o + i, none⟩ = some (.int .i64 l[i])) (lo n : Nat) : Cells w b (o + lo) (ints ((l.drop lo).take n)) :=
  Cells.ofGet fun j v hj => by
    have hl : j < ((l.drop lo).take n).length := by
      have := (List.getElem?_eq_some_iff.1 hj).1
      simpa [ints] using this
    have hl2 : lo + j < l.length := by
      rw [List.length_take, List.length_drop] at hl; omega
    have hv : v = .int .i64 l[lo + j] := by
      have : (ints ((l.drop lo).take n))[j]? = some (.int .i64 l[lo + j]) := by
        rw [ints, List.getElem?_map, List.getElem?_eq_getElem hl, List.getElem_take, List.getElem_drop]; rfl
      rw [this] at hj
      exact (Option.some.inj hj).symm
    subst hv
    rw [Nat.add_assoc]
    exact h (lo + j) hl2

theorem rown_empty {w : World} {g : Nat} (h : Blk w g [] 3) : Own w 3 1 (some ⟨g, 0, none⟩) 0 0 [] := ⟨rfl, .inr ⟨g, [], rfl, h, Nat.le_refl _, by decide, rfl, rfl⟩⟩

theorem own_cap {w : World} {T : TypeId} {a : Option Addr} {len cap : Nat} {xs : List Value} (h : Own w T 1 a len cap xs) : len ≤ cap := by
  rcases h.2 with ⟨_, h1, h2⟩ | ⟨g, cs, _, _, h, _⟩
  · omega
  · exact h

theorem own_in {s : Nat} {w : World} {a a' : Option Addr} (h : ∀ b ∈ ownB a, s ≤ b) (hs : s ≤ w.heap.size) (hd : a' = a ∨ ∃ g, a' = some ⟨g, 0, none⟩ ∧ w.heap.size ≤ g) : ∀ b ∈ ownB a', s ≤ b := by
  rcases hd with rfl | ⟨g, rfl, hg⟩
  · exact h
  · intro b hb; simp [ownB] at hb; omega

theorem set_minus {n d : Nat} (h : d < n) : (List.replicate d (-1 : Int) ++ List.replicate (n - d) 0).set d (-1) = List.replicate (d + 1) (-1) ++ List.replicate (n - (d + 1)) 0 := by
  refine List.ext_getElem (by simp; omega) fun j h1 h2 => ?_
  rw [List.getElem_set]
  simp only [List.getElem_append, List.length_replicate, List.getElem_replicate]
  split
  · next e => subst e; simp
  · split <;> split <;> first | rfl | omega

set_option maxHeartbeats 4000000 in
theorem rbest_ok (w : World) (t : Tour) (ac af : Option Addr) (cc cf : Nat) (hv : Valid t) (hC : IL w ac t.closed) (hF : FL w af t.flaws) :
    Ret Tryz.prog 72 #[.agg #[.int .i64 t.days, .slice ac t.closed.length cc, .slice af t.flaws.length cf]] w fun v w' => v = .int .i64 (meritS t) ∧ Chg [] w w' := by
  have hs := hv.small
  have hfn := hv.fn
  refine Ret.of_W (n := 105) Tryz.func72 rfl rfl (Nat.le_of_ble_eq_true rfl) ?_
  refine W.seq fun K hK => ?_
  refine W.region (by rfl) ?_
  refine Flow.box rfl (cs := [_, _, _]) rfl fun w1 c1 s1 b1 => ?_
  refine Flow.assignC ?_
  refine hK _ _ _ ?_
  clear hK K
  refine W.seq fun K hK => ?_
  refine W.region (by rfl) ?_
  refine Flow.assignC ?_
  refine hK _ _ _ ?_
  clear hK K
  refine W.forget [(1, .pointer (some ⟨w.heap.size, 0, none⟩)), (3, .slice none 0 0)] ⟨rfl, rfl, trivial⟩ fun e => ?_
  refine W.seq fun K2 hK2 => ?_
  refine W.seq fun K hK => ?_
  refine W.region (by rfl) ?_
  refine Flow.assignC ?_
  refine hK _ _ _ ?_
  clear hK K
  refine W.block ?_
  refine W.loop (ι := Nat × Option Addr × Nat) (fun k ds e w' => ds = [] ∧ k.1 ≤ t.flaws.length ∧ AllAt e [(1, .pointer (some ⟨w.heap.size, 0, none⟩)), (3, .slice k.2.1 (ordK t k.1).length k.2.2), (4, .int .i64 k.1)] ∧ Chg [] w1 w' ∧ Mine w1.heap.size w' k.2.1 k.2.2 (ordK t k.1))
    (fun k => t.flaws.length - k.1) (i0 := (0, none, 0)) ⟨rfl, by omega, ⟨rfl, rfl, rfl, trivial⟩, Chg.refl _ _, Mine.nil _ _⟩ ?_
  rintro ⟨i, a, c⟩ ds e w2 ⟨rfl, hi, hE, hc, hm⟩
  obtain ⟨e, rfl⟩ : ∃ e0, e = putL e0 _ := ⟨e, putL_self hE⟩
  clear hE
  simp only at hi hm ⊢
  have c12 := c1.then hc
  have b12 := b1.chg hc (by simp)
  have hll := ordK_len t i
  refine W.seq fun K3 hK3 => ?_
  refine W.seq fun K hK => ?_
  refine W.region (by rfl) ?_
  refine Flow.move (v := .int _ _) rfl ?_
  refine Flow.fieldAddr Tf.fo_25_2 rfl ?_
  refine Flow.load1 Tf.ty_23 rfl (b12.cell 2) ?_
  refine Flow.len rfl Tf.us_23 rfl rfl ?_
  refine Flow.lss rfl rfl ?_
  refine hK _ _ _ ?_
  clear hK K
  refine W.cond rfl (fun h => W.skip (hK3 _ _ _ ?_)) (fun h => W.exit ?_)
  · have hlt : i < t.flaws.length := by simpa using h
    obtain ⟨bf, of_, rfl, hflaw⟩ := (hF.ext c12).get hlt
    refine W.seq fun K4 hK4 => ?_
    refine W.block ?_
    refine W.seq fun K hK => ?_
    refine W.region (by rfl) ?_
    refine Flow.move (v := .slice _ _ _) rfl ?_
    refine Flow.len rfl Tf.us_22 rfl rfl ?_
    refine Flow.assign (v := .int _ _) rfl ?_
    refine hK _ _ _ ?_
    clear hK K
    refine W.seq fun K5 hK5 => ?_
    refine W.block ?_
    refine W.loop (ι := Nat) (fun k ds e w' => ds = [] ∧ k ≤ (ordK t i).length ∧ AllAt e [(1, .pointer (some ⟨w.heap.size, 0, none⟩)), (3, .slice a (ordK t i).length c), (4, .int .i64 i), (5, .int .i64 k)] ∧ Chg [] w2 w' ∧ ∀ j (h : j < (ordK t i).length), k ≤ j → lessW t i (ordK t i)[j] = true)
      (fun k => k) (i0 := (ordK t i).length) ⟨rfl, Nat.le_refl _, ⟨rfl, rfl, rfl, rfl, trivial⟩, Chg.refl _ _, fun j h hj => by omega⟩ ?_
    rintro k ds e w3 ⟨rfl, hk, hE, hc3, hbef⟩
    obtain ⟨e, rfl⟩ : ∃ e0, e = putL e0 _ := ⟨e, putL_self hE⟩
    clear hE
    have c13 := c12.then hc3
    have b13 := b12.chg hc3 (by simp)
    have hm3 := hm.ext hc3
    have hfl3 := fun (j : Nat) (h : j < t.flaws.length) => Cells.chg hc3 (by simp) (hflaw j h)
    refine W.seq fun K6 hK6 => ?_
    have hout : ∀ (e : Env) (w' : World), AllAt e [(1, .pointer (some ⟨w.heap.size, 0, none⟩)), (3, .slice a (ordK t i).length c), (4, .int .i64 i), (5, .int .i64 k)] → Chg [] w2 w' → putAt (lessW t) i (ordK t i) = k → K5 [] e w' := by
      intro e w4 hE hc4 hput
      refine hK5 _ _ _ ?_
      obtain ⟨e, rfl⟩ : ∃ e0, e = putL e0 _ := ⟨e, putL_self hE⟩
      clear hE
      have hm4 := hm.ext hc4
      have hcap := own_cap hm4.1
      have hs4 := hc4.size
      have hsz2 := hc.size
      obtain ⟨l, hl⟩ : ∃ l, l = ordK t i := ⟨_, rfl⟩
      have hnew : ordK t (i + 1) = l.take k ++ (i : Int) :: l.drop k := by rw [ordK_succ, putIn, hput, hl]
      rw [← hl] at hll hm4 hk hcap ⊢
      have hend : ∀ (e : Env) (w5 : World) (a5 : Option Addr) (c5 : Nat), AllAt e [(1, .pointer (some ⟨w.heap.size, 0, none⟩)), (3, .slice a5 (i + 1) c5), (4, .int .i64 i)] → Chg [] w2 w5 → Mine w1.heap.size w5 a5 c5 (ordK t (i + 1)) → K4 [] e w5 := by
        intro e w5 a5 c5 hE hc5 hM
        refine hK4 _ _ _ ?_
        obtain ⟨e, rfl⟩ : ∃ e0, e = putL e0 _ := ⟨e, putL_self hE⟩
        clear hE
        refine W.region (by rfl) ?_
        refine Flow.move (v := .int _ _) rfl ?_
        refine Flow.add rfl rfl (by omega) (by omega) ?_
        refine Flow.assign (v := .int _ _) rfl ?_
        exact Flow.nil ⟨(i + 1, a5, c5), by simp only; omega, rfl, by simp only; omega, ⟨rfl, by rw [ordK_len]; rfl, rfl, trivial⟩, hc.then hc5, hM⟩
      have hln : (l.take k).length = k := by rw [List.length_take]; omega
      rcases hm4.1.2 with ⟨ha, hl0, hc0⟩ | ⟨g, cs, ha, hgb, _⟩
      · have hk0 : k = 0 := by omega
        subst hk0
        have hlnil : l = [] := List.eq_nil_of_length_eq_zero hl0
        have hi0 : i = 0 := by omega
        rw [ha, hc0, hl0]
        refine W.seq fun K hK => ?_
        refine W.region (by rfl) ?_
        refine Flow.buildSlice0 Tf.sl_22 Tf.us_22 fun w5 c5 s5 b5 => ?_
        refine Flow.move (v := .slice _ _ _) rfl ?_
        refine Flow.move (v := .int _ _) rfl ?_
        refine Flow.sliceTo (h := 0) (cap := 0) Tf.sl_22 rfl rfl (by omega) ?_
        refine Flow.append0 Tf.sl_22 Tf.us_22 rfl rfl (Nat.le_refl _) ?_
        refine Flow.assign (v := .slice _ _ _) rfl ?_
        refine hK _ _ _ ?_
        clear hK K
        refine W.seq fun K hK => ?_
        refine W.region (by rfl) ?_
        refine Flow.move (v := .slice _ _ _) rfl ?_
        refine Flow.move (v := .int _ _) rfl ?_
        refine Flow.buildSlice1 Tf.sl_22 Tf.us_22 rfl (by decide) (by decide) rfl (cs := [_]) rfl rfl fun w6 c6 s6 b6 => ?_
        refine Flow.append Tf.sl_22 Tf.us_22 rfl (by decide) rfl rfl (rown_empty (b5.chg c6 (by simp))) (b6.cells0) rfl rfl (by omega) (by omega) fun a7 cap7 w7 o7 c7 hd7 hn7 => ?_
        refine Flow.assign (v := .slice _ _ _) rfl ?_
        refine hK _ _ _ ?_
        clear hK K
        have hs5 := c5.size
        have hs6 := c6.size
        have c47 : Chg [] w4 w7 := (c5.then c6).step c7 (fun b hb => by simp [ownB] at hb; omega)
        have hb7 : ∀ b ∈ ownB a7, w4.heap.size ≤ b := own_in (s := w4.heap.size) (fun b hb => by simp [ownB] at hb; omega) (by omega) hd7
        have hM7 : Mine w1.heap.size w7 a7 cap7 (ordK t (i + 1)) := ⟨by rw [hnew, hlnil]; exact o7, fun b hb => by have := hb7 b hb; omega⟩
        refine W.region (by rfl) ?_
        refine Flow.move (v := .slice _ _ _) rfl ?_
        refine Flow.move (v := .slice _ _ _) rfl ?_
        refine Flow.move (v := .int _ _) rfl ?_
        refine Flow.sliceFromG (l := 0) (len := 0) (cap := 0) Tf.sl_22 rfl rfl (by omega) (by omega) fun a' => ?_
        refine Flow.append0 Tf.sl_22 Tf.us_22 rfl rfl (own_cap o7) ?_
        refine Flow.assign (v := .slice _ _ _) rfl ?_
        exact Flow.nil (hend _ w7 a7 cap7 ⟨rfl, by rw [hi0]; rfl, rfl, trivial⟩ (hc4.then c47) hM7)
      · have hcI : ∀ j (h : j < l.length), w4.cell? ⟨g, 0 + j, none⟩ = some (.int .i64 l[j]) := by
          intro j h
          obtain ⟨b, o, he, hcell⟩ := hm4.il.get h
          rw [ha] at he
          obtain ⟨rfl, rfl⟩ : g = b ∧ 0 = o := by simpa using he
          exact hcell j h
        have hl1 : (ints ((l.drop 0).take k)).length = k * 1 := by rw [ints, List.length_map, List.length_take, List.length_drop]; omega
        have hl2 : (ints ((l.drop k).take l.length)).length = (l.length - k) * 1 := by rw [ints, List.length_map, List.length_take, List.length_drop]; omega
        have hcell2 : ∀ o', (k < c → o' = 0 + k * 1) → ∀ w', Chg [] w4 w' → Cells w' g o' (ints ((l.drop k).take l.length)) := by
          intro o' ho' w' hc'
          by_cases hkc : k < c
          · rw [ho' hkc, Nat.mul_one]
            exact rcells_part (fun j hj => cell_chg (hcI j hj) hc' (by simp)) k _
          · have : (l.drop k).take l.length = [] := by rw [List.drop_eq_nil_of_le (by omega)]; simp
            rw [this]; trivial
        rw [ha]
        have hAll := ints_all
        refine W.seq fun K hK => ?_
        refine W.region (by rfl) ?_
        refine Flow.buildSlice0 Tf.sl_22 Tf.us_22 fun w5 c5 s5 b5 => ?_
        refine Flow.move (v := .slice _ _ _) rfl ?_
        refine Flow.move (v := .int _ _) rfl ?_
        refine Flow.sliceTo (h := k) (cap := c) Tf.sl_22 rfl rfl (by omega) ?_
        refine Flow.append (m := k) (bx := g) (ox := 0 + 0) Tf.sl_22 Tf.us_22 rfl (by decide) rfl rfl (rown_empty b5) (rcells_part (fun j hj => cell_chg (hcI j hj) c5 (by simp)) 0 k) hl1 (hAll _) (by omega) (by omega) fun a6 cap6 w6 o6 c6 hd6 hn6 => ?_
        refine Flow.assign (v := .slice _ _ _) rfl ?_
        refine hK _ _ _ ?_
        clear hK K
        have hs5 := c5.size
        have c46 : Chg [] w4 w6 := c5.step c6 (fun b hb => by simp [ownB] at hb; omega)
        have hb6 : ∀ b ∈ ownB a6, w4.heap.size ≤ b := own_in (s := w4.heap.size) (fun b hb => by simp [ownB] at hb; omega) (by omega) hd6
        have hs6 := c46.size
        refine W.seq fun K hK => ?_
        refine W.region (by rfl) ?_
        refine Flow.move (v := .slice _ _ _) rfl ?_
        refine Flow.move (v := .int _ _) rfl ?_
        refine Flow.buildSlice1 Tf.sl_22 Tf.us_22 rfl (by decide) (by decide) rfl (cs := [_]) rfl rfl fun w7 c7 s7 b7 => ?_
        refine Flow.append Tf.sl_22 Tf.us_22 rfl (by decide) rfl rfl (o6.ext c7) (b7.cells0) rfl rfl (by omega) (by omega) fun a8 cap8 w8 o8 c8 hd8 hn8 => ?_
        refine Flow.assign (v := .slice _ _ _) rfl ?_
        refine hK _ _ _ ?_
        clear hK K
        have hs7 := c7.size
        have c48 : Chg [] w4 w8 := (c46.then c7).step c8 hb6
        have hb8 : ∀ b ∈ ownB a8, w4.heap.size ≤ b := own_in hb6 (by omega) hd8
        have hs8 := c48.size
        refine W.region (by rfl) ?_
        refine Flow.move (v := .slice _ _ _) rfl ?_
        refine Flow.move (v := .slice _ _ _) rfl ?_
        refine Flow.move (v := .int _ _) rfl ?_
        refine Flow.sliceFrom (l := k) (cap := c) (len := l.length) Tf.sl_22 rfl rfl (by omega) hcap fun o' ho' => ?_
        refine Flow.append (m := l.length - k) (bx := g) (ox := o') Tf.sl_22 Tf.us_22 rfl (by decide) rfl rfl o8 (hcell2 o' ho' _ c48) hl2 (hAll _) (by omega) (by omega) fun a9 cap9 w9 o9 c9 hd9 hn9 => ?_
        refine Flow.assign (v := .slice _ _ _) rfl ?_
        have hb9 : ∀ b ∈ ownB a9, w4.heap.size ≤ b := own_in hb8 (by omega) hd9
        have hn9 : 0 + k + 1 + (l.length - k) = i + 1 := by omega
        have hM9 : Mine w1.heap.size w9 a9 cap9 (ordK t (i + 1)) := ⟨by
            have e1 : (ordK t (i + 1)).length = 0 + k + 1 + (l.length - k) := by rw [ordK_len]; omega
            have e2 : ints (ordK t (i + 1)) = [] ++ ints ((l.drop 0).take k) ++ [.int .i64 (i : Int)] ++ ints ((l.drop k).take l.length) := by
              rw [hnew, List.drop_zero, List.take_of_length_le (l := l.drop k) (by rw [List.length_drop]; omega)]
              simp [ints]
            rw [e1, e2]; exact o9, fun b hb => by have := hb9 b hb; omega⟩
        exact Flow.nil (hend _ w9 a9 cap9 ⟨rfl, by rw [← hn9]; rfl, rfl, trivial⟩ (hc4.then (c48.step c9 hb8)) hM9)
    by_cases hk0 : k = 0
    · refine W.seq fun K hK => ?_
      refine W.regionD [] [] (by kernel_rfl) (by kernel_rfl) fun w4 c4 hh4 => ?_
      refine FD.val (fun _ hw => Rn.move (v := .int _ _) rfl) ?_
      refine FD.val (fun _ hw => Rn.gtrD (c := false) rfl rfl (decide_eq_false (by omega))) ?_
      refine FD.val (fun _ hw => Rn.move (v := .bool _) rfl) ?_
      refine FD.off (c := false) rfl rfl rfl ?_
      refine FD.off (c := false) rfl rfl rfl ?_
      refine FD.off (c := false) rfl rfl rfl ?_
      refine FD.off (c := false) rfl rfl rfl ?_
      refine FD.off (c := false) rfl rfl rfl ?_
      refine FD.off (c := false) rfl rfl rfl ?_
      refine FD.off (c := false) rfl rfl rfl ?_
      refine FD.off (c := false) rfl rfl rfl ?_
      refine FD.off (c := false) rfl rfl rfl ?_
      refine FD.off (c := false) rfl rfl rfl ?_
      refine FD.off (c := false) rfl rfl rfl ?_
      refine FD.off (c := false) rfl rfl rfl ?_
      refine FD.off (c := false) rfl rfl rfl ?_
      refine FD.off (c := false) rfl rfl rfl ?_
      refine FD.off (c := false) rfl rfl rfl ?_
      refine FD.off (c := false) rfl rfl rfl ?_
      refine FD.off (c := false) rfl rfl rfl ?_
      refine FD.val (fun _ hw => Rn.pickF rfl rfl) ?_
      refine FD.nil ?_
      refine hK _ _ _ ?_
      clear hK K
      refine W.cond (t := false) rfl (fun h => by simp at h) (fun _ => W.exit (hout _ _ ⟨rfl, rfl, rfl, rfl, trivial⟩ (hc3.then c4) (putAt_at hk hbef (fun h => by omega))))
    · have hkl : k - 1 < (ordK t i).length := by omega
      obtain ⟨x, hx⟩ : ∃ x, x = (ordK t i)[k - 1] := ⟨_, rfl⟩
      have hxm := ordK_mem.1 (hx ▸ List.getElem_mem hkl : x ∈ ordK t i)
      obtain ⟨bo, oo, rfl, hcO⟩ := hm3.il.get hkl
      have hcO1 := hcO (k - 1) hkl
      rw [← hx] at hcO1
      have hkk : ((k : Int) - 1).toNat = k - 1 := by omega
      have hxl : x.toNat < t.flaws.length := by omega
      refine W.seq fun K hK => ?_
      refine W.regionD [] [] (by kernel_rfl) (by kernel_rfl) fun w4 c4 hh4 => ?_
      refine FD.val (fun _ hw => Rn.move (v := .int _ _) rfl) ?_
      refine FD.val (fun _ hw => Rn.gtrD (c := true) rfl rfl (decide_eq_true (by omega))) ?_
      refine FD.val (fun _ hw => Rn.move (v := .bool _) rfl) ?_
      refine FD.on rfl rfl ?_
      refine FD.val (fun _ hw => Rn.fieldAddr Tf.fo_25_2 rfl) ?_
      refine FD.on rfl rfl ?_
      refine FD.val (fun _ hw => Rn.load1 Tf.ty_23 rfl ((b13.chg c4 (by simp)).cell 2) (hw rfl rfl)) ?_
      refine FD.on rfl rfl ?_
      refine FD.val (fun _ hw => Rn.move (v := .slice _ _ _) rfl) ?_
      refine FD.on rfl rfl ?_
      refine FD.val (fun _ hw => Rn.move (v := .int _ _) rfl) ?_
      refine FD.on rfl rfl ?_
      refine FD.val (fun _ hw => Rn.sub rfl rfl (by omega) (by omega)) ?_
      refine FD.on rfl rfl ?_
      refine FD.val (fun _ hw => Rn.indexAddr1 Tf.sl_22 rfl rfl (by omega) (by omega)) ?_
      refine FD.on rfl rfl ?_
      refine FD.val (fun _ hw => Rn.load1 Tf.ty_3 rfl (by rw [hkk]; exact cell_chg hcO1 c4 (by simp)) (hw rfl rfl)) ?_
      refine FD.on rfl rfl ?_
      refine FD.val (fun _ hw => Rn.indexAddr Tf.sl_23 rfl rfl (by omega) (by omega)) ?_
      refine FD.on rfl rfl ?_
      refine FD.val (fun _ hw => Rn.fieldAddr Tf.fo_81_2 rfl) ?_
      refine FD.on rfl rfl ?_
      refine FD.val (fun _ hw => Rn.load1 Tf.ty_3 rfl ((Cells.chg c4 (by simp) (hfl3 x.toNat hxl)).2.2.2.1) (hw rfl rfl)) ?_
      refine FD.on rfl rfl ?_
      refine FD.val (fun _ hw => Rn.fieldAddr Tf.fo_25_2 rfl) ?_
      refine FD.on rfl rfl ?_
      refine FD.val (fun _ hw => Rn.load1 Tf.ty_23 rfl ((b13.chg c4 (by simp)).cell 2) (hw rfl rfl)) ?_
      refine FD.on rfl rfl ?_
      refine FD.val (fun _ hw => Rn.move (v := .int _ _) rfl) ?_
      refine FD.on rfl rfl ?_
      refine FD.val (fun _ hw => Rn.indexAddr Tf.sl_23 rfl rfl (by omega) (by omega)) ?_
      refine FD.on rfl rfl ?_
      refine FD.val (fun _ hw => Rn.fieldAddr Tf.fo_81_2 rfl) ?_
      refine FD.on rfl rfl ?_
      refine FD.val (fun _ hw => Rn.load1 Tf.ty_3 rfl ((Cells.chg c4 (by simp) (hfl3 i hlt)).2.2.2.1) (hw rfl rfl)) ?_
      refine FD.on rfl rfl ?_
      refine FD.val (fun _ hw => Rn.lssD rfl rfl rfl) ?_
      refine FD.val (fun _ hw => Rn.pickT rfl rfl) ?_
      refine FD.nil ?_
      refine hK _ _ _ ?_
      clear hK K
      have hless : lessW t i x = decide (t.flaws[x.toNat].merit < t.flaws[i].merit) := by
        rw [lessW, flawAt_nat hlt, flawAt_get hxl]
      refine W.cond rfl (fun h => W.skip (hK6 _ _ _ ?_)) (fun h => W.exit (hout _ _ ⟨rfl, rfl, rfl, rfl, trivial⟩ (hc3.then c4) (putAt_at hk hbef (fun _ => by rw [← hx, hless]; exact h))))
      refine W.block ?_
      refine W.region (by rfl) ?_
      refine Flow.move (v := .int _ _) rfl ?_
      refine Flow.sub rfl rfl (by omega) (by omega) ?_
      refine Flow.assign (v := .int _ _) rfl ?_
      refine Flow.nil ⟨k - 1, by omega, rfl, by omega, ⟨rfl, rfl, rfl, by rw [Int.ofNat_sub (by omega : 1 ≤ k)]; rfl, trivial⟩, hc3.then c4, fun j hj hjk => ?_⟩
      by_cases e : j = k - 1
      · subst e; rw [← hx, hless]; exact h
      · exact hbef j hj (by omega)
  have hge : i = t.flaws.length := by simp at h; omega
  subst hge
  refine hK2 _ _ _ ?_
  have hO : ordK t t.flaws.length = orderS (lessW t) t.flaws.length := rfl
  obtain ⟨o, ho⟩ : ∃ o, o = ordK t t.flaws.length := ⟨_, rfl⟩
  rw [← ho] at hm hll hO ⊢
  clear hK2 K2 hK3 K3 h
  have htd : t.days = (t.days.toNat : Int) := (Int.toNat_of_nonneg hs.dl).symm
  have hdh := hv.d2
  have hmr := rFold_merit hv
  have hrb := rFold_best hv
  rw [← hO] at hmr hrb
  have hom : ∀ x ∈ o, 0 ≤ x ∧ x < t.flaws.length := fun x hx => order_mem.1 (hO ▸ hx)
  obtain ⟨n, hn⟩ : ∃ n, n = t.days.toNat := ⟨_, rfl⟩
  rw [← hn] at htd
  have hn60 : n ≤ 60 := by omega
  refine W.forget [(1, .pointer (some ⟨w.heap.size, 0, none⟩)), (3, .slice a o.length c)] ⟨rfl, rfl, trivial⟩ fun e => ?_
  refine W.seq fun K hK => ?_
  refine W.regionD [3, 5] [] (by kernel_rfl) (by kernel_rfl) fun w3 c3 hh3 => ?_
  refine FD.val (fun _ hw => Rn.loadA Tf.ty_25 rfl rfl ((b12.chg c3 (by simp)).cells0) (hw rfl rfl)) ?_
  refine FD.val (fun _ hw => Rn.fieldAddr Tf.fo_25_0 rfl) ?_
  refine FD.val (fun _ hw => Rn.load1 Tf.ty_3 rfl ((b12.chg c3 (by simp)).cell 0) (hw rfl rfl)) ?_
  refine FD.eff (by rfl) (Chg.refl _ _) ?_
  refine Flow.makeSlice (l := n) Tf.sl_22 Tf.us_22 (c0 := .int .i64 0) rfl (by decide) (congrArg (Value.int .i64) htd) (congrArg (Value.int .i64) htd) (by omega) (by omega) fun w4 c4 s4 b4 => ?_
  refine Flow.nil ⟨c4, ?_⟩
  refine FD.val (fun _ hw => Rn.buildL Tf.ty_169 Tf.pl_169 (l := [(_, _), (_, _)]) (zs := [_, _, _, _, _]) (cs := [_, _, _, _, _]) rfl rfl rfl) ?_
  refine FD.eff (by rfl) (c4) ?_
  refine Flow.box rfl (cs := [_, _, _, _, _]) rfl fun w5 c5 s5 b5 => ?_
  refine Flow.nil ⟨c5, ?_⟩
  refine FD.val (fun _ hw => Rn.assign (v := .pointer _) rfl) ?_
  refine FD.nil ?_
  refine hK _ _ _ ?_
  clear hK K
  have hs3 := c3.size
  have hl12 := b12.lt
  have c25 : Chg [] w2 w5 := c3.then (c4.then c5)
  have b15 := b12.chg c25 (by simp)
  have b5 : Blk w5 w4.heap.size [.int .i64 t.days, .slice ac t.closed.length cc, .slice af t.flaws.length cf, .slice (some ⟨w3.heap.size, 0, none⟩) n n, .slice none 0 0] 169 := b5
  have b45 := b4.chg c5 (by simp)
  have e0 : ints (List.replicate 0 (-1) ++ List.replicate (n - 0) 0) = List.replicate (n * 1) (.int .i64 0) := by simp [ints]
  rw [← e0] at b45
  refine W.forget [(1, .pointer (some ⟨w.heap.size, 0, none⟩)), (3, .slice a o.length c), (7, .pointer (some ⟨w4.heap.size, 0, none⟩))] ⟨rfl, rfl, rfl, trivial⟩ fun e => ?_
  refine W.seq fun K12 hK12 => ?_
  refine W.seq fun K hK => ?_
  refine W.region (by rfl) ?_
  refine Flow.assignC ?_
  refine hK _ _ _ ?_
  clear hK K
  refine W.block ?_
  refine W.loop (ι := Nat) (fun d ds e w' => ds = [] ∧ d ≤ n ∧ AllAt e [(1, .pointer (some ⟨w.heap.size, 0, none⟩)), (3, .slice a o.length c), (7, .pointer (some ⟨w4.heap.size, 0, none⟩)), (8, .int .i64 d)] ∧ Chg [w3.heap.size] w5 w' ∧ Blk w' w3.heap.size (ints (List.replicate d (-1) ++ List.replicate (n - d) 0)) 3)
    (fun d => n - d) (i0 := 0) ⟨rfl, by omega, ⟨rfl, rfl, rfl, rfl, trivial⟩, Chg.refl _ _, b45⟩ ?_
  rintro d ds e w6 ⟨rfl, hd, hE, hc6, hby⟩
  obtain ⟨e, rfl⟩ : ∃ e0, e = putL e0 _ := ⟨e, putL_self hE⟩
  clear hE
  have b16 := b15.chg hc6 (by simp; omega)
  have b56 := b5.chg hc6 (by simp; omega)
  refine W.seq fun K13 hK13 => ?_
  refine W.seq fun K hK => ?_
  refine W.region (by rfl) ?_
  refine Flow.move (v := .int _ _) rfl ?_
  refine Flow.fieldAddr Tf.fo_25_0 rfl ?_
  refine Flow.load1 Tf.ty_3 rfl (b16.cell 0) ?_
  refine Flow.lss rfl rfl ?_
  refine hK _ _ _ ?_
  clear hK K
  refine W.cond rfl (fun h => W.skip (hK13 _ _ _ ?_)) (fun h => W.exit ?_)
  · have hlt : d < n := by simp at h; omega
    refine W.seq fun K14 hK14 => ?_
    refine W.block ?_
    refine W.region (by rfl) ?_
    refine Flow.move (v := .pointer _) rfl ?_
    refine Flow.nilCheck rfl ?_
    refine Flow.fieldAddr Tf.fo_169_1 rfl ?_
    refine Flow.load1 Tf.ty_22 rfl (b56.cell 3) ?_
    refine Flow.move (v := .int _ _) rfl ?_
    refine Flow.indexAddr1 Tf.sl_22 rfl rfl (by omega) (by omega) ?_
    refine Flow.store1 Tf.ty_3 rfl (v := .int _ _) rfl (hby) (by simp [ints]; omega) rfl fun w7 c7 s7 b7 => ?_
    rw [Nat.zero_add, ints_set, Int.toNat_natCast, set_minus hlt] at b7
    refine Flow.nil (hK14 _ _ _ ?_)
    refine W.region (by rfl) ?_
    refine Flow.move (v := .int _ _) rfl ?_
    refine Flow.add rfl rfl (by omega) (by omega) ?_
    refine Flow.assign (v := .int _ _) rfl ?_
    exact Flow.nil ⟨d + 1, by omega, rfl, by omega, ⟨rfl, rfl, rfl, rfl, trivial⟩, hc6.trans c7 (fun _ _ h => h), b7⟩
  have hdn : d = n := by simp at h; omega
  subst hdn
  refine hK12 _ _ _ ?_
  rw [Nat.sub_self, List.replicate_zero, List.append_nil] at hby
  have hby : Blk w6 w3.heap.size (ints (rFold t (o.take 0)).1) 3 := by rw [List.take_zero]; show Blk w6 w3.heap.size (ints (List.replicate t.days.toNat (-1))) _; rw [← hn]; exact hby
  refine W.forget [(1, .pointer (some ⟨w.heap.size, 0, none⟩)), (3, .slice a o.length c), (7, .pointer (some ⟨w4.heap.size, 0, none⟩))] ⟨rfl, rfl, rfl, trivial⟩ fun e => ?_
  clear h hK12 K12 hK13 K13 b45 b16 e0
  refine W.seq fun K hK => ?_
  refine W.region (by rfl) ?_
  refine Flow.assignC ?_
  refine hK _ _ _ ?_
  clear hK K
  refine W.seq fun K17 hK17 => ?_
  refine W.seq fun K hK => ?_
  refine W.region (by rfl) ?_
  refine Flow.assignC ?_
  refine hK _ _ _ ?_
  clear hK K
  refine W.block ?_
  refine W.loop (ι := Nat) (fun k ds e w' => ds = [] ∧ k ≤ o.length ∧ AllAt e [(1, .pointer (some ⟨w.heap.size, 0, none⟩)), (3, .slice a o.length c), (7, .pointer (some ⟨w4.heap.size, 0, none⟩)), (9, .int .i64 (rFold t (o.take k)).2), (10, .int .i64 k)] ∧ Chg [w3.heap.size, w4.heap.size] w5 w' ∧
      (∃ v, Blk w' w4.heap.size [.int .i64 t.days, .slice ac t.closed.length cc, .slice af t.flaws.length cf, .slice (some ⟨w3.heap.size, 0, none⟩) d d, v] 169) ∧ Blk w' w3.heap.size (ints (rFold t (o.take k)).1) 3 ∧ 0 ≤ (rFold t (o.take k)).2 ∧ (rFold t (o.take k)).2 ≤ 1000 * k)
    (fun k => o.length - k) (i0 := 0) ⟨rfl, by omega, ⟨rfl, rfl, rfl, rfl, rfl, trivial⟩, hc6.mono (fun b _ h => by simp at h; simp [h]), ⟨_, b56⟩, hby, by simp [rFold], by simp [rFold]⟩ ?_
  clear hby b56 hc6
  rintro k ds e w6 ⟨rfl, hk, hE, hc6, ⟨v, hsb⟩, hby, hn0, hn1⟩
  obtain ⟨e, rfl⟩ : ∃ e0, e = putL e0 _ := ⟨e, putL_self hE⟩
  clear hE
  have b16 := b15.chg hc6 (by simp; omega)
  refine W.seq fun K18 hK18 => ?_
  refine W.seq fun K hK => ?_
  refine W.region (by rfl) ?_
  refine Flow.move (v := .int _ _) rfl ?_
  refine Flow.move (v := .slice _ _ _) rfl ?_
  refine Flow.len rfl Tf.us_22 rfl rfl ?_
  refine Flow.lss rfl rfl ?_
  refine hK _ _ _ ?_
  clear hK K
  refine W.cond rfl (fun h => W.skip (hK18 _ _ _ ?_)) (fun h => W.exit ?_)
  case refine_2 =>
    have hko : k = o.length := by simp at h; omega
    subst hko
    rw [List.take_length, hmr]
    refine hK17 _ _ _ ?_
    refine W.seq fun K hK => ?_
    refine W.region (by rfl) ?_
    refine Flow.move (v := .int _ _) rfl ?_
    refine Flow.assign (v := .int _ _) rfl ?_
    refine hK _ _ _ ?_
    clear hK K
    exact W.ret ⟨_, res1 rfl (v := .int _ _) rfl, rfl, (c12.then c25).step hc6 (fun b hb => by simp at hb; have := c12.size; omega)⟩
  have hlt : k < o.length := by simpa using h
  obtain ⟨g, e1, e2⟩ := hrb k (by omega)
  have hi := hom _ (List.getElem_mem hlt)
  have hsn : o.take (k + 1) = o.take k ++ [o[k]] := by rw [List.take_add_one, List.getElem?_eq_getElem hlt]; rfl
  have hrs : rFold t (o.take (k + 1)) = rStep t (rFold t (o.take k)) o[k] := by rw [hsn, rFold_snoc]
  obtain ⟨x, hx⟩ : ∃ x, x = o[k] := ⟨_, rfl⟩
  obtain ⟨S, hS⟩ : ∃ S, S = rFold t (o.take k) := ⟨_, rfl⟩
  rw [← hx] at hrs hi
  rw [← hS] at hrs g e1 e2 hby hn0 hn1 ⊢
  have hxl : x.toNat < t.flaws.length := by omega
  refine W.seq fun K19 hK19 => ?_
  refine W.block ?_
  refine W.seq fun K hK => ?_
  refine W.region (by rfl) ?_
  refine Flow.move (v := .pointer _) rfl ?_
  refine Flow.fieldAddr Tf.fo_25_0 rfl ?_
  refine Flow.load1 Tf.ty_3 rfl (b16.cell 0) ?_
  refine Flow.makeSlice (l := d) Tf.sl_151 Tf.us_151 (c0 := .bool false) rfl (by decide) (congrArg (Value.int .i64) htd) (congrArg (Value.int .i64) htd) (by omega) (by omega) fun w7 c7 s7 b7 => ?_
  refine Flow.nilCheck rfl ?_
  refine Flow.fieldAddr Tf.fo_169_2 rfl ?_
  refine Flow.store1 Tf.ty_151 rfl (v := .slice _ _ _) rfl (hsb.chg c7 (by simp)) (by simp) rfl fun w8 c8 s8 b8 => ?_
  refine hK _ _ _ ?_
  clear hK K
  have hl6 := hsb.lt
  have hl6' := hby.lt
  have hs12 := c12.size
  have b8' : Blk w8 w4.heap.size [.int .i64 t.days, .slice ac t.closed.length cc, .slice af t.flaws.length cf, .slice (some ⟨w3.heap.size, 0, none⟩) d d, .slice (some ⟨w6.heap.size, 0, none⟩) d d] 169 := b8
  have b78 : Blk w8 w6.heap.size (boolCells d fun i => decide ((i : Int) ∈ ([] : List Int))) 4 := by
    have := b7.chg c8 (by simp; omega)
    have e : (fun i : Nat => decide ((i : Int) ∈ ([] : List Int))) = fun _ => false := by funext i; simp
    rw [e, ← boolCells_none]
    simpa using this
  have c68 : Chg [w4.heap.size] w6 w8 := (c7.mono (by simp)).trans c8 (fun _ _ h => h)
  have hby8 := hby.chg c68 (by simp; omega)
  have c68' : Chg [w3.heap.size, w4.heap.size] w6 w8 := c68.mono (fun b _ h => by simp at h; simp [h])
  have c58 : Chg [w3.heap.size, w4.heap.size] w5 w8 := hc6.trans c68' (fun _ _ h => h)
  have c28 : Chg [w3.heap.size, w4.heap.size] w2 w8 := (c25.mono (by simp)).trans c58 (fun _ _ h => h)
  have cw8 : Chg [w3.heap.size, w4.heap.size] w w8 := (c12.mono (by simp)).trans c28 (fun _ _ h => h)
  have hs58 := c58.size
  have hs56 := hc6.size
  have hPB : PlaceB w8 t ac af cc cf w4.heap.size w3.heap.size w6.heap.size := ⟨by rw [← hn]; exact b8', hC.chg cw8 (hC.off (fun b hb => by simp at hb; omega)), hF.chg cw8 (hF.off (fun b hb => by simp at hb; omega)), by omega, by simp; omega, hC.off (fun b hb => by simp at hb; omega), hF.off (fun b hb => by simp at hb; omega)⟩
  have hPM : PlaceM w8 t.days.toNat w6.heap.size w3.heap.size S.1 [] := by rw [← hn]; exact ⟨b78, hby8⟩
  have hmI8 := hm.il.chg c28 (hm.il.off (fun b hb => by simp at hb; omega))
  have hmlt := hm.il.lt (fun h => by rw [h] at hlt; simp at hlt)
  obtain ⟨bo, oo, rfl, hcO⟩ := hmI8.get hlt
  have hbo : bo < w2.heap.size := hmlt _ rfl
  have hcOk := hcO k hlt
  rw [← hx] at hcOk
  refine W.seq fun K hK => ?_
  refine W.region (by rfl) ?_
  refine Flow.move (v := .pointer _) rfl ?_
  refine Flow.move (v := .slice _ _ _) rfl ?_
  refine Flow.move (v := .int _ _) rfl ?_
  refine Flow.indexAddr1 Tf.sl_22 rfl rfl (by omega) (by omega) ?_
  refine Flow.load1 Tf.ty_3 rfl (hcOk) ?_
  refine Flow.call2 Tf.hb_132 (v1 := .pointer _) rfl (v2 := .int _ _) rfl ?_
  refine Ret.mono (place_ok t hs ac af cc cf w4.heap.size w3.heap.size w6.heap.size fuel x S.1 [] w8 hi g.inv (by show t.days.toNat < 130 + 0; omega) hPB hPM) ?_
  rintro _ w9 ⟨rfl, hM9, c9⟩
  refine hK _ _ _ ?_
  clear hK K
  have c59 : Chg [w3.heap.size, w4.heap.size] w5 w9 := c58.trans c9 (fun b hb hm => by simp at hm ⊢; omega)
  have b19 := b15.chg c59 (by simp; omega)
  have hsb9 := b8'.chg c9 (by simp; omega)
  have hstep : ∀ (e : Env) (w' : World), AllAt e [(1, .pointer (some ⟨w.heap.size, 0, none⟩)), (3, .slice (some ⟨bo, oo, none⟩) o.length c), (7, .pointer (some ⟨w4.heap.size, 0, none⟩)), (9, .int .i64 (rStep t S x).2), (10, .int .i64 k)] → Chg [] w9 w' → (rStep t S x).1 = (give (adjT t) fuel x S.1 []).2.1 → 0 ≤ (rStep t S x).2 ∧ (rStep t S x).2 ≤ 1000 * (k + 1 : Nat) → K19 [] e w' := by
    intro e w' hE hc' h1 h2
    refine hK19 _ _ _ ?_
    obtain ⟨e, rfl⟩ : ∃ e0, e = putL e0 _ := ⟨e, putL_self hE⟩
    clear hE
    refine W.region (by rfl) ?_
    refine Flow.move (v := .int _ _) rfl ?_
    refine Flow.add rfl rfl (by omega) (by omega) ?_
    refine Flow.assign (v := .int _ _) rfl ?_
    exact Flow.nil ⟨k + 1, by omega, rfl, by omega, ⟨rfl, rfl, rfl, by rw [hrs]; rfl, rfl, trivial⟩, c59.trans (hc'.mono (by simp)) (fun _ _ h => h), ⟨_, hsb9.chg hc' (by simp)⟩, by rw [hrs, h1]; exact hM9.2.chg hc' (by simp), by rw [hrs]; exact h2.1, by rw [hrs]; exact h2.2⟩
  have hgf := give_false (adjV hv) fuel x S.1 [] hi g.inv
  refine W.cond rfl (fun h => ?_) (fun h => W.skip ?_)
  · have hst : rStep t S x = ((give (adjT t) fuel x S.1 []).2.1, S.2 + (flawAt t x).merit) := by rw [rStep, if_pos h]
    have hmx := hv.fm _ (List.getElem_mem hxl)
    have hfa : flawAt t x = t.flaws[x.toNat] := flawAt_get hxl
    have cw9 : Chg [w3.heap.size, w4.heap.size] w w9 := ((c12.then c25).mono (by simp)).trans c59 (fun _ _ h => h)
    obtain ⟨bf, of_, rfl, hflaw⟩ := (hF.chg cw9 (hF.off (fun b hb => by simp at hb; omega))).get hxl
    have hcO9 := cell_chg hcOk c9 (by simp; omega)
    rw [hst, hfa] at hstep
    refine W.regionD [] [] (by kernel_rfl) (by kernel_rfl) fun w10 c10 hh10 => ?_
    refine FD.val (fun _ hw => Rn.move (v := .int _ _) rfl) ?_
    refine FD.val (fun _ hw => Rn.fieldAddr Tf.fo_25_2 rfl) ?_
    refine FD.val (fun _ hw => Rn.load1 Tf.ty_23 rfl ((b19.chg c10 (by simp)).cell 2) (hw rfl rfl)) ?_
    refine FD.val (fun _ hw => Rn.move (v := .slice _ _ _) rfl) ?_
    refine FD.val (fun _ hw => Rn.move (v := .int _ _) rfl) ?_
    refine FD.val (fun _ hw => Rn.indexAddr1 Tf.sl_22 rfl rfl (by omega) (by omega)) ?_
    refine FD.val (fun _ hw => Rn.load1 Tf.ty_3 rfl (cell_chg hcO9 c10 (by simp)) (hw rfl rfl)) ?_
    refine FD.val (fun _ hw => Rn.indexAddr Tf.sl_23 rfl rfl (by omega) (by omega)) ?_
    refine FD.val (fun _ hw => Rn.fieldAddr Tf.fo_81_2 rfl) ?_
    refine FD.val (fun _ hw => Rn.load1 Tf.ty_3 rfl ((Cells.chg c10 (by simp) (hflaw x.toNat hxl)).2.2.2.1) (hw rfl rfl)) ?_
    refine FD.val (fun _ hw => Rn.add rfl rfl (by omega) (by omega)) ?_
    refine FD.val (fun _ hw => Rn.assign (v := .int _ _) rfl) ?_
    refine FD.nil ?_
    exact hstep _ _ ⟨rfl, rfl, rfl, rfl, rfl, trivial⟩ c10 rfl ⟨by simp only; omega, by simp only; omega⟩
  · have h' : (give (adjT t) fuel x S.1 []).1 = false := h
    have hst : rStep t S x = S := by rw [rStep, if_neg (by rw [h']; simp)]
    rw [hst] at hstep
    exact hstep _ _ ⟨rfl, rfl, rfl, rfl, rfl, trivial⟩ (Chg.refl _ _) (hgf h').1.symm ⟨by omega, by omega⟩

/-! ### Merit -/
theorem rMerit_ok (w : World) (t : Tour) (ac af : Option Addr) (cc cf : Nat) (hC : IL w ac t.closed) (hF : FL w af t.flaws) (hcl : t.closed.length ≤ 1000) (hfl : t.flaws.length ≤ 1000) :
    Ret Tryz.prog 45 #[.agg #[.int .i64 t.days, .slice ac t.closed.length cc, .slice af t.flaws.length cf]] w fun v w' => v = .tuple #[.int .i64 (meritR t), .int .i64 (chk t)] ∧ Chg [] w w' := by
  refine Ret.of_W (n := 12) Tryz.func45 rfl rfl (Nat.le_of_ble_eq_true rfl) ?_
  refine W.seq fun K hK => ?_
  refine W.region (by rfl) ?_
  refine Flow.box rfl (cs := [_, _, _]) rfl fun w1 c1 s1 b1 => ?_
  refine Flow.assignC ?_
  refine Flow.assignC ?_
  refine hK _ _ _ ?_
  clear hK K
  refine W.seq fun K hK => ?_
  refine W.region (by rfl) ?_
  refine Flow.loadA Tf.ty_25 rfl rfl (b1.cells0) ?_
  refine Flow.call1 Tf.hb_56 (v1 := .agg _) rfl ?_
  refine Ret.mono (rcheck_ok _ t ac af cc cf (hC.ext c1) (hF.ext c1) hcl hfl) ?_
  rintro _ w2 ⟨rfl, c2⟩
  refine Flow.assign (v := .int _ _) rfl ?_
  refine hK _ _ _ ?_
  clear hK K
  have c12 := c1.then c2
  have b12 := b1.chg c2 (by simp)
  refine W.seq fun K2 hK2 => ?_
  refine W.seq fun K hK => ?_
  refine W.region (by rfl) ?_
  refine Flow.move (v := .int _ _) rfl ?_
  refine Flow.neq rfl rfl ?_
  refine hK _ _ _ ?_
  clear hK K
  refine W.cond rfl (fun h => ?_) (fun h => W.skip (hK2 _ _ _ ?_))
  · have h0 : chk t ≠ 0 := by simpa using h
    refine W.seq fun K hK => ?_
    refine W.region (by rfl) ?_
    refine Flow.move (v := .int _ _) rfl ?_
    refine Flow.assignC ?_
    refine Flow.assign (v := .int _ _) rfl ?_
    refine hK _ _ _ ?_
    clear hK K
    exact W.ret ⟨_, res2 rfl (v := .int _ _) (v' := .int _ _) rfl rfl, by rw [meritR, if_neg h0], c12⟩
  · have h0 : chk t = 0 := by simpa using h
    refine W.seq fun K hK => ?_
    refine W.region (by rfl) ?_
    refine Flow.loadA Tf.ty_25 rfl rfl (b12.cells0) ?_
    refine Flow.call1 Tf.hb_72 (v1 := .agg _) rfl ?_
    refine Ret.mono (rbest_ok _ t ac af cc cf (chk_valid h0) (hC.ext c12) (hF.ext c12)) ?_
    rintro _ w3 ⟨rfl, c3⟩
    refine Flow.assign (v := .int _ _) rfl ?_
    refine Flow.assignC ?_
    refine hK _ _ _ ?_
    clear hK K
    exact W.ret ⟨_, res2 rfl (v := .int _ _) (v' := .int _ _) rfl rfl, by rw [meritR, if_pos h0, h0], c12.then c3⟩

end Go.Proofs.YtkoejelglinmnaaGreat

/-
  Contracts of the reference: day, shut, Gain, Lost.
-/
namespace Go.Proofs.YtkoejelglinmnaaGreat
open Sg Mm
set_option maxRecDepth 100000

theorem sorted_ext : ∀ {l1 l2 : List Int}, l1.Pairwise (· < ·) → l2.Pairwise (· < ·) → (∀ x, x ∈ l1 ↔ x ∈ l2) → l1 = l2
  | [], [], _, _, _ => rfl
  | [], b :: l, _, _, h => absurd ((h b).2 (by simp)) (by simp)
  | a :: l, [], _, _, h => absurd ((h a).1 (by simp)) (by simp)
  | a :: l1, b :: l2, h1, h2, h => by
    have h1' := List.pairwise_cons.1 h1
    have h2' := List.pairwise_cons.1 h2
    have e : a = b := by
      rcases List.mem_cons.1 ((h a).1 (by simp)) with e | ha
      · exact e
      · rcases List.mem_cons.1 ((h b).2 (by simp)) with e | hb
        · exact e.symm
        · have := h1'.1 b hb; have := h2'.1 a ha; omega
    subst e
    rw [sorted_ext h1'.2 h2'.2 fun x => ?_]
    constructor
    · intro hx
      rcases List.mem_cons.1 ((h x).1 (List.mem_cons_of_mem _ hx)) with e | h
      · have := h1'.1 x hx; omega
      · exact h
    · intro hx
      rcases List.mem_cons.1 ((h x).2 (List.mem_cons_of_mem _ hx)) with e | h
      · have := h2'.1 x hx; omega
      · exact h

def shutP (t : Tour) (d : Int) (b : Bool) (x : Int) : Bool := if x = d then b else decide (x ∈ t.closed)
def shutK (t : Tour) (d : Int) (b : Bool) (k : Nat) : List Int := (places k).filter (shutP t d b)
def shutT (t : Tour) (d : Int) (b : Bool) : Tour := { t with closed := shutK t d b t.days.toNat }

theorem shutK_succ (t : Tour) (d : Int) (b : Bool) (k : Nat) : shutK t d b (k + 1) = if shutP t d b k then shutK t d b k ++ [(k : Int)] else shutK t d b k := by
  simp only [shutK, places, List.range_succ, List.map_append, List.filter_append]
  cases h : shutP t d b k <;> simp [h]

theorem shutK_len (t : Tour) (d : Int) (b : Bool) (k : Nat) : (shutK t d b k).length ≤ k :=
  Nat.le_trans (List.length_filter_le _ _) (by simp [places])

theorem shut_sorted (t : Tour) (d : Int) (b : Bool) (k : Nat) : (shutK t d b k).Pairwise (· < ·) := by
  refine List.Pairwise.filter _ ?_
  unfold places
  rw [List.pairwise_map]
  exact List.pairwise_lt_range.imp fun h => by omega

theorem shut_true {t : Tour} (hv : Valid t) {d : Int} (hd : 0 ≤ d ∧ d < t.days) : shutT t d true = closedS t d := by
  have : shutK t d true t.days.toNat = (closedS t d).closed := sorted_ext (shut_sorted _ _ _ _) (hv.close hd).cs fun x => by
    simp only [shutK, List.mem_filter, mem_places, shutP, mem_closedS]
    have hcr := hv.cr x
    by_cases e : x = d
    · subst e; simp; omega
    · simp only [if_neg e, decide_eq_true_eq]
      constructor
      · rintro ⟨_, h⟩; exact .inr h
      · rintro (h | h)
        · exact absurd h e
        · have := hcr h; exact ⟨by omega, h⟩
  rw [shutT, this]; rfl

theorem shut_false {t : Tour} (hv : Valid t) (d : Int) : shutT t d false = openT t d := by
  have : shutK t d false t.days.toNat = (openT t d).closed := sorted_ext (shut_sorted _ _ _ _) (hv.opened d).cs fun x => by
    simp only [shutK, List.mem_filter, mem_places, shutP, openT]
    have hcr := hv.cr x
    by_cases e : x = d
    · subst e; simp
    · simp only [if_neg e, decide_eq_true_eq, decide_eq_false e]
      constructor
      · rintro ⟨_, h⟩; exact ⟨h, rfl⟩
      · rintro ⟨h, _⟩
        have := hcr h; exact ⟨by omega, h⟩
  rw [shutT, this]; rfl

theorem rday_ok (w : World) (t : Tour) (ac af : Option Addr) (cc cf : Nat) (day : Int) (hC : IL w ac t.closed) (hF : FL w af t.flaws) (hcl : t.closed.length ≤ 1000) (hfl : t.flaws.length ≤ 1000) :
    Ret Tryz.prog 86 #[.agg #[.int .i64 t.days, .slice ac t.closed.length cc, .slice af t.flaws.length cf], .int .i64 day] w fun v w' => v = .int .i64 (dayE t day) ∧ Chg [] w w' := by
  refine Ret.of_W (n := 19) Tryz.func86 rfl rfl (Nat.le_of_ble_eq_true rfl) ?_
  refine W.seq fun K hK => ?_
  refine W.region (by rfl) ?_
  refine Flow.box rfl (cs := [_, _, _]) rfl fun w1 c1 s1 b1 => ?_
  refine Flow.assignC ?_
  refine hK _ _ _ ?_
  clear hK K
  refine W.seq fun K hK => ?_
  refine W.region (by rfl) ?_
  refine Flow.loadA Tf.ty_25 rfl rfl (b1.cells0) ?_
  refine Flow.call1 Tf.hb_56 (v1 := .agg _) rfl ?_
  refine Ret.mono (rcheck_ok _ t ac af cc cf (hC.ext c1) (hF.ext c1) hcl hfl) ?_
  rintro _ w2 ⟨rfl, c2⟩
  refine Flow.assign (v := .int _ _) rfl ?_
  refine hK _ _ _ ?_
  clear hK K
  have c12 := c1.then c2
  have b12 := b1.chg c2 (by simp)
  refine W.seq fun K2 hK2 => ?_
  by_cases h0 : chk t = 0
  · have hv := chk_valid h0
    have hd1 := hv.d1
    have hd2 := hv.d2
    rw [h0]
    refine W.seq fun K hK => ?_
    refine W.region (by rfl) ?_
    refine Flow.move (v := .int _ _) rfl ?_
    refine Flow.eqlD (c := true) rfl rfl (decide_eq_true (by omega)) ?_
    refine Flow.move (v := .bool _) rfl ?_
    refine Flow.on rfl rfl ?_
    refine Flow.move (v := .int _ _) rfl ?_
    refine Flow.on rfl rfl ?_
    refine Flow.fieldAddr Tf.fo_25_0 rfl ?_
    refine Flow.on rfl rfl ?_
    refine Flow.load1 Tf.ty_3 rfl (b12.cell 0) ?_
    refine Flow.on rfl rfl ?_
    refine Flow.sub rfl rfl (by omega) (by omega) ?_
    refine Flow.on rfl rfl ?_
    refine Flow.call3 Tf.hb_93 (v1 := .int _ _) rfl (v2 := .int _ _) rfl (v3 := .int _ _) rfl ?_
    refine Ret.mono (rin_ok _ _ _ _) ?_
    rintro _ w3 ⟨rfl, c3⟩
    by_cases h1 : 0 ≤ day ∧ day ≤ t.days - 1
    · rw [decide_eq_true h1]
      refine Flow.on rfl rfl ?_
      refine Flow.not rfl ?_
      refine Flow.pickT rfl rfl ?_
      refine hK _ _ _ ?_
      clear hK K
      refine W.cond (t := false) rfl (fun h => by simp at h) (fun _ => W.skip (hK2 _ _ _ ?_))
      refine W.seq fun K hK => ?_
      refine W.region (by rfl) ?_
      refine Flow.move (v := .int _ _) rfl ?_
      refine Flow.assign (v := .int _ _) rfl ?_
      refine hK _ _ _ ?_
      clear hK K
      exact W.ret ⟨_, res1 rfl (v := .int _ _) rfl, by rw [dayE, if_pos h0, if_pos h1], c12.then c3⟩
    · rw [decide_eq_false h1]
      refine Flow.on rfl rfl ?_
      refine Flow.not rfl ?_
      refine Flow.pickT rfl rfl ?_
      refine hK _ _ _ ?_
      clear hK K
      refine W.cond (t := true) rfl (fun _ => ?_) (fun h => by simp at h)
      refine W.region (by rfl) ?_
      refine Flow.assignC ?_
      refine Flow.nil (hK2 _ _ _ ?_)
      refine W.seq fun K hK => ?_
      refine W.region (by rfl) ?_
      refine Flow.move (v := .int _ _) rfl ?_
      refine Flow.assign (v := .int _ _) rfl ?_
      refine hK _ _ _ ?_
      clear hK K
      exact W.ret ⟨_, res1 rfl (v := .int _ _) rfl, by rw [dayE, if_pos h0, if_neg h1], c12.then c3⟩
  · refine W.seq fun K hK => ?_
    refine W.region (by rfl) ?_
    refine Flow.move (v := .int _ _) rfl ?_
    refine Flow.eqlD (c := false) rfl rfl (decide_eq_false (by omega)) ?_
    refine Flow.move (v := .bool _) rfl ?_
    refine Flow.off (c := false) rfl rfl rfl ?_
    refine Flow.off (c := false) rfl rfl rfl ?_
    refine Flow.off (c := false) rfl rfl rfl ?_
    refine Flow.off (c := false) rfl rfl rfl ?_
    refine Flow.off (c := false) rfl rfl rfl ?_
    refine Flow.off (c := false) rfl rfl rfl ?_
    refine Flow.pickF rfl rfl ?_
    refine hK _ _ _ ?_
    clear hK K
    refine W.cond (t := false) rfl (fun h => by simp at h) (fun _ => W.skip (hK2 _ _ _ ?_))
    refine W.seq fun K hK => ?_
    refine W.region (by rfl) ?_
    refine Flow.move (v := .int _ _) rfl ?_
    refine Flow.assign (v := .int _ _) rfl ?_
    refine hK _ _ _ ?_
    clear hK K
    exact W.ret ⟨_, res1 rfl (v := .int _ _) rfl, by rw [dayE, if_neg h0], c12⟩

set_option maxHeartbeats 1000000 in
theorem rshut_ok (w : World) (t : Tour) (ac af : Option Addr) (cc cf : Nat) (d : Int) (b : Bool) (hs : Small t) (hC : IL w ac t.closed) (hF : FL w af t.flaws) :
    Ret Tryz.prog 87 #[.agg #[.int .i64 t.days, .slice ac t.closed.length cc, .slice af t.flaws.length cf], .int .i64 d, .bool b] w fun v w' => Chg [] w w' ∧ ∃ a1 c1, v = .agg #[.int .i64 t.days, .slice a1 (shutT t d b).closed.length c1, .slice af t.flaws.length cf] ∧ IL w' a1 (shutT t d b).closed := by
  have hcl := hs.cl
  have hdl := hs.dl
  have hdh := hs.dh
  refine Ret.of_W (n := 41) Tryz.func87 rfl rfl (Nat.le_of_ble_eq_true rfl) ?_
  refine W.seq fun K hK => ?_
  refine W.region (by rfl) ?_
  refine Flow.box rfl (cs := [_, _, _]) rfl fun w1 c1 s1 b1 => ?_
  refine Flow.alloc Tf.ty_25 (cs := [_, _, _]) rfl fun w2 c2 s2 b2 => ?_
  refine hK _ _ _ ?_
  clear hK K
  refine W.seq fun K hK => ?_
  refine W.region (by rfl) ?_
  refine Flow.loadA Tf.ty_25 rfl rfl ((b1.chg c2 (by simp)).cells0) ?_
  refine Flow.alloc Tf.ty_25 (cs := [_, _, _]) rfl fun w3 c3 s3 b3 => ?_
  refine Flow.store Tf.ty_25 rfl rfl (b3) (vs := [_, _, _]) rfl rfl (by simp) rfl fun w4 c4 s4 b4 => ?_
  refine hK _ _ _ ?_
  clear hK K
  refine W.seq fun K hK => ?_
  refine W.region (by rfl) ?_
  refine Flow.fieldAddr Tf.fo_25_1 rfl ?_
  refine Flow.store1 Tf.ty_22 rfl (v := .slice _ _ _) rfl (b4) (by simp) rfl fun w5 c5 s5 b5 => ?_
  refine hK _ _ _ ?_
  clear hK K
  have c25 : Chg [] w2 w5 := (c3.step c4 (by simp)).step c5 (by simp)
  have b5 : Blk w5 w2.heap.size [.int .i64 t.days, .slice none (shutK t d b 0).length 0, .slice af t.flaws.length cf] 25 := b5
  have c15 := c2.then c25
  have b15 := b1.chg c15 (by simp)
  refine W.forget [(1, .int .i64 d), (2, .bool b), (3, .pointer (some ⟨w.heap.size, 0, none⟩)), (6, .pointer (some ⟨w1.heap.size, 0, none⟩)), (7, .pointer (some ⟨w2.heap.size, 0, none⟩))] ⟨rfl, rfl, rfl, rfl, rfl, trivial⟩ fun e => ?_
  refine W.seq fun K3 hK3 => ?_
  refine W.seq fun K hK => ?_
  refine W.region (by rfl) ?_
  refine Flow.assignC ?_
  refine hK _ _ _ ?_
  clear hK K
  refine W.block ?_
  refine W.loop (ι := Nat × Option Addr × Nat) (fun k ds e w' => ds = [] ∧ k.1 ≤ t.days.toNat ∧ AllAt e [(1, .int .i64 d), (2, .bool b), (3, .pointer (some ⟨w.heap.size, 0, none⟩)), (6, .pointer (some ⟨w1.heap.size, 0, none⟩)), (7, .pointer (some ⟨w2.heap.size, 0, none⟩)), (8, .int .i64 k.1)] ∧
      Chg [] w2 w' ∧ w5.heap.size ≤ w'.heap.size ∧ Mine w5.heap.size w' k.2.1 k.2.2 (shutK t d b k.1) ∧ Blk w' w2.heap.size [.int .i64 t.days, .slice k.2.1 (shutK t d b k.1).length k.2.2, .slice af t.flaws.length cf] 25)
    (fun k => t.days.toNat - k.1) (i0 := (0, none, 0)) ⟨rfl, by omega, ⟨rfl, rfl, rfl, rfl, rfl, rfl, trivial⟩, c25, Nat.le_refl _, Mine.nil _ _, b5⟩ ?_
  rintro ⟨k, ao, co⟩ ds e w6 ⟨rfl, hk, hE, hc, hsz, hm, hb⟩
  obtain ⟨e, rfl⟩ : ∃ e0, e = putL e0 _ := ⟨e, putL_self hE⟩
  clear hE
  simp only at hk hsz hm hb ⊢
  have c16 := (c1.then c2).then hc
  have b16 := b1.chg (c2.then hc) (by simp)
  have hll := shutK_len t d b k
  have hs25 := c25.size
  have hs35 : w2.heap.size + 1 ≤ w5.heap.size := by have := b5.lt; omega
  refine W.seq fun K4 hK4 => ?_
  refine W.seq fun K hK => ?_
  refine W.region (by rfl) ?_
  refine Flow.move (v := .int _ _) rfl ?_
  refine Flow.fieldAddr Tf.fo_25_0 rfl ?_
  refine Flow.load1 Tf.ty_3 rfl (b16.cell 0) ?_
  refine Flow.lss rfl rfl ?_
  refine hK _ _ _ ?_
  clear hK K
  refine W.cond rfl (fun h => W.skip (hK4 _ _ _ ?_)) (fun h => W.exit ?_)
  case refine_2 =>
    have hge : k = t.days.toNat := by simp at h; omega
    subst hge
    refine hK3 _ _ _ ?_
    refine W.seq fun K hK => ?_
    refine W.region (by rfl) ?_
    refine Flow.loadA Tf.ty_25 rfl rfl (hb.cells0) ?_
    refine Flow.store Tf.ty_25 rfl rfl (b2.chg hc (by simp)) (vs := [_, _, _]) rfl rfl (by simp) rfl fun w9 c9 s9 b9 => ?_
    refine hK _ _ _ ?_
    clear hK K
    have hs6 := hc.size
    exact W.ret ⟨_, resG1 rfl (OneR.cellA Tf.ty_25 rfl (l := [_, _, _]) rfl b9.cells0), (c1.then (c2.then hc)).step c9 (by simp; omega), ao, co, rfl, (hm.chg c9 (fun b hb h => by have := hm.2 b hb; simp at h; omega)).il⟩
  have hlt : k < t.days.toNat := by simp at h; omega
  have hsu := shutK_succ t d b k
  refine W.seq fun K5 hK5 => ?_
  have hstep : ∀ (e : Env) (w' : World) (a' : Option Addr) (c' : Nat), AllAt e [(1, .int .i64 d), (2, .bool b), (3, .pointer (some ⟨w.heap.size, 0, none⟩)), (6, .pointer (some ⟨w1.heap.size, 0, none⟩)), (7, .pointer (some ⟨w2.heap.size, 0, none⟩)), (8, .int .i64 k)] → Chg [] w2 w' → w5.heap.size ≤ w'.heap.size → Mine w5.heap.size w' a' c' (shutK t d b (k + 1)) → Blk w' w2.heap.size [.int .i64 t.days, .slice a' (shutK t d b (k + 1)).length c', .slice af t.flaws.length cf] 25 → K5 [] e w' := by
    intro e w' a' c' hE h1 h2 h3 h4
    refine hK5 _ _ _ ?_
    obtain ⟨e, rfl⟩ : ∃ e0, e = putL e0 _ := ⟨e, putL_self hE⟩
    clear hE
    refine W.region (by rfl) ?_
    refine Flow.move (v := .int _ _) rfl ?_
    refine Flow.add rfl rfl (by omega) (by omega) ?_
    refine Flow.assign (v := .int _ _) rfl ?_
    exact Flow.nil ⟨(k + 1, a', c'), by simp only; omega, rfl, by simp only; omega, ⟨rfl, rfl, rfl, rfl, rfl, rfl, trivial⟩, h1, h2, h3, h4⟩
  have hno : shutP t d b k = false → ∀ e w', AllAt e [(1, .int .i64 d), (2, .bool b), (3, .pointer (some ⟨w.heap.size, 0, none⟩)), (6, .pointer (some ⟨w1.heap.size, 0, none⟩)), (7, .pointer (some ⟨w2.heap.size, 0, none⟩)), (8, .int .i64 k)] → Chg [] w6 w' → K5 [] e w' := fun hp e w' hE hc' => by
    rw [hp] at hsu
    have hsu : shutK t d b (k + 1) = shutK t d b k := hsu
    have := hc'.size
    exact hstep e w' ao co hE (hc.then hc') (by omega) (by rw [hsu]; exact hm.ext hc') (by rw [hsu]; exact hb.chg hc' (by simp))
  refine W.block ?_
  by_cases hkd : (k : Int) = d
  · have hp : shutP t d b k = b := by rw [shutP, if_pos hkd]
    cases b with
    | false =>
      refine W.seq fun K hK => ?_
      refine W.region (by rfl) ?_
      refine Flow.move (v := .int _ _) rfl ?_
      refine Flow.move (v := .int _ _) rfl ?_
      refine Flow.eqlD (c := true) rfl rfl (decide_eq_true (by omega)) ?_
      refine Flow.move (v := .bool _) rfl ?_
      refine Flow.on rfl rfl ?_
      refine Flow.move (v := .bool _) rfl ?_
      refine Flow.pickT rfl rfl ?_
      refine Flow.move (v := .bool _) rfl ?_
      refine Flow.on rfl rfl ?_
      refine Flow.move (v := .int _ _) rfl ?_
      refine Flow.on rfl rfl ?_
      refine Flow.move (v := .int _ _) rfl ?_
      refine Flow.on rfl rfl ?_
      refine Flow.neqD (c := false) rfl rfl (decide_eq_false (by omega)) ?_
      refine Flow.on rfl rfl ?_
      refine Flow.move (v := .bool _) rfl ?_
      refine Flow.off (c := false) rfl rfl rfl ?_
      refine Flow.off (c := false) rfl rfl rfl ?_
      refine Flow.off (c := false) rfl rfl rfl ?_
      refine Flow.off (c := false) rfl rfl rfl ?_
      refine Flow.on rfl rfl ?_
      refine Flow.pickF rfl rfl ?_
      refine Flow.pickF rfl rfl ?_
      refine hK _ _ _ ?_
      clear hK K
      refine W.cond (t := false) rfl (fun h => by simp at h) (fun _ => W.skip (hno hp _ w6 ⟨rfl, rfl, rfl, rfl, rfl, rfl, trivial⟩ (Chg.refl _ _)))
    | true =>
      rw [hp] at hsu
      have hsu : shutK t d true (k + 1) = shutK t d true k ++ [(k : Int)] := hsu
      refine W.seq fun K hK => ?_
      refine W.region (by rfl) ?_
      refine Flow.move (v := .int _ _) rfl ?_
      refine Flow.move (v := .int _ _) rfl ?_
      refine Flow.eqlD (c := true) rfl rfl (decide_eq_true (by omega)) ?_
      refine Flow.move (v := .bool _) rfl ?_
      refine Flow.on rfl rfl ?_
      refine Flow.move (v := .bool _) rfl ?_
      refine Flow.pickT rfl rfl ?_
      refine Flow.move (v := .bool _) rfl ?_
      refine Flow.off (c := true) rfl rfl rfl ?_
      refine Flow.off (c := true) rfl rfl rfl ?_
      refine Flow.off (c := true) rfl rfl rfl ?_
      refine Flow.off (c := true) rfl rfl rfl ?_
      refine Flow.offU rfl rfl ?_
      refine Flow.offU rfl rfl ?_
      refine Flow.offU rfl rfl ?_
      refine Flow.offU rfl rfl ?_
      refine Flow.off (c := true) rfl rfl rfl ?_
      refine Flow.pickT rfl rfl ?_
      refine hK _ _ _ ?_
      clear hK K
      refine W.cond (t := true) rfl (fun _ => ?_) (fun h => by simp at h)
      have hnm := hm.2
      have hsx := ((Chg.refl [] w6)).size
      refine W.region (by rfl) ?_
      refine Flow.fieldAddr Tf.fo_25_1 rfl ?_
      refine Flow.load1 Tf.ty_22 rfl ((hb.chg (Chg.refl [] w6) (by simp)).cell 1) ?_
      refine Flow.move (v := .int _ _) rfl ?_
      refine Flow.buildSlice1 Tf.sl_22 Tf.us_22 rfl (by decide) (by decide) rfl (cs := [_]) rfl rfl fun w8 c8 s8 b8 => ?_
      refine Flow.append Tf.sl_22 Tf.us_22 rfl (by decide) rfl rfl ((hm.ext (((Chg.refl [] w6)).then c8)).1) (b8.cells0) rfl rfl (by omega) (by omega) fun a5 cap5 w9 o5 c9 hd5 hn5 => ?_
      refine Flow.fieldAddr Tf.fo_25_1 rfl ?_
      refine Flow.store1 Tf.ty_22 rfl (v := .slice _ _ _) rfl (((hb.chg (((Chg.refl [] w6)).then c8) (by simp)).chg c9 (fun h => by have := hnm _ h; omega))) (by simp) rfl fun w10 c10 s10 b10 => ?_
      have hs8 := c8.size
      have hs9 := c9.size
      have hm9 : Mine w5.heap.size w9 a5 cap5 (shutK t d true k ++ [(k : Int)]) := (hm.ext (((Chg.refl [] w6)).then c8)).app (by omega) o5 hd5
      refine Flow.nil (hstep _ w10 a5 cap5 ⟨rfl, rfl, rfl, rfl, rfl, rfl, trivial⟩ (((hc.then (((Chg.refl [] w6)).then c8)).step c9 (fun b hb => by have := hnm b hb; omega)).step c10 (by simp)) (by omega) ?_ ?_)
      · rw [hsu]; exact hm9.chg c10 (fun b hb h => by have := hm9.2 b hb; simp at h; omega)
      · rw [hsu]; simpa using b10
  · have hp : shutP t d b k = decide ((k : Int) ∈ t.closed) := by rw [shutP, if_neg hkd]
    refine W.seq fun K hK => ?_
    refine W.region (by rfl) ?_
    refine Flow.move (v := .int _ _) rfl ?_
    refine Flow.move (v := .int _ _) rfl ?_
    refine Flow.eqlD (c := false) rfl rfl (decide_eq_false (by omega)) ?_
    refine Flow.move (v := .bool _) rfl ?_
    refine Flow.off (c := false) rfl rfl rfl ?_
    refine Flow.pickF rfl rfl ?_
    refine Flow.move (v := .bool _) rfl ?_
    refine Flow.on rfl rfl ?_
    refine Flow.move (v := .int _ _) rfl ?_
    refine Flow.on rfl rfl ?_
    refine Flow.move (v := .int _ _) rfl ?_
    refine Flow.on rfl rfl ?_
    refine Flow.neqD (c := true) rfl rfl (decide_eq_true (by omega)) ?_
    refine Flow.on rfl rfl ?_
    refine Flow.move (v := .bool _) rfl ?_
    refine Flow.on rfl rfl ?_
    refine Flow.fieldAddr Tf.fo_25_1 rfl ?_
    refine Flow.on rfl rfl ?_
    refine Flow.load1 Tf.ty_22 rfl (b16.cell 1) ?_
    refine Flow.on rfl rfl ?_
    refine Flow.move (v := .int _ _) rfl ?_
    refine Flow.on rfl rfl ?_
    refine Flow.call2 Tf.hb_109 (v1 := .slice _ _ _) rfl (v2 := .int _ _) rfl ?_
    refine Ret.mono (rhas_ok _ _ _ t.closed _ (hC.ext c16) (by omega)) ?_
    rintro _ w7 ⟨rfl, c7⟩
    refine Flow.on rfl rfl ?_
    refine Flow.pickT rfl rfl ?_
    refine Flow.pickF rfl rfl ?_
    refine hK _ _ _ ?_
    clear hK K
    refine W.cond rfl (fun h => ?_) (fun h => W.skip (hno (by rw [hp]; exact h) _ w7 ⟨rfl, rfl, rfl, rfl, rfl, rfl, trivial⟩ c7))
    rw [hp, h] at hsu
    have hsu : shutK t d b (k + 1) = shutK t d b k ++ [(k : Int)] := hsu
    have hnm := hm.2
    have hsx := (c7).size
    refine W.region (by rfl) ?_
    refine Flow.fieldAddr Tf.fo_25_1 rfl ?_
    refine Flow.load1 Tf.ty_22 rfl ((hb.chg c7 (by simp)).cell 1) ?_
    refine Flow.move (v := .int _ _) rfl ?_
    refine Flow.buildSlice1 Tf.sl_22 Tf.us_22 rfl (by decide) (by decide) rfl (cs := [_]) rfl rfl fun w8 c8 s8 b8 => ?_
    refine Flow.append Tf.sl_22 Tf.us_22 rfl (by decide) rfl rfl ((hm.ext ((c7).then c8)).1) (b8.cells0) rfl rfl (by omega) (by omega) fun a5 cap5 w9 o5 c9 hd5 hn5 => ?_
    refine Flow.fieldAddr Tf.fo_25_1 rfl ?_
    refine Flow.store1 Tf.ty_22 rfl (v := .slice _ _ _) rfl (((hb.chg ((c7).then c8) (by simp)).chg c9 (fun h => by have := hnm _ h; omega))) (by simp) rfl fun w10 c10 s10 b10 => ?_
    have hs8 := c8.size
    have hs9 := c9.size
    have hm9 : Mine w5.heap.size w9 a5 cap5 (shutK t d b k ++ [(k : Int)]) := (hm.ext ((c7).then c8)).app (by omega) o5 hd5
    refine Flow.nil (hstep _ w10 a5 cap5 ⟨rfl, rfl, rfl, rfl, rfl, rfl, trivial⟩ (((hc.then ((c7).then c8)).step c9 (fun b hb => by have := hnm b hb; omega)).step c10 (by simp)) (by omega) ?_ ?_)
    · rw [hsu]; exact hm9.chg c10 (fun b hb h => by have := hm9.2 b hb; simp at h; omega)
    · rw [hsu]; simpa using b10

theorem rGain_ok (w : World) (t : Tour) (ac af : Option Addr) (cc cf : Nat) (day : Int) (hC : IL w ac t.closed) (hF : FL w af t.flaws) (hcl : t.closed.length ≤ 1000) (hfl : t.flaws.length ≤ 1000) :
    Ret Tryz.prog 24 #[.agg #[.int .i64 t.days, .slice ac t.closed.length cc, .slice af t.flaws.length cf], .int .i64 day] w fun v w' => v = .tuple #[.int .i64 (gainR t day), .int .i64 (dayE t day)] ∧ Chg [] w w' := by
  refine Ret.of_W (n := 20) Tryz.func24 rfl rfl (Nat.le_of_ble_eq_true rfl) ?_
  refine W.seq fun K hK => ?_
  refine W.region (by rfl) ?_
  refine Flow.box rfl (cs := [_, _, _]) rfl fun w1 c1 s1 b1 => ?_
  refine Flow.assignC ?_
  refine Flow.assignC ?_
  refine hK _ _ _ ?_
  clear hK K
  refine W.seq fun K hK => ?_
  refine W.region (by rfl) ?_
  refine Flow.loadA Tf.ty_25 rfl rfl (b1.cells0) ?_
  refine Flow.move (v := .int _ _) rfl ?_
  refine Flow.call2 Tf.hb_86 (v1 := .agg _) rfl (v2 := .int _ _) rfl ?_
  refine Ret.mono (rday_ok _ t ac af cc cf day (hC.ext c1) (hF.ext c1) hcl hfl) ?_
  rintro _ w2 ⟨rfl, c2⟩
  refine Flow.assign (v := .int _ _) rfl ?_
  refine hK _ _ _ ?_
  clear hK K
  have c12 := c1.then c2
  have b12 := b1.chg c2 (by simp)
  refine W.seq fun K2 hK2 => ?_
  refine W.seq fun K hK => ?_
  refine W.region (by rfl) ?_
  refine Flow.move (v := .int _ _) rfl ?_
  refine Flow.neq rfl rfl ?_
  refine hK _ _ _ ?_
  clear hK K
  refine W.cond rfl (fun h => ?_) (fun h => W.skip (hK2 _ _ _ ?_))
  · have h0 : dayE t day ≠ 0 := by simpa using h
    refine W.seq fun K hK => ?_
    refine W.region (by rfl) ?_
    refine Flow.move (v := .int _ _) rfl ?_
    refine Flow.assignC ?_
    refine Flow.assign (v := .int _ _) rfl ?_
    refine hK _ _ _ ?_
    clear hK K
    exact W.ret ⟨_, res2 rfl (v := .int _ _) (v' := .int _ _) rfl rfl, by rw [gainR, if_neg h0], c12⟩
  · have h0 : dayE t day = 0 := by simpa using h
    obtain ⟨hck, hd⟩ := dayE_ok h0
    have hv := chk_valid hck
    have hs := hv.small
    have hb1 := merit_bd hs
    have hvo := hv.opened day
    have hb2 := merit_bd hvo.small
    have hsf : meritS (shutT t day false) = meritS (openT t day) := by rw [shut_false hv]
    refine W.seq fun K hK => ?_
    refine W.regionD [2, 3, 5] [] (by kernel_rfl) (by kernel_rfl) fun w3 c3 hh3 => ?_
    refine FD.val (fun _ hw => Rn.loadA Tf.ty_25 rfl rfl ((b12.chg c3 (by simp)).cells0) (hw rfl rfl)) ?_
    refine FD.val (fun _ hw => Rn.move (v := .int _ _) rfl) ?_
    refine FD.eff (by rfl) (Chg.refl _ _) ?_
    refine Flow.call3 Tf.hb_87 (v1 := .agg _) rfl (v2 := .int _ _) rfl (v3 := .bool _) rfl ?_
    refine Ret.mono (rshut_ok _ t ac af cc cf day false hs (hC.ext (c12.then c3)) (hF.ext (c12.then c3))) ?_
    rintro _ w4 ⟨c4, a1, k1, rfl, hC4⟩
    refine Flow.nil ⟨c4, ?_⟩
    refine FD.eff (by rfl) (c4) ?_
    refine Flow.call1 Tf.hb_72 (v1 := .agg _) rfl ?_
    refine Ret.mono (rbest_ok _ (shutT t day false) a1 af k1 cf (by rw [shut_false hv]; exact hvo) hC4 (hF.ext (c12.then (c3.then c4)))) ?_
    rintro _ w5 ⟨rfl, c5⟩
    refine Flow.nil ⟨c5, ?_⟩
    refine FD.val (fun _ hw => Rn.loadA Tf.ty_25 rfl rfl ((b12.chg c3 (by simp)).cells0) (hw rfl rfl)) ?_
    refine FD.eff (by rfl) ((c4).then c5) ?_
    refine Flow.call1 Tf.hb_72 (v1 := .agg _) rfl ?_
    refine Ret.mono (rbest_ok _ t ac af cc cf hv (hC.ext (c12.then (c3.then (c4.then c5)))) (hF.ext (c12.then (c3.then (c4.then c5))))) ?_
    rintro _ w6 ⟨rfl, c6⟩
    refine Flow.nil ⟨c6, ?_⟩
    refine FD.val (fun _ hw => Rn.sub rfl rfl (by omega) (by omega)) ?_
    refine FD.val (fun _ hw => Rn.assign (v := .int _ _) rfl) ?_
    refine FD.val (fun _ hw => Rn.assignC) ?_
    refine FD.nil ?_
    refine hK _ _ _ ?_
    clear hK K
    exact W.ret ⟨_, res2 rfl (v := .int _ _) (v' := .int _ _) rfl rfl, by rw [gainR, if_pos h0, h0, hsf], c12.then (c3.then (c4.then (c5.then c6)))⟩

theorem rLost_ok (w : World) (t : Tour) (ac af : Option Addr) (cc cf : Nat) (day : Int) (hC : IL w ac t.closed) (hF : FL w af t.flaws) (hcl : t.closed.length ≤ 1000) (hfl : t.flaws.length ≤ 1000) :
    Ret Tryz.prog 26 #[.agg #[.int .i64 t.days, .slice ac t.closed.length cc, .slice af t.flaws.length cf], .int .i64 day] w fun v w' => v = .tuple #[.int .i64 (lostR t day), .int .i64 (dayE t day)] ∧ Chg [] w w' := by
  refine Ret.of_W (n := 20) Tryz.func26 rfl rfl (Nat.le_of_ble_eq_true rfl) ?_
  refine W.seq fun K hK => ?_
  refine W.region (by rfl) ?_
  refine Flow.box rfl (cs := [_, _, _]) rfl fun w1 c1 s1 b1 => ?_
  refine Flow.assignC ?_
  refine Flow.assignC ?_
  refine hK _ _ _ ?_
  clear hK K
  refine W.seq fun K hK => ?_
  refine W.region (by rfl) ?_
  refine Flow.loadA Tf.ty_25 rfl rfl (b1.cells0) ?_
  refine Flow.move (v := .int _ _) rfl ?_
  refine Flow.call2 Tf.hb_86 (v1 := .agg _) rfl (v2 := .int _ _) rfl ?_
  refine Ret.mono (rday_ok _ t ac af cc cf day (hC.ext c1) (hF.ext c1) hcl hfl) ?_
  rintro _ w2 ⟨rfl, c2⟩
  refine Flow.assign (v := .int _ _) rfl ?_
  refine hK _ _ _ ?_
  clear hK K
  have c12 := c1.then c2
  have b12 := b1.chg c2 (by simp)
  refine W.seq fun K2 hK2 => ?_
  refine W.seq fun K hK => ?_
  refine W.region (by rfl) ?_
  refine Flow.move (v := .int _ _) rfl ?_
  refine Flow.neq rfl rfl ?_
  refine hK _ _ _ ?_
  clear hK K
  refine W.cond rfl (fun h => ?_) (fun h => W.skip (hK2 _ _ _ ?_))
  · have h0 : dayE t day ≠ 0 := by simpa using h
    refine W.seq fun K hK => ?_
    refine W.region (by rfl) ?_
    refine Flow.move (v := .int _ _) rfl ?_
    refine Flow.assignC ?_
    refine Flow.assign (v := .int _ _) rfl ?_
    refine hK _ _ _ ?_
    clear hK K
    exact W.ret ⟨_, res2 rfl (v := .int _ _) (v' := .int _ _) rfl rfl, by rw [lostR, if_neg h0], c12⟩
  · have h0 : dayE t day = 0 := by simpa using h
    obtain ⟨hck, hd⟩ := dayE_ok h0
    have hv := chk_valid hck
    have hs := hv.small
    have hb1 := merit_bd hs
    have hvo := hv.close hd
    have hb2 := merit_bd hvo.small
    have hsf : meritS (shutT t day true) = meritS (closedS t day) := by rw [shut_true hv hd]
    refine W.seq fun K hK => ?_
    refine W.regionD [1, 4, 5] [] (by kernel_rfl) (by kernel_rfl) fun w3 c3 hh3 => ?_
    refine FD.val (fun _ hw => Rn.loadA Tf.ty_25 rfl rfl ((b12.chg c3 (by simp)).cells0) (hw rfl rfl)) ?_
    refine FD.eff (by rfl) (Chg.refl _ _) ?_
    refine Flow.call1 Tf.hb_72 (v1 := .agg _) rfl ?_
    refine Ret.mono (rbest_ok _ t ac af cc cf hv (hC.ext (c12.then c3)) (hF.ext (c12.then c3))) ?_
    rintro _ w4 ⟨rfl, c4⟩
    refine Flow.nil ⟨c4, ?_⟩
    refine FD.val (fun _ hw => Rn.loadA Tf.ty_25 rfl rfl ((b12.chg c3 (by simp)).cells0) (hw rfl rfl)) ?_
    refine FD.val (fun _ hw => Rn.move (v := .int _ _) rfl) ?_
    refine FD.eff (by rfl) (c4) ?_
    refine Flow.call3 Tf.hb_87 (v1 := .agg _) rfl (v2 := .int _ _) rfl (v3 := .bool _) rfl ?_
    refine Ret.mono (rshut_ok _ t ac af cc cf day true hs (hC.ext (c12.then (c3.then c4))) (hF.ext (c12.then (c3.then c4)))) ?_
    rintro _ w5 ⟨c5, a1, k1, rfl, hC5⟩
    refine Flow.nil ⟨c5, ?_⟩
    refine FD.eff (by rfl) ((c4).then c5) ?_
    refine Flow.call1 Tf.hb_72 (v1 := .agg _) rfl ?_
    refine Ret.mono (rbest_ok _ (shutT t day true) a1 af k1 cf (by rw [shut_true hv hd]; exact hvo) hC5 (hF.ext (c12.then (c3.then (c4.then c5))))) ?_
    rintro _ w6 ⟨rfl, c6⟩
    refine Flow.nil ⟨c6, ?_⟩
    refine FD.val (fun _ hw => Rn.sub rfl rfl (by omega) (by omega)) ?_
    refine FD.val (fun _ hw => Rn.assign (v := .int _ _) rfl) ?_
    refine FD.val (fun _ hw => Rn.assignC) ?_
    refine FD.nil ?_
    refine hK _ _ _ ?_
    clear hK K
    exact W.ret ⟨_, res2 rfl (v := .int _ _) (v' := .int _ _) rfl rfl, by rw [lostR, if_pos h0, h0, hsf], c12.then (c3.then (c4.then (c5.then c6)))⟩

end Go.Proofs.YtkoejelglinmnaaGreat

/-
  Contract of the reference: Wider.
-/
namespace Go.Proofs.YtkoejelglinmnaaGreat
open Sg Mm
set_option maxRecDepth 100000

theorem valid_wider {t : Tour} (hv : Valid t) {k : Nat} (hk : k < t.flaws.length) {lo hi : Int} (h : 0 ≤ lo ∧ lo ≤ hi ∧ hi < t.days) : Valid (widerT t k lo hi) := by
  obtain ⟨g, hg⟩ : ∃ g : Flaw, g = { t.flaws[k] with lo := lo, hi := hi } := ⟨_, rfl⟩
  have hwf : (widerT t k lo hi).flaws = t.flaws.set k g := by rw [hg, ← flawAt_nat hk]; rfl
  have hkm := List.getElem_mem hk
  have hor : ∀ f ∈ (widerT t k lo hi).flaws, f ∈ t.flaws ∨ f = g := fun f hf => by rw [hwf] at hf; exact List.mem_or_eq_of_mem_set hf
  have hgi : g.id = t.flaws[k].id := by rw [hg]
  have hgm : g.merit = t.flaws[k].merit := by rw [hg]
  have hgl : g.lo = lo := by rw [hg]
  have hgh : g.hi = hi := by rw [hg]
  refine ⟨hv.d1, hv.d2, hv.cr, hv.cs, by rw [hwf, List.length_set]; exact hv.fn, fun f hf => ?_, fun f hf => ?_, fun f hf => ?_, ?_⟩
  · rcases hor f hf with h' | h'
    · exact hv.fi f h'
    · rw [h', hgi]; exact hv.fi _ hkm
  · rcases hor f hf with h' | h'
    · exact hv.fs f h'
    · rw [h', hgl, hgh]; exact h
  · rcases hor f hf with h' | h'
    · exact hv.fm f h'
    · rw [h', hgm]; exact hv.fm _ hkm
  · rw [hwf, List.map_set]
    have : (t.flaws.map (·.id)).set k g.id = t.flaws.map (·.id) := by
      have e : g.id = (t.flaws.map (·.id))[k]'(by simpa using hk) := by rw [hg]; simp
      rw [e, List.set_getElem_self]
    rw [this]; exact hv.nd

theorem rown_emptyF {w : World} {g : Nat} (h : Blk w g [] 81) : Own w 81 4 (some ⟨g, 0, none⟩) 0 0 [] := ⟨rfl, .inr ⟨g, [], rfl, h, Nat.le_refl _, by decide, rfl, rfl⟩⟩

set_option maxHeartbeats 2000000 in
theorem rWider_ok (w : World) (t : Tour) (ac af : Option Addr) (cc cf : Nat) (id lo hi : Int) (hC : IL w ac t.closed) (hF : FL w af t.flaws) (hcl : t.closed.length ≤ 1000) (hfl : t.flaws.length ≤ 1000) :
    Ret Tryz.prog 28 #[.agg #[.int .i64 t.days, .slice ac t.closed.length cc, .slice af t.flaws.length cf], .int .i64 id, .agg #[.int .i64 lo, .int .i64 hi]] w fun v w' => v = .tuple #[.int .i64 (widerR t id lo hi), .int .i64 (widerE t id lo hi)] ∧ Chg [] w w' := by
  refine Ret.of_W (n := 50) Tryz.func28 rfl rfl (Nat.le_of_ble_eq_true rfl) ?_
  refine W.seq fun K hK => ?_
  refine W.region (by rfl) ?_
  refine Flow.box rfl (cs := [_, _, _]) rfl fun w1 c1 s1 b1 => ?_
  refine Flow.box rfl (cs := [_, _]) rfl fun w2 c2 s2 b2 => ?_
  refine Flow.assignC ?_
  refine Flow.assignC ?_
  refine hK _ _ _ ?_
  clear hK K
  have b12 := b1.chg c2 (by simp)
  have c12 := c1.then c2
  refine W.seq fun K hK => ?_
  refine W.region (by rfl) ?_
  refine Flow.loadA Tf.ty_25 rfl rfl (b12.cells0) ?_
  refine Flow.call1 Tf.hb_56 (v1 := .agg _) rfl ?_
  refine Ret.mono (rcheck_ok _ t ac af cc cf (hC.ext c12) (hF.ext c12) hcl hfl) ?_
  rintro _ w3 ⟨rfl, c3⟩
  refine Flow.assign (v := .int _ _) rfl ?_
  refine hK _ _ _ ?_
  clear hK K
  have c13 := c12.then c3
  have b13 := b12.chg c3 (by simp)
  have b23 := b2.chg c3 (by simp)
  refine W.seq fun K2 hK2 => ?_
  by_cases h0 : chk t = 0
  case neg =>
    refine W.seq fun K hK => ?_
    refine W.region (by rfl) ?_
    refine Flow.move (v := .int _ _) rfl ?_
    refine Flow.eqlD (c := false) rfl rfl (decide_eq_false (by omega)) ?_
    refine Flow.move (v := .bool _) rfl ?_
    refine Flow.off (c := false) rfl rfl rfl ?_
    refine Flow.off (c := false) rfl rfl rfl ?_
    refine Flow.off (c := false) rfl rfl rfl ?_
    refine Flow.off (c := false) rfl rfl rfl ?_
    refine Flow.pickF rfl rfl ?_
    refine hK _ _ _ ?_
    clear hK K
    refine W.cond (t := false) rfl (fun h => by simp at h) (fun _ => W.skip (hK2 _ _ _ ?_))
    refine W.seq fun K4 hK4 => ?_
    refine W.seq fun K hK => ?_
    refine W.region (by rfl) ?_
    refine Flow.move (v := .int _ _) rfl ?_
    refine Flow.eqlD (c := false) rfl rfl (decide_eq_false (by omega)) ?_
    refine Flow.move (v := .bool _) rfl ?_
    refine Flow.off (c := false) rfl rfl rfl ?_
    refine Flow.off (c := false) rfl rfl rfl ?_
    refine Flow.off (c := false) rfl rfl rfl ?_
    refine Flow.off (c := false) rfl rfl rfl ?_
    refine Flow.pickF rfl rfl ?_
    refine hK _ _ _ ?_
    clear hK K
    refine W.cond (t := false) rfl (fun h => by simp at h) (fun _ => W.skip (hK4 _ _ _ ?_))
    refine W.seq fun K6 hK6 => ?_
    refine W.seq fun K hK => ?_
    refine W.region (by rfl) ?_
    refine Flow.move (v := .int _ _) rfl ?_
    refine Flow.neq rfl rfl ?_
    refine hK _ _ _ ?_
    clear hK K
    refine W.cond rfl (fun _ => ?_) (fun h => by simp [h0] at h)
    refine W.seq fun K hK => ?_
    refine W.region (by rfl) ?_
    refine Flow.move (v := .int _ _) rfl ?_
    refine Flow.assignC ?_
    refine Flow.assign (v := .int _ _) rfl ?_
    refine hK _ _ _ ?_
    clear hK K
    exact W.ret ⟨_, res2 rfl (v := .int _ _) (v' := .int _ _) rfl rfl, by rw [widerR, widerE, if_neg h0, if_neg h0], c13⟩
  have hv := chk_valid h0
  have hs := hv.small
  rw [h0]
  refine W.seq fun K hK => ?_
  refine W.region (by rfl) ?_
  refine Flow.move (v := .int _ _) rfl ?_
  refine Flow.eqlD (c := true) rfl rfl (decide_eq_true (by omega)) ?_
  refine Flow.move (v := .bool _) rfl ?_
  refine Flow.on rfl rfl ?_
  refine Flow.loadA Tf.ty_25 rfl rfl (b13.cells0) ?_
  refine Flow.on rfl rfl ?_
  refine Flow.move (v := .int _ _) rfl ?_
  refine Flow.on rfl rfl ?_
  refine Flow.call2 Tf.hb_77 (v1 := .agg _) rfl (v2 := .int _ _) rfl ?_
  refine Ret.mono (rflaw_ok _ t ac af cc cf id (hF.ext c13) hfl) ?_
  rintro _ w4 ⟨rfl, c4⟩
  refine Flow.on rfl rfl ?_
  refine Flow.lss rfl rfl ?_
  refine Flow.pickT rfl rfl ?_
  refine hK _ _ _ ?_
  clear hK K
  have c14 := c13.then c4
  have b14 := b13.chg c4 (by simp)
  have b24 := b23.chg c4 (by simp)
  refine W.cond rfl (fun h => ?_) (fun h => W.skip (hK2 _ _ _ ?_))
  · have h1 : findS id 0 t.flaws < 0 := by simpa using h
    refine W.region (by rfl) ?_
    refine Flow.assignC ?_
    refine Flow.nil (hK2 _ _ _ ?_)
    refine W.seq fun K4 hK4 => ?_
    refine W.seq fun K hK => ?_
    refine W.region (by rfl) ?_
    refine Flow.move (v := .int _ _) rfl ?_
    refine Flow.eqlD (c := false) rfl rfl (decide_eq_false (by omega)) ?_
    refine Flow.move (v := .bool _) rfl ?_
    refine Flow.off (c := false) rfl rfl rfl ?_
    refine Flow.off (c := false) rfl rfl rfl ?_
    refine Flow.off (c := false) rfl rfl rfl ?_
    refine Flow.off (c := false) rfl rfl rfl ?_
    refine Flow.pickF rfl rfl ?_
    refine hK _ _ _ ?_
    clear hK K
    refine W.cond (t := false) rfl (fun h => by simp at h) (fun _ => W.skip (hK4 _ _ _ ?_))
    refine W.seq fun K6 hK6 => ?_
    refine W.seq fun K hK => ?_
    refine W.region (by rfl) ?_
    refine Flow.move (v := .int _ _) rfl ?_
    refine Flow.neq rfl rfl ?_
    refine hK _ _ _ ?_
    clear hK K
    refine W.cond rfl (fun _ => ?_) (fun h => by simp at h)
    refine W.seq fun K hK => ?_
    refine W.region (by rfl) ?_
    refine Flow.move (v := .int _ _) rfl ?_
    refine Flow.assignC ?_
    refine Flow.assign (v := .int _ _) rfl ?_
    refine hK _ _ _ ?_
    clear hK K
    exact W.ret ⟨_, res2 rfl (v := .int _ _) (v' := .int _ _) rfl rfl, by rw [widerR, widerE, if_pos h0, if_pos h0, if_pos h1, if_pos h1], c14⟩
  have h1 : ¬ findS id 0 t.flaws < 0 := by simpa using h
  refine W.seq fun K4 hK4 => ?_
  refine W.seq fun K hK => ?_
  refine W.region (by rfl) ?_
  refine Flow.move (v := .int _ _) rfl ?_
  refine Flow.eqlD (c := true) rfl rfl (decide_eq_true (by omega)) ?_
  refine Flow.move (v := .bool _) rfl ?_
  refine Flow.on rfl rfl ?_
  refine Flow.loadA Tf.ty_25 rfl rfl (b14.cells0) ?_
  refine Flow.on rfl rfl ?_
  refine Flow.loadA Tf.ty_44 rfl rfl (b24.cells0) ?_
  refine Flow.on rfl rfl ?_
  refine Flow.call2 Tf.hb_89 (v1 := .agg _) rfl (v2 := .agg _) rfl ?_
  refine Ret.mono (rspan_ok _ _ _ _ _ _ _ _ _ _) ?_
  rintro _ w5 ⟨rfl, c5⟩
  refine Flow.on rfl rfl ?_
  refine Flow.not rfl ?_
  refine Flow.pickT rfl rfl ?_
  refine hK _ _ _ ?_
  clear hK K
  have c15 := c14.then c5
  have b15 := b14.chg c5 (by simp)
  have b25 := b24.chg c5 (by simp)
  refine W.cond rfl (fun h => ?_) (fun h => W.skip (hK4 _ _ _ ?_))
  · have h2 : ¬ spanOk t.days lo hi = true := by simpa using h
    refine W.region (by rfl) ?_
    refine Flow.assignC ?_
    refine Flow.nil (hK4 _ _ _ ?_)
    refine W.seq fun K6 hK6 => ?_
    refine W.seq fun K hK => ?_
    refine W.region (by rfl) ?_
    refine Flow.move (v := .int _ _) rfl ?_
    refine Flow.neq rfl rfl ?_
    refine hK _ _ _ ?_
    clear hK K
    refine W.cond rfl (fun _ => ?_) (fun h => by simp at h)
    refine W.seq fun K hK => ?_
    refine W.region (by rfl) ?_
    refine Flow.move (v := .int _ _) rfl ?_
    refine Flow.assignC ?_
    refine Flow.assign (v := .int _ _) rfl ?_
    refine hK _ _ _ ?_
    clear hK K
    exact W.ret ⟨_, res2 rfl (v := .int _ _) (v' := .int _ _) rfl rfl, by rw [widerR, widerE, if_pos h0, if_pos h0, if_neg h1, if_neg h1, if_neg h2, if_neg h2], c15⟩
  have h2 : spanOk t.days lo hi = true := by simpa using h
  have hsp : 0 ≤ lo ∧ lo ≤ hi ∧ hi < t.days := by simpa [spanOk] using h2
  refine W.seq fun K6 hK6 => ?_
  refine W.seq fun K hK => ?_
  refine W.region (by rfl) ?_
  refine Flow.move (v := .int _ _) rfl ?_
  refine Flow.neq rfl rfl ?_
  refine hK _ _ _ ?_
  clear hK K
  refine W.cond rfl (fun h => by simp at h) (fun _ => W.skip (hK6 _ _ _ ?_))
  obtain ⟨k, hk⟩ := Int.eq_ofNat_of_zero_le (show 0 ≤ findS id 0 t.flaws by omega)
  have hkl : k < t.flaws.length := by rcases findS_ge id t.flaws with h | h <;> omega
  have e1 : widerR t id lo hi = meritS (widerT t k lo hi) - meritS t := by rw [widerR, if_pos h0, if_neg h1, if_pos h2, hk]; rfl
  have e2 : widerE t id lo hi = 0 := by rw [widerE, if_pos h0, if_neg h1, if_pos h2]
  rw [e1, e2]
  obtain ⟨bf, of_, rfl, hflaw⟩ := (hF.ext c15).get hkl
  refine W.seq fun K hK => ?_
  refine W.region (by rfl) ?_
  refine Flow.loadA Tf.ty_25 rfl rfl (b15.cells0) ?_
  refine Flow.alloc Tf.ty_25 (cs := [_, _, _]) rfl fun w6 c6 s6 b6 => ?_
  refine Flow.store Tf.ty_25 rfl rfl (b6) (vs := [_, _, _]) rfl rfl (by simp) rfl fun w7 c7 s7 b7 => ?_
  refine hK _ _ _ ?_
  clear hK K
  have c57 : Chg [] w5 w7 := c6.step c7 (by simp)
  have b17 := b15.chg c57 (by simp)
  have b27 := b25.chg c57 (by simp)
  have hcells : ∀ w', Chg [] w5 w' → Cells w' bf of_ (flawsC t.flaws) := fun w' h => flawsC_cells.2 fun i hi => Cells.chg h (by simp) (hflaw i hi)
  have hall := flawsC_all t.flaws
  refine W.seq fun K hK => ?_
  refine W.region (by rfl) ?_
  refine Flow.buildSlice0 Tf.sl_23 Tf.us_23 fun w8 c8 s8 b8 => ?_
  refine Flow.fieldAddr Tf.fo_25_2 rfl ?_
  refine Flow.load1 Tf.ty_23 rfl ((b17.chg c8 (by simp)).cell 2) ?_
  refine Flow.append (m := t.flaws.length) (bx := bf) (ox := of_) Tf.sl_23 Tf.us_23 rfl (by decide) rfl rfl (rown_emptyF b8) (hcells _ (c57.then c8)) (flawsC_len _) hall (by omega) (by omega) fun a9 cap9 w9 o9 c9 hd9 hn9 => ?_
  refine Flow.fieldAddr Tf.fo_25_2 rfl ?_
  refine Flow.store1 Tf.ty_23 rfl (v := .slice _ _ _) rfl ((b7.chg c8 (by simp)).chg c9 (fun h => by simp [ownB] at h; omega)) (by simp) rfl fun w10 c10 s10 b10 => ?_
  refine hK _ _ _ ?_
  clear hK K
  have hs8 := c8.size
  have hs57 := c57.size
  have hs9 := c9.size
  have hb9 : ∀ b ∈ ownB a9, w7.heap.size ≤ b := own_in (w := w8) (fun b hb => by simp [ownB] at hb; omega) (by omega) hd9
  have hm9 : MineF w7.heap.size w9 a9 cap9 t.flaws := ⟨by simpa using o9, hb9⟩
  have hm10 := hm9.chg c10 (fun b hb h => by have := hb9 b hb; simp at h; omega)
  obtain ⟨g, ex, rfl, hg, bg, hcap, hmax⟩ := hm10.blk (fun h => by rw [h] at hkl; simp at hkl)
  have hlen : (widerT t k lo hi).flaws.length = t.flaws.length := by simp [widerT]
  have b10 : Blk w10 w5.heap.size [.int .i64 t.days, .slice ac t.closed.length cc, .slice (some ⟨g, 0, none⟩) (widerT t k lo hi).flaws.length cap9] 25 := by rw [hlen]; simpa using b10
  have c510 : Chg [] w5 w10 := ((c57.then c8).step c9 (fun b hb => by simp [ownB] at hb; omega)).step c10 (by simp)
  have c110 := c15.then c510
  have b110 := b15.chg c510 (by simp)
  have b210 := b25.chg c510 (by simp)
  have hs15 := c15.size
  refine W.seq fun K hK => ?_
  refine W.regionD [4, 8] [8] (by kernel_rfl) (by kernel_rfl) fun w11 c11 hh11 => ?_
  refine FD.val (fun _ hw => Rn.fieldAddr Tf.fo_25_2 rfl) ?_
  refine FD.val (fun _ hw => Rn.load1 Tf.ty_23 rfl ((b10.chg c11 (by simp)).cell 2) (hw rfl rfl)) ?_
  refine FD.val (fun _ hw => Rn.loadA Tf.ty_25 rfl rfl ((b110.chg c11 (by simp)).cells0) (hw rfl rfl)) ?_
  refine FD.val (fun _ hw => Rn.move (v := .int _ _) rfl) ?_
  refine FD.eff (by rfl) (Chg.refl _ _) ?_
  refine Flow.call2 Tf.hb_77 (v1 := .agg _) rfl (v2 := .int _ _) rfl ?_
  refine Ret.mono (rflaw_ok _ t ac _ cc cf id (hF.ext (c110.then c11)) hfl) ?_
  rintro _ w12 ⟨rfl, c12'⟩
  refine Flow.nil ⟨c12', ?_⟩
  rw [hk]
  have c1012 := c11.then c12'
  have bg12 := bg.chg c1012 (by simp)
  refine FD.val (fun _ hw => Rn.loadA Tf.ty_44 rfl rfl ((b210.chg c11 (by simp)).cells0) (hw rfl rfl)) ?_
  refine FD.val (fun _ hw => Rn.indexAddr Tf.sl_23 rfl rfl (by omega) (by omega)) ?_
  refine FD.val (fun _ hw => Rn.fieldAddr Tf.fo_81_1 rfl) ?_
  refine FD.hardE (by rfl) (by rfl) ?_
  refine Flow.store Tf.ty_44 rfl rfl (bg12) (vs := [_, _]) rfl rfl (by rw [List.length_append, flawsC_len]; omega) rfl fun w13 c13' s13 b13' => ?_
  refine Flow.nil ?_
  refine FD.nil ?_
  refine hK _ _ _ ?_
  clear hK K
  have e9 : (flawsC t.flaws ++ ex).take (0 + k * 4 + 1) ++ [.int .i64 lo, .int .i64 hi] ++ (flawsC t.flaws ++ ex).drop (0 + k * 4 + 1 + 2) = flawsC (widerT t k lo hi).flaws ++ ex := by
    rw [flawsC_set hkl, widerT, show flawAt t k = t.flaws[k] from flawAt_get (by simpa using hkl)]
  have b13' : Blk w13 g (flawsC (widerT t k lo hi).flaws ++ ex) 81 := by rw [← e9]; exact b13'
  have hm13 : MineF w5.heap.size w13 (some ⟨g, 0, none⟩) cap9 (widerT t k lo hi).flaws := MineF.of_blk (by omega) b13' (by rw [hlen]; exact hcap) hmax
  have hl15 := b15.lt
  have hc5 : w5.heap.size < w7.heap.size := by omega
  have b1013 := (b10.chg c1012 (by simp)).chg c13' (by simp; omega)
  have b1013' := (b110.chg c1012 (by simp)).chg c13' (by simp; omega)
  have hCx := (hC.ext (c110.then c1012)).chg c13' (hC.off (by simp; omega))
  have hFx := (hF.ext (c110.then c1012)).chg c13' (hF.off (by simp; omega))
  have c513 : Chg [] w5 w13 := (c510.then c1012).step c13' (by simp; omega)
  have hv2 := valid_wider hv hkl hsp
  have hmb := merit_bd hs
  have hmb2 := merit_bd hv2.small
  refine W.seq fun K hK => ?_
  refine W.regionD [1, 3] [] (by kernel_rfl) (by kernel_rfl) fun w14 c14' hh14 => ?_
  refine FD.val (fun _ hw => Rn.loadA Tf.ty_25 rfl rfl ((b1013.chg c14' (by simp)).cells0) (hw rfl rfl)) ?_
  refine FD.eff (by rfl) (Chg.refl _ _) ?_
  refine Flow.call1 Tf.hb_72 (v1 := .agg _) rfl ?_
  refine Ret.mono (rbest_ok _ (widerT t k lo hi) ac (some ⟨g, 0, none⟩) cc cap9 hv2 (hCx.ext c14') (hm13.fl.ext c14')) ?_
  rintro _ w15 ⟨rfl, c15'⟩
  refine Flow.nil ⟨c15', ?_⟩
  refine FD.val (fun _ hw => Rn.loadA Tf.ty_25 rfl rfl ((b1013'.chg c14' (by simp)).cells0) (hw rfl rfl)) ?_
  refine FD.eff (by rfl) (c15') ?_
  refine Flow.call1 Tf.hb_72 (v1 := .agg _) rfl ?_
  refine Ret.mono (rbest_ok _ t ac _ cc cf hv (hCx.ext (c14'.then c15')) (hFx.ext (c14'.then c15'))) ?_
  rintro _ w16 ⟨rfl, c16'⟩
  refine Flow.nil ⟨c16', ?_⟩
  refine FD.val (fun _ hw => Rn.sub rfl rfl (by omega) (by omega)) ?_
  refine FD.val (fun _ hw => Rn.assign (v := .int _ _) rfl) ?_
  refine FD.val (fun _ hw => Rn.assignC) ?_
  refine FD.nil ?_
  refine hK _ _ _ ?_
  clear hK K
  exact W.ret ⟨_, res2 rfl (v := .int _ _) (v' := .int _ _) rfl rfl, rfl, (c15.then c513).then (c14'.then (c15'.then c16'))⟩

end Go.Proofs.YtkoejelglinmnaaGreat
