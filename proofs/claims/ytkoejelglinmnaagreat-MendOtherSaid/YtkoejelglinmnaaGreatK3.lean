/-
  Contract: the closure of plan.add.
-/
import Derived.Test.YtkoejelglinmnaaGreatK2
set_option linter.unusedSimpArgs false
set_option linter.unusedVariables false
namespace Go.Proofs.YtkoejelglinmnaaGreat
open Sg
set_option maxRecDepth 100000

/-- What the closure has captured, but for the days tried and who has each day. -/
structure GiveB (w : World) (t : Tour) (ac af : Option Addr) (cc cf pb pl hc gc tb hg : Nat) : Prop where
  p1 : w.cell? ⟨pb, 0, none⟩ = some (.pointer (some ⟨pl, 0, none⟩))
  p2 : Cells w pl 0 [.int .i64 t.days, .slice ac t.closed.length cc, .slice af t.flaws.length cf]
  h1 : w.cell? ⟨hc, 0, none⟩ = some (.slice (some ⟨hg, 0, none⟩) t.days.toNat t.days.toNat)
  g1 : w.cell? ⟨gc, 0, none⟩ = some (.func (.func 141) #[] #[.pointer (some ⟨pb, 0, none⟩), .pointer (some ⟨tb, 0, none⟩), .pointer (some ⟨hc, 0, none⟩), .pointer (some ⟨gc, 0, none⟩)])
  il : IL w ac t.closed
  fl : FL w af t.flaws
  ne : tb ≠ hg
  nd : ∀ b ∈ [pb, pl, hc, gc], b ∉ [tb, hg]
  oc : Off ac t.closed [tb, hg]
  of' : Off af t.flaws [tb, hg]

theorem GiveB.chg {w w' : World} {t : Tour} {ac af : Option Addr} {cc cf pb pl hc gc tb hg : Nat} (h : GiveB w t ac af cc cf pb pl hc gc tb hg) {S : List Nat} (hc' : Chg S w w') (hS : ∀ b ∈ S, b < w.heap.size → b = tb ∨ b = hg) :
    GiveB w' t ac af cc cf pb pl hc gc tb hg := by
  have hc'' : Chg [tb, hg] w w' := hc'.mono (fun b hb hm => by have := hS b hm hb; simpa using this)
  exact ⟨cell_chg h.p1 hc'' (h.nd _ (by simp)), Cells.chg hc'' (h.nd _ (by simp)) h.p2, cell_chg h.h1 hc'' (h.nd _ (by simp)), cell_chg h.g1 hc'' (h.nd _ (by simp)), h.il.chg hc'' h.oc, h.fl.chg hc'' h.of', h.ne, h.nd, h.oc, h.of'⟩

/-- The two blocks that change. -/
def GiveM (w : World) (tb hg : Nat) (has tr : List Int) : Prop := Blk w tb (boolCells 60 fun i => decide ((i : Int) ∈ tr)) 155 ∧ Blk w hg (ints has) 3

theorem GiveM.chg {w w' : World} {tb hg : Nat} {has tr : List Int} (h : GiveM w tb hg has tr) {S : List Nat} (hc : Chg S w w') (h1 : tb ∉ S) (h2 : hg ∉ S) : GiveM w' tb hg has tr := ⟨h.1.chg hc h1, h.2.chg hc h2⟩

theorem adjT_rg {t : Tour} (hs : Small t) {m : Nat} (hm : m = t.flaws.length) {i : Int} (hi : 0 ≤ i ∧ i < m) : ∀ d ∈ adjT t i, 0 ≤ d ∧ d < t.days.toNat := by
  intro d hd
  obtain ⟨h1, h2, _⟩ := mem_opens.1 hd
  have hl : i.toNat < t.flaws.length := by omega
  have he : flawAt t i = t.flaws[i.toNat] := by unfold flawAt; rw [List.getD_eq_getElem?_getD]; simp [hl]
  rw [he] at h1 h2
  have := hs.sp _ (List.getElem_mem hl)
  omega

theorem ints_get {l : List Int} {k : Nat} (h : k < l.length) : (ints l)[k]? = some (.int .i64 (l.getD k (-1))) := by
  rw [List.getD_eq_getElem?_getD]; simp [ints, h]

theorem ints_get0 {l : List Int} {k : Nat} (h : k < l.length) : (ints l)[0 + k]? = some (.int .i64 (l.getD k (-1))) := by
  rw [Nat.zero_add]; exact ints_get h

theorem ints_set (l : List Int) (k : Nat) (i : Int) : (ints l).set k (.int .i64 i) = ints (l.set k i) := by simp [ints, List.map_set]

theorem boolCells_put {n : Nat} {tr : List Int} {x : Int} (hx : 0 ≤ x) : (boolCells n fun i => decide ((i : Int) ∈ tr)).set (0 + x.toNat) (.bool true) = boolCells n fun i => decide ((i : Int) ∈ x :: tr) := by
  rw [Nat.zero_add]
  refine boolCells_set fun j => ?_
  have h0 : ((x.toNat : Nat) : Int) = x := Int.toNat_of_nonneg hx
  simp only [List.mem_cons]
  by_cases e : j = x.toNat
  · subst e; simp [h0]
  · have : ¬ (j : Int) = x := by omega
    simp [e, this]

set_option maxHeartbeats 1600000 in
theorem give_ok (t : Tour) (hs : Small t) (ac af : Option Addr) (cc cf pb pl hc gc tb hg : Nat) : ∀ (f : Nat) (i : Int) (has tr : List Int) (w : World), 0 ≤ i ∧ i < t.flaws.length → GInv t.days.toNat t.flaws.length has tr → t.days.toNat < f + tr.length →
    GiveB w t ac af cc cf pb pl hc gc tb hg → GiveM w tb hg has tr →
    Ret Tryz.prog 141 #[.int .i64 i, .pointer (some ⟨pb, 0, none⟩), .pointer (some ⟨tb, 0, none⟩), .pointer (some ⟨hc, 0, none⟩), .pointer (some ⟨gc, 0, none⟩)] w fun v w' =>
      v = .bool (give (adjT t) f i has tr).1 ∧ GiveM w' tb hg (give (adjT t) f i has tr).2.1 (give (adjT t) f i has tr).2.2 ∧ Chg [tb, hg] w w'
  | 0, i, has, tr, w, _, hI, hf, _, _ => by have := hI.le; omega
  | f + 1, i, has, tr, w, hi, hI, hf, hB, hM => by
    have hcl := hs.cl
    have hdl := hs.dl
    have hdh := hs.dh
    have n1 := hB.ne
    have hil : i.toNat < t.flaws.length := by omega
    have he : flawAt t i = t.flaws[i.toNat] := by unfold flawAt; rw [List.getD_eq_getElem?_getD]; simp [hil]
    have hsp := hs.sp _ (List.getElem_mem hil)
    have htl := hM.1.lt
    have hgl := hM.2.lt
    refine Ret.of_W (n := 45) Tryz.func141 rfl rfl (Nat.le_of_ble_eq_true rfl) ?_
    refine W.seq fun K hK => ?_
    refine W.region (by rfl) ?_
    refine Flow.box rfl (cs := [_]) rfl fun w1 c1 s1 b1 => ?_
    refine Flow.alloc Tf.ty_4 (cs := [_]) rfl fun w2 c2 s2 b2 => ?_
    refine hK _ _ _ ?_
    clear hK K
    refine W.scope ?_
    refine W.seq fun K0 hK0 => ?_
    refine W.label (hK0 _ _ _ ?_)
    refine W.seq fun K1 hK1 => ?_
    have hB2 := hB.chg (c1.then c2) (by simp)
    obtain ⟨bf, of_, rfl, hflaw⟩ := hB2.fl.get hil
    refine W.seq fun K hK => ?_
    refine W.regionD [13] [] (by kernel_rfl) (by kernel_rfl) fun w0 c0 h0 => ?_
    refine FD.val (fun _ hw => Rn.load1 Tf.ty_179 rfl ((hB2.chg c0 (by simp)).p1) (hw rfl rfl)) ?_
    refine FD.val (fun _ hw => Rn.nilCheck rfl) ?_
    refine FD.val (fun _ hw => Rn.fieldAddr Tf.fo_129_0 rfl) ?_
    refine FD.val (fun _ hw => Rn.loadA Tf.ty_25 rfl rfl ((hB2.chg c0 (by simp)).p2) (hw rfl rfl)) ?_
    refine FD.val (fun _ hw => Rn.load1 Tf.ty_179 rfl ((hB2.chg c0 (by simp)).p1) (hw rfl rfl)) ?_
    refine FD.val (fun _ hw => Rn.nilCheck rfl) ?_
    refine FD.val (fun _ hw => Rn.fieldAddr Tf.fo_129_0 rfl) ?_
    refine FD.val (fun _ hw => Rn.fieldAddr Tf.fo_25_2 rfl) ?_
    refine FD.val (fun _ hw => Rn.load1 Tf.ty_23 rfl ((hB2.chg c0 (by simp)).p2.2.2.1) (hw rfl rfl)) ?_
    refine FD.val (fun _ hw => Rn.load1 Tf.ty_3 rfl ((b1.chg (c2.then c0) (by simp)).cell 0) (hw rfl rfl)) ?_
    refine FD.val (fun _ hw => Rn.indexAddr Tf.sl_23 rfl rfl (by omega) (by omega)) ?_
    refine FD.val (fun _ hw => Rn.fieldAddr Tf.fo_81_1 rfl) ?_
    refine FD.val (fun _ hw => Rn.loadA Tf.ty_44 rfl rfl (fSpan (Cells.chg c0 (by simp) (hflaw _ hil))) (hw rfl rfl)) ?_
    refine FD.eff (by rfl) (Chg.refl _ _) ?_
    refine Flow.call2 Tf.hb_79 (v1 := .agg _) rfl (v2 := .agg _) rfl ?_
    refine Ret.mono (open_ok _ t _ _ _ _ _ _ (hB2.chg c0 (by simp)).il (by omega) (by omega)) ?_
    rintro _ w3 ⟨c3, bs, bt, rfl, hO, hl1, hl2, hl3, hl4⟩
    refine Flow.nil ⟨c3, ?_⟩
    refine FD.nil ?_
    refine hK _ _ _ ?_
    clear hK K
    rw [← he] at hO
    have hopen : opens t.closed (flawAt t i).lo (flawAt t i).hi = adjT t i := rfl
    obtain ⟨R, hR0⟩ : ∃ R, R = giveScan (give (adjT t) f) i (adjT t i) has tr := ⟨_, rfl⟩
    have hR : give (adjT t) (f + 1) i has tr = R := hR0.symm
    have c03 : Chg [] w w3 := (c1.then c2).then (c0.then c3)
    have hs0 := c0.size
    have hs3 := c3.size
    have hMB3 : GiveM w3 tb hg has tr := hM.chg c03 (by simp) (by simp)
    have b23 := b2.chg (c0.then c3) (by simp)
    have b13 := b1.chg (c2.then (c0.then c3)) (by simp)
    have hB3 := hB.chg c03 (by simp)
    have hfar : ∀ w6, Chg [tb, hg, w1.heap.size] w3 w6 → Chg [tb, hg] w w6 := fun w6 h => (c03.mono (by simp)).trans h (fun b hb hm => by
      simp only [List.mem_cons, List.not_mem_nil, or_false] at hm ⊢; omega)
    refine W.block ?_
    refine W.range_open (S := [tb, hg, w1.heap.size]) rfl hO (by simp; omega) (by simp; omega) (by simp; omega) ?_
      (fun rest w' => ∃ has' tr', R = giveScan (give (adjT t) f) i rest has' tr' ∧ GInv t.days.toNat t.flaws.length has' tr' ∧ tr.length ≤ tr'.length ∧ GiveM w' tb hg has' tr' ∧ Blk w' w1.heap.size [.bool false] 4)
      (fun w' => R.1 = true ∧ GiveM w' tb hg R.2.1 R.2.2 ∧ Blk w' w1.heap.size [.bool true] 4) (fun _ _ => False)
      (fun x rest e' w' => AllAt e' [(1, .pointer (some ⟨pb, 0, none⟩)), (2, .pointer (some ⟨tb, 0, none⟩)), (3, .pointer (some ⟨hc, 0, none⟩)), (4, .pointer (some ⟨gc, 0, none⟩)), (5, .pointer (some ⟨w.heap.size, 0, none⟩)), (6, .pointer (some ⟨w1.heap.size, 0, none⟩)), (7, .int .i64 x)] ∧
        ∃ has' tr', R = giveScan (give (adjT t) f) i (x :: rest) has' tr' ∧ GInv t.days.toNat t.flaws.length has' tr' ∧ tr.length ≤ tr'.length ∧ GiveM w' tb hg has' tr' ∧ Blk w' w1.heap.size [.bool false] 4)
      ?_ ?_ (fun _ _ _ _ h _ _ => h) ?_ ⟨has, tr, hR0, hI, Nat.le_refl _, hMB3, b23⟩ ?_ ?_ ?_ ?_ (fun _ _ _ _ _ _ _ h => h.elim)
    · intro hne x hx hm
      have h1 := hB3.oc hne x hx
      have h2 := (hB.il.lt hne) x hx
      simp only [List.mem_cons, List.not_mem_nil, or_false] at hm h1
      omega
    · rintro rest T w6 w7 ⟨has', tr', h1, h2, h3, h4, h5⟩ hT hTb
      exact ⟨has', tr', h1, h2, h3, h4.chg hT (fun h => by have := hTb _ h; omega) (fun h => by have := hTb _ h; omega), h5.chg hT (fun h => by have := hTb _ h; omega)⟩
    · rintro T w6 w7 ⟨h1, h4, h5⟩ hT hTb
      exact ⟨h1, h4.chg hT (fun h => by have := hTb _ h; omega) (fun h => by have := hTb _ h; omega), h5.chg hT (fun h => by have := hTb _ h; omega)⟩
    · rintro x rest e' l w6 w7 hl _ _ ⟨hE, has', tr', h1, h2, h3, h4, h5⟩ hT _
      exact ⟨hE, has', tr', h1, h2, h3, h4.chg hT (by simp; omega) (by simp; omega), h5.chg hT (by simp; omega)⟩
    · rintro x rest l w6 _ _ _ h _ _ _
      refine W.region (by rfl) ?_
      refine Flow.assign (v := .int _ _) rfl ?_
      exact Flow.nil ⟨Chg.refl _ _, ⟨rfl, rfl, rfl, rfl, rfl, rfl, rfl, trivial⟩, h⟩
    · rintro x rest l w6 ds6 e6 hl hll hc6 ⟨hE, has', tr', h1, h2, h3, h4, h5⟩ hx1 hx2 hx3
      obtain ⟨e6, rfl⟩ : ∃ e0, e6 = putL e0 _ := ⟨e6, putL_self hE⟩
      clear hE
      rw [he] at hx2 hx3
      have c06 : Chg [tb, hg] w w6 := hfar w6 hc6
      have hB6 := hB.chg c06 (by simp)
      have b16 := b13.chg hc6 (by simp; omega)
      have h0 : ((x.toNat : Nat) : Int) = x := Int.toNat_of_nonneg (by omega)
      have hxl : x.toNat < has'.length := by rw [h2.len]; omega
      rw [giveScan_cons] at h1
      refine W.block ?_
      refine W.seq fun K3 hK3 => ?_
      refine W.seq fun K hK => ?_
      refine W.region (by rfl) ?_
      refine Flow.move (v := .int _ _) rfl ?_
      refine Flow.indexAddrA Tf.ua_155 rfl rfl (by omega) (by omega) ?_
      refine Flow.load1 Tf.ty_4 rfl ((h4.1.cell _).trans (boolCells_get (by omega))) ?_
      refine hK _ _ _ ?_
      clear hK K
      refine W.cond rfl (fun h => W.exit ?_) (fun h => W.skip (hK3 _ _ _ ?_))
      · have hm : x ∈ tr' := by simpa [h0] using h
        rw [if_pos hm] at h1
        exact ⟨Chg.refl _ _, has', tr', h1, h2, h3, h4, h5⟩
      have hm : x ∉ tr' := by simpa [h0] using h
      rw [if_neg hm] at h1
      refine W.seq fun K hK => ?_
      refine W.region (by rfl) ?_
      refine Flow.move (v := .int _ _) rfl ?_
      refine Flow.indexAddrA Tf.ua_155 rfl rfl (by omega) (by omega) ?_
      refine Flow.store1 Tf.ty_4 rfl (v := .bool _) rfl (h4.1) (by simp [boolCells_len]; omega) rfl fun w7 c7 s7 b7 => ?_
      refine hK _ _ _ ?_
      clear hK K
      rw [boolCells_put (by omega)] at b7
      have hM7 : GiveM w7 tb hg has' (x :: tr') := ⟨b7, h4.2.chg c7 (by simp; omega)⟩
      have hB7 := hB6.chg c7 (by simp)
      have b17 := b16.chg c7 (by simp; omega)
      have h57 := h5.chg c7 (by simp; omega)
      have hI7 : GInv t.days.toNat t.flaws.length has' (x :: tr') := h2.cons (by omega) hm
      by_cases hd0 : has'.getD x.toNat (-1) < 0
      · rw [if_pos hd0] at h1
        refine W.seq fun K hK => ?_
        refine W.regionD [11] [] (by kernel_rfl) (by kernel_rfl) fun w8 c8 h8 => ?_
        refine FD.val (fun _ hw => Rn.load1 Tf.ty_22 rfl ((hB7.chg c8 (by simp)).h1) (hw rfl rfl)) ?_
        refine FD.val (fun _ hw => Rn.move (v := .int _ _) rfl) ?_
        refine FD.val (fun _ hw => Rn.indexAddr1 Tf.sl_22 rfl rfl (by omega) (by omega)) ?_
        refine FD.val (fun _ hw => Rn.load1 Tf.ty_3 rfl (((hM7.2.chg c8 (by simp)).cell _).trans (ints_get0 hxl)) (hw rfl rfl)) ?_
        refine FD.val (fun _ hw => Rn.lssD (c := true) rfl rfl (decide_eq_true (by omega))) ?_
        refine FD.val (fun _ hw => Rn.move (v := .bool _) rfl) ?_
        refine FD.off (c := true) rfl rfl rfl ?_
        refine FD.off (c := true) rfl rfl rfl ?_
        refine FD.off (c := true) rfl rfl rfl ?_
        refine FD.off (c := true) rfl rfl rfl ?_
        refine FD.off (c := true) rfl rfl rfl ?_
        refine FD.off (c := true) rfl rfl rfl ?_
        refine FD.val (fun _ hw => Rn.pickT rfl rfl) ?_
        refine FD.nil ?_
        refine hK _ _ _ ?_
        clear hK K
        refine W.cond (t := true) rfl (fun _ => ?_) (fun h => by simp at h)
        have hM8 := hM7.chg c8 (by simp) (by simp)
        refine W.seq fun K hK => ?_
        refine W.region (by rfl) ?_
        refine Flow.load1 Tf.ty_22 rfl ((hB7.chg c8 (by simp)).h1) ?_
        refine Flow.move (v := .int _ _) rfl ?_
        refine Flow.load1 Tf.ty_3 rfl ((b17.chg c8 (by simp)).cell 0) ?_
        refine Flow.indexAddr1 Tf.sl_22 rfl rfl (by omega) (by omega) ?_
        refine Flow.store1 Tf.ty_3 rfl (v := .int _ _) rfl (hM8.2) (by simp [ints]; omega) rfl fun w9 c9 s9 b9 => ?_
        refine hK _ _ _ ?_
        clear hK K
        rw [Nat.zero_add, ints_set] at b9
        refine W.seq fun K hK => ?_
        refine W.region (by rfl) ?_
        refine Flow.store1 Tf.ty_4 rfl (v := .bool _) rfl ((h57.chg c8 (by simp)).chg c9 (by simp; omega)) (by simp) rfl fun w10 c10 s10 b10 => ?_
        refine hK _ _ _ ?_
        clear hK K
        have cc7 : Chg [tb, hg, w1.heap.size] w6 w10 := (((c7.mono (by simp; omega)).trans (c8.mono (T := [tb, hg, w1.heap.size]) (by simp)) (fun _ _ h => h)).trans (c9.mono (T := [tb, hg, w1.heap.size]) (by simp; omega)) (fun _ _ h => h)).trans c10 (fun b _ hm => by simp at hm; simp [hm])
        refine W.ret ⟨cc7, by rw [h1], ?_, b10⟩
        rw [h1]
        exact ⟨(hM8.1.chg c9 (by simp; omega)).chg c10 (by simp; omega), b9.chg c10 (by simp; omega)⟩
      · rw [if_neg hd0] at h1
        have hget := h2.get (d := x) (by omega) (by omega) hd0
        refine W.seq fun K hK => ?_
        refine W.regionD [11] [11] (by kernel_rfl) (by kernel_rfl) fun w8 c8 h8 => ?_
        refine FD.val (fun _ hw => Rn.load1 Tf.ty_22 rfl ((hB7.chg c8 (by simp)).h1) (hw rfl rfl)) ?_
        refine FD.val (fun _ hw => Rn.move (v := .int _ _) rfl) ?_
        refine FD.val (fun _ hw => Rn.indexAddr1 Tf.sl_22 rfl rfl (by omega) (by omega)) ?_
        refine FD.val (fun _ hw => Rn.load1 Tf.ty_3 rfl (((hM7.2.chg c8 (by simp)).cell _).trans (ints_get0 hxl)) (hw rfl rfl)) ?_
        refine FD.val (fun _ hw => Rn.lssD (c := false) rfl rfl (decide_eq_false (by omega))) ?_
        refine FD.val (fun _ hw => Rn.move (v := .bool _) rfl) ?_
        refine FD.on rfl rfl ?_
        refine FD.val (fun _ hw => Rn.load1 Tf.ty_120 rfl ((hB7.chg c8 (by simp)).g1) (hw rfl rfl)) ?_
        refine FD.on rfl rfl ?_
        refine FD.val (fun _ hw => Rn.load1 Tf.ty_22 rfl ((hB7.chg c8 (by simp)).h1) (hw rfl rfl)) ?_
        refine FD.on rfl rfl ?_
        refine FD.val (fun _ hw => Rn.move (v := .int _ _) rfl) ?_
        refine FD.on rfl rfl ?_
        refine FD.val (fun _ hw => Rn.indexAddr1 Tf.sl_22 rfl rfl (by omega) (by omega)) ?_
        refine FD.on rfl rfl ?_
        refine FD.val (fun _ hw => Rn.load1 Tf.ty_3 rfl (((hM7.2.chg c8 (by simp)).cell _).trans (ints_get0 hxl)) (hw rfl rfl)) ?_
        refine FD.on rfl rfl ?_
        refine FD.hardE (by rfl) (by rfl) ?_
        refine Flow.callV1 rfl Tf.hb_141 (v1 := .int _ _) rfl ?_
        refine Ret.mono (give_ok t hs ac _ cc cf pb pl hc gc tb hg f _ has' (x :: tr') w8 hget hI7 (by simp; omega) (hB7.chg c8 (by simp)) (hM7.chg c8 (by simp) (by simp))) ?_
        rintro _ w9 ⟨rfl, hM9, c9⟩
        refine Flow.nil ?_
        refine FD.val (fun _ hw => Rn.pickF rfl rfl) ?_
        refine FD.nil ?_
        refine hK _ _ _ ?_
        clear hK K
        obtain ⟨g1, g2⟩ := give_inv (adj := adjT t) (fun _ h => adjT_rg hs rfl h) f (has'.getD x.toNat (-1)) has' (x :: tr') hget hI7
        simp only [List.length_cons] at g2
        have c79 : Chg [tb, hg] w7 w9 := (c8.mono (by simp)).trans c9 (fun _ _ h => h)
        have cc9 : Chg [tb, hg, w1.heap.size] w6 w9 := (c7.mono (by simp; omega)).trans c79 (by simp; omega)
        have h59 := h57.chg c79 (by simp; omega)
        refine W.cond rfl (fun hg' => ?_) (fun hg' => W.skip ?_)
        · rw [if_pos hg'] at h1
          refine W.seq fun K hK => ?_
          refine W.region (by rfl) ?_
          refine Flow.load1 Tf.ty_22 rfl ((hB7.chg c79 (by simp)).h1) ?_
          refine Flow.move (v := .int _ _) rfl ?_
          refine Flow.load1 Tf.ty_3 rfl ((b17.chg c79 (by simp; omega)).cell 0) ?_
          refine Flow.indexAddr1 Tf.sl_22 rfl rfl (by omega) (by omega) ?_
          refine Flow.store1 Tf.ty_3 rfl (v := .int _ _) rfl (hM9.2) (by rw [Nat.zero_add, ints, List.length_map, g1.len]; omega) rfl fun w10 c10 s10 b10 => ?_
          refine hK _ _ _ ?_
          clear hK K
          rw [Nat.zero_add, ints_set] at b10
          refine W.seq fun K hK => ?_
          refine W.region (by rfl) ?_
          refine Flow.store1 Tf.ty_4 rfl (v := .bool _) rfl (h59.chg c10 (by simp; omega)) (by simp) rfl fun w11 c11 s11 b11 => ?_
          refine hK _ _ _ ?_
          clear hK K
          refine W.ret ⟨(cc9.trans (c10.mono (T := [tb, hg, w1.heap.size]) (by simp; omega)) (fun _ _ h => h)).trans c11 (fun b _ hm => by simp at hm; simp [hm]), by rw [h1], ?_, b11⟩
          rw [h1]
          exact ⟨(hM9.1.chg c10 (by simp; omega)).chg c11 (by simp; omega), b10.chg c11 (by simp; omega)⟩
        · rw [if_neg (by rw [hg']; simp)] at h1
          exact ⟨cc9, _, _, h1, g1, by omega, hM9, h59⟩
    · rintro w6 D hc6 hD hDl hDc ⟨has', tr', h1, h2, h3, h4, h5⟩
      refine hK1 _ _ _ ?_
      refine W.seq fun K hK => ?_
      refine W.region (by rfl) ?_
      refine Flow.store1 Tf.ty_4 rfl (v := .bool _) rfl (h5) (by simp) rfl fun w7 c7 s7 b7 => ?_
      refine hK _ _ _ ?_
      clear hK K
      have c8 := Chg.putObj w7 D (.deferred none)
      have hD7 : w7.heap[D]? = some (.deferred (some [])) := (c7.same D hDl (by simp; omega)).trans hDc
      refine W.ret ⟨hD7, _, resG1 rfl (OneR.cell1 Tf.ty_4 rfl ((b7.chg c8 (by simp; omega)).cell 0)), by rw [hR, h1]; rfl, ?_, ?_⟩
      · rw [hR, h1]; exact (h4.chg c7 (by simp; omega) (by simp; omega)).chg c8 (by simp; omega) (by simp; omega)
      · exact ((hfar w6 hc6).trans c7 (fun b hb hm => by simp at hm; omega)).trans c8 (fun b hb hm => by simp at hm; omega)
    · rintro w6 D hc6 hD hDl hDc ⟨h1, h4, h5⟩
      have c7 := Chg.putObj w6 D (.deferred none)
      refine ⟨hDc, _, resG1 rfl (OneR.cell1 Tf.ty_4 rfl ((h5.chg c7 (by simp; omega)).cell 0)), by rw [hR, h1], by rw [hR]; exact h4.chg c7 (by simp; omega) (by simp; omega), ?_⟩
      exact (hfar w6 hc6).trans c7 (fun b hb hm => by simp at hm; omega)

end Go.Proofs.YtkoejelglinmnaaGreat

/-
  Contracts: plan.add, plan.on, plan.merit.
-/
namespace Go.Proofs.YtkoejelglinmnaaGreat
open Sg
set_option maxRecDepth 100000

/-- A plan in a cell of the call's own. -/
def PlanM (s : Nat) (w : World) (t : Tour) (ac af : Option Addr) (cc cf pl : Nat) (has : List Int) : Prop :=
  s ≤ pl ∧ ∃ g, s ≤ g ∧ pl ≠ g ∧ Blk w pl [.int .i64 t.days, .slice ac t.closed.length cc, .slice af t.flaws.length cf, .slice (some ⟨g, 0, none⟩) t.days.toNat t.days.toNat] 129 ∧ Blk w g (ints has) 3

theorem PlanM.chg {s : Nat} {w w' : World} {t : Tour} {ac af : Option Addr} {cc cf pl : Nat} {has : List Int} {S : List Nat} (h : PlanM s w t ac af cc cf pl has) (hc : Chg S w w') (hS : ∀ b ∈ S, b < s ∨ w.heap.size ≤ b) : PlanM s w' t ac af cc cf pl has := by
  obtain ⟨h1, g, h2, h3, h4, h5⟩ := h
  have l4 := h4.lt
  have l5 := h5.lt
  exact ⟨h1, g, h2, h3, h4.chg hc (fun h => by have := hS _ h; omega), h5.chg hc (fun h => by have := hS _ h; omega)⟩

set_option maxHeartbeats 1000000 in
theorem add_ok (s : Nat) (w : World) (t : Tour) (hs : Small t) (ac af : Option Addr) (cc cf pl : Nat) (has : List Int) (i : Int) (hC : IL w ac t.closed) (hF : FL w af t.flaws) (hi : 0 ≤ i ∧ i < t.flaws.length) (hsw : s ≤ w.heap.size)
    (hI : GInv t.days.toNat t.flaws.length has []) (hP : PlanM s w t ac af cc cf pl has) :
    Ret Tryz.prog 99 #[.pointer (some ⟨pl, 0, none⟩), .int .i64 i] w fun v w' =>
      v = .bool (addS (adjT t) fuel has i).isSome ∧ PlanM s w' t ac af cc cf pl ((addS (adjT t) fuel has i).getD has) ∧ Chg [pl] w w' := by
  have hdl := hs.dl
  have hdh := hs.dh
  obtain ⟨hspl, g, hsg, hplg, hp, hg⟩ := hP
  have hpl := hp.lt
  have hgl := hg.lt
  have hlen : (ints has).length = t.days.toNat := by rw [ints, List.length_map, hI.len]
  refine Ret.of_W (n := 29) Tryz.func99 rfl rfl (Nat.le_of_ble_eq_true rfl) ?_
  refine W.seq fun K hK => ?_
  refine W.region (by rfl) ?_
  refine Flow.box rfl (cs := [_]) rfl fun w1 c1 s1 b1 => ?_
  refine Flow.assignC ?_
  refine hK _ _ _ ?_
  clear hK K
  refine W.seq fun K hK => ?_
  refine W.region (by rfl) ?_
  refine Flow.load1 Tf.ty_179 rfl (b1.cell 0) ?_
  refine Flow.nilCheck rfl ?_
  refine Flow.fieldAddr Tf.fo_129_1 rfl ?_
  refine Flow.load1 Tf.ty_22 rfl ((hp.chg c1 (by simp)).cell 3) ?_
  refine Flow.len rfl Tf.us_22 rfl rfl ?_
  refine Flow.makeSlice Tf.sl_22 Tf.us_22 (c0 := .int .i64 0) rfl (by decide) rfl rfl (by omega) (by omega) fun w2 c2 s2 b2 => ?_
  refine Flow.alloc Tf.ty_22 (cs := [_]) rfl fun w3 c3 s3 b3 => ?_
  refine Flow.store1 Tf.ty_22 rfl (v := .slice _ _ _) rfl (b3) (by simp) rfl fun w4 c4 s4 b4 => ?_
  refine hK _ _ _ ?_
  clear hK K
  rw [Nat.mul_one] at b2
  have b24 := (b2.chg c3 (by simp)).chg c4 (by simp; omega)
  have c14 : Chg [] w1 w4 := (c2.then c3).step c4 (by simp; omega)
  have b14 := b1.chg c14 (by simp)
  have hp4 := hp.chg (c1.then c14) (by simp)
  have hg4 := hg.chg (c1.then c14) (by simp)
  refine W.seq fun K hK => ?_
  refine W.regionD [5] [5] (by kernel_rfl) (by kernel_rfl) fun w0 c0 h0 => ?_
  refine FD.val (fun _ hw => Rn.load1 Tf.ty_22 rfl ((b4.chg c0 (by simp)).cell 0) (hw rfl rfl)) ?_
  refine FD.val (fun _ hw => Rn.load1 Tf.ty_179 rfl ((b14.chg c0 (by simp)).cell 0) (hw rfl rfl)) ?_
  refine FD.val (fun _ hw => Rn.nilCheck rfl) ?_
  refine FD.val (fun _ hw => Rn.fieldAddr Tf.fo_129_1 rfl) ?_
  refine FD.val (fun _ hw => Rn.load1 Tf.ty_22 rfl ((hp4.chg c0 (by simp)).cell 3) (hw rfl rfl)) ?_
  refine FD.hardE (by rfl) (by rfl) ?_
  refine Flow.copy (el := 0) Tf.sl_22 rfl rfl (b24.chg c0 (by simp)) (Blk.cells0 (hg4.chg c0 (by simp))) (by rw [hlen, Nat.min_self]) (by simp [hlen]) (by simp [ints, oneV]) fun w5 c5 s5 b5 => ?_
  refine Flow.nil ?_
  refine FD.nil ?_
  refine hK _ _ _ ?_
  clear hK K
  have e5 : List.take 0 (List.replicate t.days.toNat (Value.int .i64 0)) ++ ints has ++ List.drop (0 + (ints has).length) (List.replicate t.days.toNat (Value.int .i64 0)) = ints has := by
    rw [hlen]; simp
  rw [e5] at b5
  have s0 := c0.size
  have c45 : Chg [w1.heap.size] w4 w5 := (c0.mono (by simp)).trans c5 (fun _ _ h => h)
  refine W.seq fun K hK => ?_
  refine W.region (by rfl) ?_
  refine Flow.alloc Tf.ty_155 (cs := List.replicate 60 (.bool false)) (by simp [Value.cells]) fun w6 c6 s6 b6 => ?_
  refine hK _ _ _ ?_
  clear hK K
  rw [boolCells_none] at b6
  refine W.seq fun K hK => ?_
  refine W.region (by rfl) ?_
  refine Flow.alloc Tf.ty_120 (cs := [_]) rfl fun w7 c7 s7 b7 => ?_
  refine hK _ _ _ ?_
  clear hK K
  refine W.seq fun K hK => ?_
  refine W.region (by rfl) ?_
  refine Flow.makeFunc4 rfl rfl rfl rfl ?_
  refine Flow.store1 Tf.ty_120 rfl (v := .func _ _ _) rfl (b7) (by simp) rfl fun w8 c8 s8 b8 => ?_
  refine hK _ _ _ ?_
  clear hK K
  have c58 : Chg [] w5 w8 := (c6.then c7).step c8 (by simp; omega)
  have c18 : Chg [] w1 w8 := (c14.step c45 (by simp)).then c58
  have c08 : Chg [] w w8 := c1.then c18
  have hhead : t.days.toNat < fuel + ([] : List Int).length := by simp [fuel]; omega
  have hB : GiveB w8 t ac af cc cf w.heap.size pl w2.heap.size w6.heap.size w5.heap.size w1.heap.size := by
    refine ⟨(b1.chg c18 (by simp)).cell 0, ?_, ((b4.chg c45 (by simp; omega)).chg c58 (by simp)).cell 0, b8.cell 0, hC.ext c08, hF.ext c08, by omega, ?_, ?_, ?_⟩
    · have := (hp.chg c08 (by simp)).cells0
      exact ⟨this.1, this.2.1, this.2.2.1, trivial⟩
    · intro b hb; simp only [List.mem_cons, List.not_mem_nil, or_false] at hb ⊢; omega
    · exact hC.off (by simp; omega)
    · exact hF.off (by simp; omega)
  have hM : GiveM w8 w5.heap.size w1.heap.size has [] := ⟨by simpa using (b6.chg c7 (by simp)).chg c8 (by simp; omega), b5.chg c58 (by simp)⟩
  refine W.seq fun K6 hK6 => ?_
  refine W.seq fun K hK => ?_
  refine W.region (by rfl) ?_
  refine Flow.load1 Tf.ty_120 rfl (b8.cell 0) ?_
  refine Flow.move (v := .int _ _) rfl ?_
  refine Flow.callV1 rfl Tf.hb_141 (v1 := .int _ _) rfl ?_
  refine Ret.mono (give_ok t hs ac af cc cf w.heap.size pl w2.heap.size w6.heap.size w5.heap.size w1.heap.size fuel i has [] w8 hi hI hhead hB hM) ?_
  rintro _ w9 ⟨rfl, hM9, c9⟩
  refine Flow.not rfl ?_
  refine hK _ _ _ ?_
  clear hK K
  have c09 : Chg [] w w9 := c08.step c9 (by simp; omega)
  refine W.cond rfl (fun h => ?_) (fun h => W.skip (hK6 _ _ _ ?_))
  · have hno : addS (adjT t) fuel has i = none := by unfold addS; rw [if_neg (by simpa using h)]
    refine W.seq fun K hK => ?_
    refine W.region (by rfl) ?_
    refine Flow.assignC ?_
    refine hK _ _ _ ?_
    clear hK K
    refine W.ret ⟨_, res1 rfl (v := .bool _) rfl, by rw [hno]; rfl, ⟨hspl, g, hsg, hplg, ?_⟩, c09.mono (by simp)⟩
    rw [hno]
    exact ⟨hp.chg c09 (by simp), hg.chg c09 (by simp)⟩
  · have hyes : addS (adjT t) fuel has i = some (give (adjT t) fuel i has []).2.1 := by unfold addS; rw [if_pos (by simpa using h)]
    have hp9 := hp.chg c09 (by simp)
    refine W.seq fun K hK => ?_
    refine W.region (by rfl) ?_
    refine Flow.load1 Tf.ty_179 rfl (((b1.chg c18 (by simp)).chg c9 (by simp; omega)).cell 0) ?_
    refine Flow.load1 Tf.ty_22 rfl ((((b4.chg c45 (by simp; omega)).chg c58 (by simp)).chg c9 (by simp; omega)).cell 0) ?_
    refine Flow.nilCheck rfl ?_
    refine Flow.fieldAddr Tf.fo_129_1 rfl ?_
    refine Flow.store1 Tf.ty_22 rfl (v := .slice _ _ _) rfl (hp9) (by simp) rfl fun w10 c10 s10 b10 => ?_
    refine hK _ _ _ ?_
    clear hK K
    refine W.seq fun K hK => ?_
    refine W.region (by rfl) ?_
    refine Flow.assignC ?_
    refine hK _ _ _ ?_
    clear hK K
    refine W.ret ⟨_, res1 rfl (v := .bool _) rfl, by rw [hyes]; rfl, ⟨hspl, w1.heap.size, by omega, by omega, b10, ?_⟩, (c09.mono (by simp)).trans c10 (fun _ _ h => h)⟩
    rw [hyes]
    exact hM9.2.chg c10 (by simp; omega)

theorem flawAt_get {t : Tour} {i : Int} (h : i.toNat < t.flaws.length) : flawAt t i = t.flaws[i.toNat] := by
  unfold flawAt; rw [List.getD_eq_getElem?_getD]; simp [h]

/-- Who has each day: places of flaws, or -1. -/
def HasOk (t : Tour) (has : List Int) : Prop := ∀ x ∈ has, x = -1 ∨ (0 ≤ x ∧ x < t.flaws.length)

theorem on_ok (w : World) (t : Tour) (ac af : Option Addr) (cc cf : Nat) (hs : Small t) (ah : Option Addr) (nh ch : Nat) (has : List Int) (hH : IL w ah has) (hl : has.length = nh) (hn : nh ≤ 1000) (hok : HasOk t has) :
    Ret Tryz.prog 145 #[.agg #[.int .i64 t.days, .slice ac t.closed.length cc, .slice af t.flaws.length cf, .slice ah nh ch]] w fun v w' =>
      Chg [] w w' ∧ ∃ g, v = .slice (some ⟨g, 0, none⟩) t.flaws.length t.flaws.length ∧ w.heap.size ≤ g ∧ Blk w' g (ints (onOf t.flaws.length has)) 3 := by
  have hfl := hs.fl
  subst hl
  refine Ret.of_W (n := 28) Tryz.func145 rfl rfl (Nat.le_of_ble_eq_true rfl) ?_
  refine W.seq fun K hK => ?_
  refine W.region (by rfl) ?_
  refine Flow.box rfl (cs := [_, _, _, _]) rfl fun w1 c1 s1 b1 => ?_
  refine Flow.assignC ?_
  refine hK _ _ _ ?_
  clear hK K
  refine W.seq fun K hK => ?_
  refine W.region (by rfl) ?_
  refine Flow.buildSlice1 Tf.sl_22 Tf.us_22 rfl (by decide) (by decide) rfl (cs := [_]) rfl rfl fun w2 c2 s2 b2 => ?_
  refine Flow.fieldAddr Tf.fo_129_0 rfl ?_
  refine Flow.fieldAddr Tf.fo_25_2 rfl ?_
  refine Flow.load1 Tf.ty_23 rfl ((b1.chg c2 (by simp)).cell 2) ?_
  refine Flow.len rfl Tf.us_23 rfl rfl ?_
  refine Flow.call2 Tf.hb_114 (v1 := .slice _ _ _) rfl (v2 := .int _ _) rfl ?_
  refine Ret.mono (repeat_ok _ _ _ _ _ _ (b2.cell 0) (by omega)) ?_
  rintro _ w3 ⟨c3, g, rfl, hg, b3⟩
  refine Flow.assign (v := .slice _ _ _) rfl ?_
  refine hK _ _ _ ?_
  clear hK K
  refine W.seq fun K2 hK2 => ?_
  have b13 := b1.chg (c2.then c3) (by simp)
  refine W.seq fun K hK => ?_
  refine W.region (by rfl) ?_
  refine Flow.fieldAddr Tf.fo_129_1 rfl ?_
  refine Flow.load1 Tf.ty_22 rfl (b13.cell 3) ?_
  refine Flow.len rfl Tf.us_22 rfl rfl ?_
  refine Flow.moveC ?_
  refine hK _ _ _ ?_
  clear hK K
  refine W.block ?_
  refine W.loop (ι := Nat × List Int) (fun k ds e w' => ds = [] ∧ k.1 ≤ has.length ∧ AllAt e [(3, .slice (some ⟨g, 0, none⟩) t.flaws.length t.flaws.length), (13, .slice ah has.length ch), (14, .int .i64 has.length), (15, .int .i64 k.1)] ∧
      Chg [] w w' ∧ Blk w' g (ints k.2) 3 ∧ k.2.length = t.flaws.length ∧ onOf t.flaws.length has = onF k.2 k.1 (has.drop k.1))
    (fun k => has.length - k.1) (i0 := (0, List.replicate t.flaws.length (-1))) ⟨rfl, by omega, ⟨rfl, rfl, rfl, rfl, trivial⟩, (c1.then c2).then c3, b3, by simp, by simp [onOf]⟩ ?_
  rintro ⟨k, out⟩ ds e w' ⟨rfl, hk, hE, hc, hb, hol, hw⟩
  obtain ⟨e, rfl⟩ : ∃ e0, e = putL e0 _ := ⟨e, putL_self hE⟩
  clear hE
  simp only at hk hw hb hol ⊢
  refine W.seq fun K hK => ?_
  refine W.region (by rfl) ?_
  refine Flow.lss rfl rfl ?_
  refine hK _ _ _ ?_
  clear hK K
  refine W.seq fun K3 hK3 => ?_
  refine W.cond rfl (fun h => W.skip (hK3 _ _ _ ?_)) (fun h => W.exit ?_)
  · have hlt : k < has.length := by simpa using h
    obtain ⟨b, o, rfl, hcell⟩ := (hH.ext hc).get hlt
    have hx := hok _ (List.getElem_mem hlt)
    rw [List.drop_eq_getElem_cons hlt, onF] at hw
    refine W.seq fun K4 hK4 => ?_
    refine W.block ?_
    refine W.seq fun K hK => ?_
    refine W.region (by rfl) ?_
    refine Flow.move (v := .int _ _) rfl ?_
    refine Flow.indexAddr1 Tf.sl_22 rfl rfl (by omega) (by omega) ?_
    refine Flow.load1 Tf.ty_3 rfl (hcell k hlt) ?_
    refine Flow.assign (v := .int _ _) rfl ?_
    refine Flow.assign (v := .int _ _) rfl ?_
    refine hK _ _ _ ?_
    clear hK K
    refine W.seq fun K hK => ?_
    refine W.region (by rfl) ?_
    refine Flow.move (v := .int _ _) rfl ?_
    refine Flow.geq rfl rfl ?_
    refine hK _ _ _ ?_
    clear hK K
    refine W.cond rfl (fun h => ?_) (fun h => W.skip (hK4 _ _ _ ?_))
    · have h0 : 0 ≤ has[k] := by simpa using h
      rw [if_pos h0] at hw
      refine W.region (by rfl) ?_
      refine Flow.move (v := .slice _ _ _) rfl ?_
      refine Flow.move (v := .int _ _) rfl ?_
      refine Flow.move (v := .int _ _) rfl ?_
      refine Flow.indexAddr1 Tf.sl_22 rfl rfl (by omega) (by omega) ?_
      refine Flow.store1 Tf.ty_3 rfl (v := .int _ _) rfl (hb) (by rw [Nat.zero_add, ints, List.length_map, hol]; omega) rfl fun w5 c5 s5 b5 => ?_
      rw [Nat.zero_add, ints_set] at b5
      refine Flow.nil (hK4 _ _ _ ?_)
      refine W.region (by rfl) ?_
      refine Flow.add rfl rfl (by omega) (by omega) ?_
      refine Flow.move (v := .int _ _) rfl ?_
      exact Flow.nil ⟨(k + 1, out.set has[k].toNat k), by simp only; omega, rfl, by simp only; omega, ⟨rfl, rfl, rfl, rfl, trivial⟩, hc.step c5 (by have := c1.size; have := c2.size; simp; omega), b5, by simp [hol], hw⟩
    · have h0 : ¬ 0 ≤ has[k] := by simpa using h
      rw [if_neg h0] at hw
      refine W.region (by rfl) ?_
      refine Flow.add rfl rfl (by omega) (by omega) ?_
      refine Flow.move (v := .int _ _) rfl ?_
      exact Flow.nil ⟨(k + 1, out), by simp only; omega, rfl, by simp only; omega, ⟨rfl, rfl, rfl, rfl, trivial⟩, hc, hb, hol, hw⟩
  · have hge : k = has.length := by simp at h; omega
    subst hge
    rw [List.drop_length, onF] at hw
    refine hK2 _ _ _ ?_
    refine W.seq fun K hK => ?_
    refine W.region (by rfl) ?_
    refine Flow.move (v := .slice _ _ _) rfl ?_
    refine Flow.assign (v := .slice _ _ _) rfl ?_
    refine hK _ _ _ ?_
    clear hK K
    have := c1.size; have := c2.size
    refine W.ret ⟨_, res1 rfl (v := .slice _ _ _) rfl, hc, g, rfl, by omega, by rw [hw]; exact hb⟩

theorem planMerit_ok (w : World) (t : Tour) (ac af : Option Addr) (cc cf : Nat) (hs : Small t) (ah : Option Addr) (nh ch : Nat) (has : List Int) (hF : FL w af t.flaws) (hH : IL w ah has) (hl : has.length = nh) (hn : nh ≤ 1000) (hok : HasOk t has) :
    Ret Tryz.prog 128 #[.agg #[.int .i64 t.days, .slice ac t.closed.length cc, .slice af t.flaws.length cf, .slice ah nh ch]] w fun v w' => v = .int .i64 (meritOf t has) ∧ Chg [] w w' := by
  have hfl := hs.fl
  subst hl
  refine Ret.of_W (n := 26) Tryz.func128 rfl rfl (Nat.le_of_ble_eq_true rfl) ?_
  refine W.seq fun K hK => ?_
  refine W.region (by rfl) ?_
  refine Flow.box rfl (cs := [_, _, _, _]) rfl fun w1 c1 s1 b1 => ?_
  refine Flow.assignC ?_
  refine hK _ _ _ ?_
  clear hK K
  refine W.seq fun K hK => ?_
  refine W.region (by rfl) ?_
  refine Flow.assignC ?_
  refine hK _ _ _ ?_
  clear hK K
  refine W.seq fun K2 hK2 => ?_
  refine W.seq fun K hK => ?_
  refine W.region (by rfl) ?_
  refine Flow.fieldAddr Tf.fo_129_1 rfl ?_
  refine Flow.load1 Tf.ty_22 rfl (b1.cell 3) ?_
  refine Flow.len rfl Tf.us_22 rfl rfl ?_
  refine Flow.moveC ?_
  refine hK _ _ _ ?_
  clear hK K
  refine W.block ?_
  refine W.loop (ι := Nat × Int) (fun k ds e w' => ds = [] ∧ k.1 ≤ has.length ∧ AllAt e [(1, .pointer (some ⟨w.heap.size, 0, none⟩)), (3, .int .i64 k.2), (7, .slice ah has.length ch), (8, .int .i64 has.length), (9, .int .i64 k.1)] ∧
      Chg [] w1 w' ∧ (0 ≤ k.2 ∧ k.2 ≤ k.1 * 4194304) ∧ meritOf t has = k.2 + meritOf t (has.drop k.1))
    (fun k => has.length - k.1) (i0 := (0, 0)) ⟨rfl, by omega, ⟨rfl, rfl, rfl, rfl, rfl, trivial⟩, Chg.refl _ _, by simp, by simp⟩ ?_
  rintro ⟨k, acc⟩ ds e w' ⟨rfl, hk, hE, hc, hacc, hw⟩
  obtain ⟨e, rfl⟩ : ∃ e0, e = putL e0 _ := ⟨e, putL_self hE⟩
  clear hE
  simp only at hk hw hacc ⊢
  refine W.seq fun K hK => ?_
  refine W.region (by rfl) ?_
  refine Flow.lss rfl rfl ?_
  refine hK _ _ _ ?_
  clear hK K
  refine W.seq fun K3 hK3 => ?_
  refine W.cond rfl (fun h => W.skip (hK3 _ _ _ ?_)) (fun h => W.exit ?_)
  · have hlt : k < has.length := by simpa using h
    obtain ⟨b, o, rfl, hcell⟩ := (hH.ext (c1.then hc)).get hlt
    have hx := hok _ (List.getElem_mem hlt)
    rw [List.drop_eq_getElem_cons hlt] at hw
    simp only [meritOf, List.map_cons, List.sum_cons] at hw
    refine W.seq fun K4 hK4 => ?_
    refine W.block ?_
    refine W.seq fun K hK => ?_
    refine W.region (by rfl) ?_
    refine Flow.indexAddr1 Tf.sl_22 rfl rfl (by omega) (by omega) ?_
    refine Flow.load1 Tf.ty_3 rfl (hcell k hlt) ?_
    refine Flow.assign (v := .int _ _) rfl ?_
    refine hK _ _ _ ?_
    clear hK K
    refine W.seq fun K hK => ?_
    refine W.region (by rfl) ?_
    refine Flow.move (v := .int _ _) rfl ?_
    refine Flow.geq rfl rfl ?_
    refine hK _ _ _ ?_
    clear hK K
    refine W.cond rfl (fun h => ?_) (fun h => W.skip (hK4 _ _ _ ?_))
    · have h0 : 0 ≤ has[k] := by simpa using h
      rw [if_pos h0] at hw
      have hil : has[k].toNat < t.flaws.length := by omega
      obtain ⟨bf, of_, rfl, hflaw⟩ := (hF.ext (c1.then hc)).get hil
      have hme := hs.me _ (List.getElem_mem hil)
      rw [flawAt_get hil] at hw
      refine W.region (by rfl) ?_
      refine Flow.move (v := .int _ _) rfl ?_
      refine Flow.fieldAddr Tf.fo_129_0 rfl ?_
      refine Flow.fieldAddr Tf.fo_25_2 rfl ?_
      refine Flow.load1 Tf.ty_23 rfl ((b1.chg hc (by simp)).cell 2) ?_
      refine Flow.move (v := .int _ _) rfl ?_
      refine Flow.indexAddr Tf.sl_23 rfl rfl (by omega) (by omega) ?_
      refine Flow.fieldAddr Tf.fo_81_2 rfl ?_
      refine Flow.load1 Tf.ty_3 rfl (fMerit (hflaw _ hil)) ?_
      refine Flow.add rfl rfl (by omega) (by omega) ?_
      refine Flow.assign (v := .int _ _) rfl ?_
      refine Flow.nil (hK4 _ _ _ ?_)
      refine W.region (by rfl) ?_
      refine Flow.add rfl rfl (by omega) (by omega) ?_
      refine Flow.move (v := .int _ _) rfl ?_
      exact Flow.nil ⟨(k + 1, acc + t.flaws[has[k].toNat].merit), by simp only; omega, rfl, by simp only; omega, ⟨rfl, rfl, rfl, rfl, rfl, trivial⟩, hc, by simp only; omega, by simp only [meritOf]; omega⟩
    · have h0 : ¬ 0 ≤ has[k] := by simpa using h
      rw [if_neg h0] at hw
      refine W.region (by rfl) ?_
      refine Flow.add rfl rfl (by omega) (by omega) ?_
      refine Flow.move (v := .int _ _) rfl ?_
      exact Flow.nil ⟨(k + 1, acc), by simp only; omega, rfl, by simp only; omega, ⟨rfl, rfl, rfl, rfl, rfl, trivial⟩, hc, by simp only; omega, by simp only [meritOf]; omega⟩
  · have hge : k = has.length := by simp at h; omega
    subst hge
    rw [List.drop_length] at hw
    have hw : meritOf t has = acc := by rw [hw]; simp [meritOf]
    refine hK2 _ _ _ ?_
    refine W.seq fun K hK => ?_
    refine W.region (by rfl) ?_
    refine Flow.move (v := .int _ _) rfl ?_
    refine Flow.assign (v := .int _ _) rfl ?_
    refine hK _ _ _ ?_
    clear hK K
    refine W.ret ⟨_, res1 rfl (v := .int _ _) rfl, by rw [hw], c1.then hc⟩

end Go.Proofs.YtkoejelglinmnaaGreat

/-
  Contracts: insertion sort by a comparing function.
-/
namespace Go.Proofs.YtkoejelglinmnaaGreat
open Sg
set_option maxRecDepth 100000

theorem cells_get {l : List Int} {ex : List Value} {k : Nat} (h : k < l.length) : (ints l ++ ex)[0 + k]? = some (.int .i64 l[k]) := by
  rw [Nat.zero_add, List.getElem?_append_left (by simpa [ints] using h)]; simp [ints, h]

theorem cells_set (l : List Int) (ex : List Value) {k : Nat} (h : k < l.length) (v : Int) : (ints l ++ ex).set k (.int .i64 v) = ints (l.set k v) ++ ex := by
  rw [List.set_append_left _ _ (by simpa [ints] using h), ints_set]

set_option maxHeartbeats 1000000 in
theorem insCmp_ok (w : World) (g c : Nat) (l : List Int) (ex : List Value) (fn : FuncId) (caps : Array Value) (less : Int → Int → Bool) (cz : Int → Int → Int) (hless : ∀ x y, less x y = decide (cz x y < 0)) (hn : l.length ≤ 1000) (hb : HasBody Tryz.prog fn)
    (hp : ∀ x ∈ l, ∀ y ∈ l, ∀ w1, Chg [g] w w1 → Ret Tryz.prog fn (#[.int .i64 x, .int .i64 y] ++ caps) w1 fun v w2 => v = .int .i64 (cz x y) ∧ Chg [] w1 w2) (hB : Blk w g (ints l ++ ex) 3) :
    Ret Tryz.prog 180 #[.slice (some ⟨g, 0, none⟩) l.length c, .int .i64 0, .int .i64 l.length, .func (.func fn) #[] caps] w fun _ w' => Blk w' g (ints (sortS less l) ++ ex) 3 ∧ Chg [g] w w' := by
  refine Ret.of_W (n := 53) Tryz.func180 rfl rfl (Nat.le_of_ble_eq_true rfl) ?_
  refine W.seq fun K hK => ?_
  refine W.region (by rfl) ?_
  refine Flow.move (v := .int _ _) rfl ?_
  refine Flow.add rfl rfl (by omega) (by omega) ?_
  refine Flow.assign (v := .int _ _) rfl ?_
  refine hK _ _ _ ?_
  clear hK K
  refine W.block ?_
  refine W.loop (ι := Nat) (fun i ds e w' => ds = [] ∧ 1 ≤ i ∧ i ≤ max 1 l.length ∧ AllAt e [(0, .slice (some ⟨g, 0, none⟩) l.length c), (1, .int .i64 0), (2, .int .i64 l.length), (3, .func (.func fn) #[] caps), (8, .int .i64 i)] ∧
      Chg [g] w w' ∧ Blk w' g (ints (sortS less (l.take i) ++ l.drop i) ++ ex) 3)
    (fun i => l.length + 1 - i) (i0 := 1) ⟨rfl, by omega, by omega, ⟨rfl, rfl, rfl, rfl, rfl, trivial⟩, Chg.refl _ _, ?_⟩ ?_
  · cases l with
    | nil => simpa [sortS] using hB
    | cons x l => simpa [sortS, putIn, putAt] using hB
  rintro i ds e w1 ⟨rfl, hi1, hi2, hE, hc, hb1⟩
  obtain ⟨e, rfl⟩ : ∃ e0, e = putL e0 _ := ⟨e, putL_self hE⟩
  clear hE
  refine W.seq fun K0 hK0 => ?_
  refine W.seq fun K hK => ?_
  refine W.region (by rfl) ?_
  refine Flow.move (v := .int _ _) rfl ?_
  refine Flow.move (v := .int _ _) rfl ?_
  refine Flow.lss rfl rfl ?_
  refine hK _ _ _ ?_
  clear hK K
  refine W.cond rfl (fun h => W.skip (hK0 _ _ _ ?_)) (fun h => W.exit ?_)
  case refine_2 =>
    have hge : l.length ≤ i := by simp at h; omega
    rw [List.take_of_length_le hge, List.drop_eq_nil_of_le hge, List.append_nil] at hb1
    exact ⟨_, res0 rfl, hb1, hc⟩
  have hlt : i < l.length := by simpa using h
  obtain ⟨L, hL⟩ : ∃ L, L = sortS less (l.take i) := ⟨_, rfl⟩
  have hLl : L.length = i := by rw [hL, sortS_len, List.length_take]; omega
  have hLm : ∀ y ∈ L, y ∈ l := fun y hy => by rw [hL, mem_sortS] at hy; exact List.mem_of_mem_take hy
  have hxm : l[i] ∈ l := List.getElem_mem hlt
  refine W.seq fun K1 hK1 => ?_
  refine W.block ?_
  refine W.seq fun K hK => ?_
  refine W.region (by rfl) ?_
  refine Flow.move (v := .int _ _) rfl ?_
  refine Flow.assign (v := .int _ _) rfl ?_
  refine hK _ _ _ ?_
  clear hK K
  refine W.block ?_
  refine W.loop (ι := Nat) (fun j ds e w' => ds = [] ∧ j ≤ i ∧ AllAt e [(0, .slice (some ⟨g, 0, none⟩) l.length c), (1, .int .i64 0), (2, .int .i64 l.length), (3, .func (.func fn) #[] caps), (8, .int .i64 i), (9, .int .i64 j)] ∧
      Chg [g] w w' ∧ Blk w' g (ints (L.take j ++ l[i] :: (L.drop j ++ l.drop (i + 1))) ++ ex) 3 ∧ ∀ y ∈ L.drop j, less l[i] y = true)
    (fun j => j) (i0 := i) ⟨rfl, by omega, ⟨rfl, rfl, rfl, rfl, rfl, rfl, trivial⟩, hc, ?_, ?_⟩ ?_
  · rw [List.drop_eq_getElem_cons hlt, ← hL] at hb1
    have e1 : L.take i = L := List.take_of_length_le (by omega)
    have e2 : L.drop i = [] := List.drop_eq_nil_of_le (by omega)
    rw [e1, e2, List.nil_append]
    exact hb1
  · have e2 : L.drop i = [] := List.drop_eq_nil_of_le (by omega)
    rw [e2]; simp
  rintro j ds e w2 ⟨rfl, hj, hE, hc2, hb2, hall⟩
  obtain ⟨e, rfl⟩ : ∃ e0, e = putL e0 _ := ⟨e, putL_self hE⟩
  clear hE
  have hdone : (∀ (h : 0 < j), less l[i] (L[j - 1]'(by omega)) = false) → ∀ w3, Chg [] w2 w3 → ∀ e, AllAt e [(0, .slice (some ⟨g, 0, none⟩) l.length c), (1, .int .i64 0), (2, .int .i64 l.length), (3, .func (.func fn) #[] caps), (8, .int .i64 i)] → K1 [] e w3 := by
    intro hno w3 c3 e hE
    obtain ⟨e, rfl⟩ : ∃ e0, e = putL e0 _ := ⟨e, putL_self hE⟩
    clear hE
    refine hK1 _ _ _ ?_
    refine W.region (by rfl) ?_
    refine Flow.move (v := .int _ _) rfl ?_
    refine Flow.add rfl rfl (by omega) (by omega) ?_
    refine Flow.assign (v := .int _ _) rfl ?_
    have hput := putIn_at (less := less) (x := l[i]) (l := L) (j := j) (by omega) hall hno
    refine Flow.nil ⟨i + 1, by omega, rfl, by omega, by omega, ⟨rfl, rfl, rfl, rfl, rfl, trivial⟩, hc2.trans (c3.mono (T := [g]) (by simp)) (fun _ _ h => h), ?_⟩
    have ht : l.take (i + 1) = l.take i ++ [l[i]] := by rw [List.take_add_one]; simp [hlt]
    rw [ht, sortS_snoc, ← hL, hput]
    have := hb2.chg c3 (by simp)
    simpa using this
  have hlen : (L.take j ++ l[i] :: (L.drop j ++ l.drop (i + 1))).length = l.length := by simp; omega
  refine W.seq fun K4 hK4 => ?_
  by_cases hj0 : 0 < j
  case neg =>
    refine W.seq fun K hK => ?_
    refine W.regionD [14] [] (by kernel_rfl) (by kernel_rfl) fun w3 c3 h3 => ?_
    refine FD.val (fun _ hw => Rn.move (v := .int _ _) rfl) ?_
    refine FD.val (fun _ hw => Rn.move (v := .int _ _) rfl) ?_
    refine FD.val (fun _ hw => Rn.gtrD (c := false) rfl rfl (decide_eq_false (by omega))) ?_
    refine FD.val (fun _ hw => Rn.move (v := .bool _) rfl) ?_
    refine FD.off (c := false) rfl rfl rfl ?_
    refine FD.off (c := false) rfl rfl rfl ?_
    refine FD.off (c := false) rfl rfl rfl ?_
    refine FD.off (c := false) rfl rfl rfl ?_
    refine FD.off (c := false) rfl rfl rfl ?_
    refine FD.off (c := false) rfl rfl rfl ?_
    refine FD.off (c := false) rfl rfl rfl ?_
    refine FD.off (c := false) rfl rfl rfl ?_
    refine FD.off (c := false) rfl rfl rfl ?_
    refine FD.off (c := false) rfl rfl rfl ?_
    refine FD.off (c := false) rfl rfl rfl ?_
    refine FD.off (c := false) rfl rfl rfl ?_
    refine FD.val (fun _ hw => Rn.pickF rfl rfl) ?_
    refine FD.nil ?_
    refine hK _ _ _ ?_
    clear hK K
    refine W.cond (t := false) rfl (fun h => by simp at h) (fun _ => W.exit ?_)
    exact hdone (fun h => absurd h hj0) w3 c3 _ ⟨rfl, rfl, rfl, rfl, rfl, trivial⟩
  have hjl : j - 1 < L.length := by omega
  have hg1 : (L.take j ++ l[i] :: (L.drop j ++ l.drop (i + 1)))[j]'(by omega) = l[i] := by
    have hmin : (L.take j).length = j := by rw [List.length_take]; omega
    rw [List.getElem_append_right (by omega)]; simp [hmin]
  have hg2 : (L.take j ++ l[i] :: (L.drop j ++ l.drop (i + 1)))[j - 1]'(by omega) = L[j - 1] := by
    rw [List.getElem_append_left (by simp; omega)]; simp
  have hjj : ((j : Int) - 1).toNat = j - 1 := by omega
  have hr1 : w2.cell? ⟨g, 0 + j, none⟩ = some (.int .i64 l[i]) := by rw [hb2.cell, cells_get (by omega), hg1]
  have hr2 : w2.cell? ⟨g, 0 + ((j : Int) - 1).toNat, none⟩ = some (.int .i64 L[j - 1]) := by rw [hjj, hb2.cell, cells_get (by omega), hg2]
  refine W.seq fun K hK => ?_
  refine W.regionD [14] [] (by kernel_rfl) (by kernel_rfl) fun w3 c3 h3 => ?_
  refine FD.val (fun _ hw => Rn.move (v := .int _ _) rfl) ?_
  refine FD.val (fun _ hw => Rn.move (v := .int _ _) rfl) ?_
  refine FD.val (fun _ hw => Rn.gtrD (c := true) rfl rfl (decide_eq_true (by omega))) ?_
  refine FD.val (fun _ hw => Rn.move (v := .bool _) rfl) ?_
  refine FD.on rfl rfl ?_
  refine FD.val (fun _ hw => Rn.move (v := .func _ _ _) rfl) ?_
  refine FD.on rfl rfl ?_
  refine FD.val (fun _ hw => Rn.move (v := .slice _ _ _) rfl) ?_
  refine FD.on rfl rfl ?_
  refine FD.val (fun _ hw => Rn.move (v := .int _ _) rfl) ?_
  refine FD.on rfl rfl ?_
  refine FD.val (fun _ hw => Rn.indexAddr1 Tf.sl_22 rfl rfl (by omega) (by omega)) ?_
  refine FD.on rfl rfl ?_
  refine FD.val (fun _ hw => Rn.load1 Tf.ty_3 rfl (cell_chg hr1 c3 (by simp)) (hw rfl rfl)) ?_
  refine FD.on rfl rfl ?_
  refine FD.val (fun _ hw => Rn.move (v := .slice _ _ _) rfl) ?_
  refine FD.on rfl rfl ?_
  refine FD.val (fun _ hw => Rn.move (v := .int _ _) rfl) ?_
  refine FD.on rfl rfl ?_
  refine FD.val (fun _ hw => Rn.sub rfl rfl (by omega) (by omega)) ?_
  refine FD.on rfl rfl ?_
  refine FD.val (fun _ hw => Rn.indexAddr1 Tf.sl_22 rfl rfl (by omega) (by omega)) ?_
  refine FD.on rfl rfl ?_
  refine FD.val (fun _ hw => Rn.load1 Tf.ty_3 rfl (cell_chg hr2 c3 (by simp)) (hw rfl rfl)) ?_
  refine FD.on rfl rfl ?_
  refine FD.eff (by rfl) (Chg.refl _ _) ?_
  refine Flow.callV2 rfl hb (v1 := .int _ _) rfl (v2 := .int _ _) rfl ?_
  refine Ret.mono (hp _ hxm _ (hLm _ (List.getElem_mem hjl)) w3 (hc2.trans (c3.mono (T := [g]) (by simp)) (fun _ _ h => h))) ?_
  rintro _ w4 ⟨rfl, c4⟩
  refine Flow.nil ⟨c4, ?_⟩
  refine FD.on rfl rfl ?_
  refine FD.val (fun _ hw => Rn.lssD rfl rfl rfl) ?_
  refine FD.val (fun _ hw => Rn.pickT rfl rfl) ?_
  refine FD.nil ?_
  refine hK _ _ _ ?_
  clear hK K
  have c24 := c3.then c4
  refine W.cond rfl (fun h => W.skip (hK4 _ _ _ ?_)) (fun h => W.exit ?_)
  case refine_2 =>
    exact hdone (fun _ => by rw [hless]; exact h) w4 c24 _ ⟨rfl, rfl, rfl, rfl, rfl, trivial⟩
  have hl1 : less l[i] L[j - 1] = true := by rw [hless]; exact h
  refine W.seq fun K6 hK6 => ?_
  refine W.block ?_
  have hb4 := hb2.chg c24 (by simp)
  refine W.regionD [15, 17] [15, 17] (by kernel_rfl) (by kernel_rfl) fun w5 c5 h5 => ?_
  refine FD.val (fun _ hw => Rn.move (v := .slice _ _ _) rfl) ?_
  refine FD.val (fun _ hw => Rn.move (v := .int _ _) rfl) ?_
  refine FD.val (fun _ hw => Rn.move (v := .slice _ _ _) rfl) ?_
  refine FD.val (fun _ hw => Rn.move (v := .int _ _) rfl) ?_
  refine FD.val (fun _ hw => Rn.sub rfl rfl (by omega) (by omega)) ?_
  refine FD.val (fun _ hw => Rn.move (v := .slice _ _ _) rfl) ?_
  refine FD.val (fun _ hw => Rn.move (v := .int _ _) rfl) ?_
  refine FD.val (fun _ hw => Rn.sub rfl rfl (by omega) (by omega)) ?_
  refine FD.val (fun _ hw => Rn.indexAddr1 Tf.sl_22 rfl rfl (by omega) (by omega)) ?_
  refine FD.val (fun _ hw => Rn.load1 Tf.ty_3 rfl (cell_chg hr2 (c24.then c5) (by simp)) (hw rfl rfl)) ?_
  refine FD.val (fun _ hw => Rn.move (v := .slice _ _ _) rfl) ?_
  refine FD.val (fun _ hw => Rn.move (v := .int _ _) rfl) ?_
  refine FD.val (fun _ hw => Rn.indexAddr1 Tf.sl_22 rfl rfl (by omega) (by omega)) ?_
  refine FD.val (fun _ hw => Rn.load1 Tf.ty_3 rfl (cell_chg hr1 (c24.then c5) (by simp)) (hw rfl rfl)) ?_
  refine FD.val (fun _ hw => Rn.indexAddr1 Tf.sl_22 rfl rfl (by omega) (by omega)) ?_
  refine FD.hardE (by rfl) (by rfl) ?_
  refine Flow.store1 Tf.ty_3 rfl (v := .int _ _) rfl (hb4.chg c5 (by simp)) (by rw [Nat.zero_add, List.length_append, ints, List.length_map, hlen]; omega) rfl fun w6 c6 s6 b6 => ?_
  refine Flow.nil ?_
  refine FD.val (fun _ hw => Rn.indexAddr1 Tf.sl_22 rfl rfl (by omega) (by omega)) ?_
  refine FD.hardE (by rfl) (by rfl) ?_
  refine Flow.store1 Tf.ty_3 rfl (v := .int _ _) rfl (b6) (by rw [Nat.zero_add, List.length_set, List.length_append, ints, List.length_map, hlen]; omega) rfl fun w7 c7 s7 b7 => ?_
  refine Flow.nil ?_
  refine FD.nil ?_
  have hjn : ((j : Nat) : Int).toNat = j := rfl
  rw [Nat.zero_add, Nat.zero_add, hjj, hjn, cells_set _ _ (by omega), cells_set _ _ (by rw [List.length_set]; omega)] at b7
  have hsw : ((L.take j ++ l[i] :: (L.drop j ++ l.drop (i + 1))).set j L[j - 1]).set (j - 1) l[i] = L.take (j - 1) ++ l[i] :: (L.drop (j - 1) ++ l.drop (i + 1)) := by
    have h1 : L.take j = L.take (j - 1) ++ [L[j - 1]] := by
      obtain ⟨k, rfl⟩ : ∃ k, j = k + 1 := ⟨j - 1, by omega⟩
      simp only [Nat.add_sub_cancel]
      rw [List.take_add_one]; simp [show k < L.length from by omega]
    have h2 : L.drop (j - 1) = L[j - 1] :: L.drop j := by
      rw [List.drop_eq_getElem_cons hjl, show j - 1 + 1 = j from by omega]
    have := swap_list (L.take (j - 1)) (L.drop j ++ l.drop (i + 1)) L[j - 1] l[i]
    rw [List.length_take, Nat.min_eq_left (by omega), show j - 1 + 1 = j from by omega] at this
    have e3 : L.take j ++ l[i] :: (L.drop j ++ l.drop (i + 1)) = L.take (j - 1) ++ L[j - 1] :: l[i] :: (L.drop j ++ l.drop (i + 1)) := by rw [h1, List.append_assoc]; rfl
    rw [e3, this, h2]; rfl
  rw [hsw] at b7
  refine hK6 _ _ _ ?_
  refine W.region (by rfl) ?_
  refine Flow.move (v := .int _ _) rfl ?_
  refine Flow.sub rfl rfl (by omega) (by omega) ?_
  refine Flow.assign (v := .int _ _) rfl ?_
  refine Flow.nil ⟨j - 1, by omega, rfl, by omega, ⟨rfl, rfl, rfl, rfl, rfl, ?_, trivial⟩, ?_, b7, ?_⟩
  · exact congrArg (Value.int .i64) (show (j : Int) - 1 = ((j - 1 : Nat) : Int) by omega)
  · exact (hc2.trans ((c24.then c5).mono (T := [g]) (by simp)) (fun _ _ h => h)).trans (c6.trans c7 (fun _ _ h => h)) (fun _ _ h => h)
  · intro y hy
    rw [List.drop_eq_getElem_cons hjl, show j - 1 + 1 = j from by omega, List.mem_cons] at hy
    rcases hy with rfl | hy
    · exact hl1
    · exact hall y hy

end Go.Proofs.YtkoejelglinmnaaGreat

/-
  Contracts: SortStableFunc, ordered, best, merit.
-/
namespace Go.Proofs.YtkoejelglinmnaaGreat
open Sg
set_option maxRecDepth 100000


theorem stableCmp_ok (w : World) (g c : Nat) (l : List Int) (ex : List Value) (fn : FuncId) (caps : Array Value) (less : Int → Int → Bool) (cz : Int → Int → Int) (hless : ∀ x y, less x y = decide (cz x y < 0)) (hn : l.length < 20) (hb : HasBody Tryz.prog fn)
    (hp : ∀ x ∈ l, ∀ y ∈ l, ∀ w1, Chg [g] w w1 → Ret Tryz.prog fn (#[.int .i64 x, .int .i64 y] ++ caps) w1 fun v w2 => v = .int .i64 (cz x y) ∧ Chg [] w1 w2) (hB : Blk w g (ints l ++ ex) 3) :
    Ret Tryz.prog 172 #[.slice (some ⟨g, 0, none⟩) l.length c, .int .i64 l.length, .func (.func fn) #[] caps] w fun _ w' => Blk w' g (ints (sortS less l) ++ ex) 3 ∧ Chg [g] w w' := by
  refine Ret.of_W (n := 63) Tryz.func172 rfl rfl (Nat.le_of_ble_eq_true rfl) ?_
  refine W.seq fun K hK => ?_
  refine W.region (by rfl) ?_
  refine Flow.assignC ?_
  refine hK _ _ _ ?_
  clear hK K
  refine W.seq fun K hK => ?_
  refine W.region (by rfl) ?_
  refine Flow.move (v := .int _ _) rfl ?_
  refine Flow.assignC ?_
  refine Flow.assign (v := .int _ _) rfl ?_
  refine hK _ _ _ ?_
  clear hK K
  refine W.seq fun K0 hK0 => ?_
  refine W.block ?_
  refine W.loop (ι := Unit) (fun i ds e w' => ds = [] ∧ AllAt e [(0, .slice (some ⟨g, 0, none⟩) l.length c), (1, .int .i64 l.length), (2, .func (.func fn) #[] caps), (6, .int .i64 20), (7, .int .i64 0), (8, .int .i64 20)] ∧ w' = w) (fun _ => 0) (i0 := ()) ⟨rfl, ⟨rfl, rfl, rfl, rfl, rfl, rfl, trivial⟩, rfl⟩ ?_
  rintro _ ds e w1 ⟨rfl, hE, rfl⟩
  obtain ⟨e, rfl⟩ : ∃ e0, e = putL e0 _ := ⟨e, putL_self hE⟩
  clear hE
  refine W.seq fun K1 hK1 => ?_
  refine W.seq fun K hK => ?_
  refine W.region (by rfl) ?_
  refine Flow.move (v := .int _ _) rfl ?_
  refine Flow.move (v := .int _ _) rfl ?_
  refine Flow.leq rfl rfl ?_
  refine hK _ _ _ ?_
  clear hK K
  refine W.cond rfl (fun h => by simp at h; omega) (fun _ => W.exit ?_)
  refine hK0 _ _ _ ?_
  refine W.seq fun K hK => ?_
  refine W.region (by rfl) ?_
  refine Flow.move (v := .slice _ _ _) rfl ?_
  refine Flow.move (v := .int _ _) rfl ?_
  refine Flow.move (v := .int _ _) rfl ?_
  refine Flow.move (v := .func _ _ _) rfl ?_
  refine Flow.call4 Tf.hb_180 (v1 := .slice _ _ _) rfl (v2 := .int _ _) rfl (v3 := .int _ _) rfl (v4 := .func _ _ _) rfl ?_
  refine Ret.mono (insCmp_ok _ g c l ex fn caps less cz hless (by omega) hb hp hB) ?_
  rintro _ w2 ⟨hB2, c2⟩
  refine hK _ _ _ ?_
  clear hK K
  refine W.block ?_
  refine W.loop (ι := Unit) (fun i ds e w' => ds = [] ∧ AllAt e [(1, .int .i64 l.length), (6, .int .i64 20)] ∧ w' = w2) (fun _ => 0) (i0 := ()) ⟨rfl, ⟨rfl, rfl, trivial⟩, rfl⟩ ?_
  rintro _ ds e w3 ⟨rfl, hE, rfl⟩
  obtain ⟨e, rfl⟩ : ∃ e0, e = putL e0 _ := ⟨e, putL_self hE⟩
  clear hE
  refine W.seq fun K3 hK3 => ?_
  refine W.seq fun K hK => ?_
  refine W.region (by rfl) ?_
  refine Flow.move (v := .int _ _) rfl ?_
  refine Flow.move (v := .int _ _) rfl ?_
  refine Flow.lss rfl rfl ?_
  refine hK _ _ _ ?_
  clear hK K
  refine W.cond rfl (fun h => by simp at h; omega) (fun _ => W.exit ?_)
  exact ⟨_, res0 rfl, hB2, c2⟩

theorem sortStable_ok (w : World) (g c : Nat) (l : List Int) (ex : List Value) (fn : FuncId) (caps : Array Value) (less : Int → Int → Bool) (cz : Int → Int → Int) (hless : ∀ x y, less x y = decide (cz x y < 0)) (hn : l.length < 20) (hb : HasBody Tryz.prog fn)
    (hp : ∀ x ∈ l, ∀ y ∈ l, ∀ w1, Chg [g] w w1 → Ret Tryz.prog fn (#[.int .i64 x, .int .i64 y] ++ caps) w1 fun v w2 => v = .int .i64 (cz x y) ∧ Chg [] w1 w2) (hB : Blk w g (ints l ++ ex) 3) :
    Ret Tryz.prog 152 #[.slice (some ⟨g, 0, none⟩) l.length c, .func (.func fn) #[] caps] w fun _ w' => Blk w' g (ints (sortS less l) ++ ex) 3 ∧ Chg [g] w w' := by
  refine Ret.of_W (n := 9) Tryz.func152 rfl rfl (Nat.le_of_ble_eq_true rfl) ?_
  refine W.region (by rfl) ?_
  refine Flow.move (v := .slice _ _ _) rfl ?_
  refine Flow.move (v := .slice _ _ _) rfl ?_
  refine Flow.len rfl Tf.us_22 rfl rfl ?_
  refine Flow.move (v := .func _ _ _) rfl ?_
  refine Flow.call3 Tf.hb_172 (v1 := .slice _ _ _) rfl (v2 := .int _ _) rfl (v3 := .func _ _ _) rfl ?_
  refine Ret.mono (stableCmp_ok _ g c l ex fn caps less cz hless hn hb hp hB) ?_
  rintro _ w2 ⟨hB2, c2⟩
  exact Flow.nil ⟨_, res0 rfl, hB2, c2⟩

/-! ### nothing to sort -/
theorem insCmp0_ok (w : World) (s cmp : Value) :
    Ret Tryz.prog 180 #[s, .int .i64 0, .int .i64 0, cmp] w fun _ w' => Chg [] w w' := by
  refine Ret.of_W (n := 53) Tryz.func180 rfl rfl (Nat.le_of_ble_eq_true rfl) ?_
  refine W.seq fun K hK => ?_
  refine W.region (by rfl) ?_
  refine Flow.move (v := .int _ _) rfl ?_
  refine Flow.add rfl rfl (by omega) (by omega) ?_
  refine Flow.assign (v := .int _ _) rfl ?_
  refine hK _ _ _ ?_
  clear hK K
  refine W.block ?_
  refine W.loop (ι := Unit) (fun i ds e w' => ds = [] ∧ AllAt e [(2, .int .i64 0), (8, .int .i64 1)] ∧ Chg [] w w') (fun _ => 0) (i0 := ()) ⟨rfl, ⟨rfl, rfl, trivial⟩, Chg.refl _ _⟩ ?_
  rintro _ ds e w1 ⟨rfl, hE, hc⟩
  obtain ⟨e, rfl⟩ : ∃ e0, e = putL e0 _ := ⟨e, putL_self hE⟩
  clear hE
  refine W.seq fun K0 hK0 => ?_
  refine W.seq fun K hK => ?_
  refine W.region (by rfl) ?_
  refine Flow.move (v := .int _ _) rfl ?_
  refine Flow.move (v := .int _ _) rfl ?_
  refine Flow.lss rfl rfl ?_
  refine hK _ _ _ ?_
  clear hK K
  refine W.cond (t := false) rfl (fun h => by simp at h) (fun _ => W.exit ?_)
  exact ⟨_, res0 rfl, hc⟩

theorem stableCmp0_ok (w : World) (s cmp : Value) (hs : ∃ a c, s = .slice a 0 c) (hc : ∃ fn caps, cmp = .func fn #[] caps) :
    Ret Tryz.prog 172 #[s, .int .i64 0, cmp] w fun _ w' => Chg [] w w' := by
  obtain ⟨a, c, rfl⟩ := hs
  obtain ⟨fn, caps, rfl⟩ := hc
  refine Ret.of_W (n := 63) Tryz.func172 rfl rfl (Nat.le_of_ble_eq_true rfl) ?_
  refine W.seq fun K hK => ?_
  refine W.region (by rfl) ?_
  refine Flow.assignC ?_
  refine hK _ _ _ ?_
  clear hK K
  refine W.seq fun K hK => ?_
  refine W.region (by rfl) ?_
  refine Flow.move (v := .int _ _) rfl ?_
  refine Flow.assignC ?_
  refine Flow.assign (v := .int _ _) rfl ?_
  refine hK _ _ _ ?_
  clear hK K
  refine W.seq fun K0 hK0 => ?_
  refine W.block ?_
  refine W.loop (ι := Unit) (fun i ds e w' => ds = [] ∧ AllAt e [(0, .slice a 0 c), (1, .int .i64 0), (2, .func fn #[] caps), (6, .int .i64 20), (7, .int .i64 0), (8, .int .i64 20)] ∧ w' = w) (fun _ => 0) (i0 := ()) ⟨rfl, ⟨rfl, rfl, rfl, rfl, rfl, rfl, trivial⟩, rfl⟩ ?_
  rintro _ ds e w1 ⟨rfl, hE, rfl⟩
  obtain ⟨e, rfl⟩ : ∃ e0, e = putL e0 _ := ⟨e, putL_self hE⟩
  clear hE
  refine W.seq fun K1 hK1 => ?_
  refine W.seq fun K hK => ?_
  refine W.region (by rfl) ?_
  refine Flow.move (v := .int _ _) rfl ?_
  refine Flow.move (v := .int _ _) rfl ?_
  refine Flow.leq rfl rfl ?_
  refine hK _ _ _ ?_
  clear hK K
  refine W.cond (t := false) rfl (fun h => by simp at h) (fun _ => W.exit ?_)
  refine hK0 _ _ _ ?_
  refine W.seq fun K hK => ?_
  refine W.region (by rfl) ?_
  refine Flow.move (v := .slice _ _ _) rfl ?_
  refine Flow.move (v := .int _ _) rfl ?_
  refine Flow.move (v := .int _ _) rfl ?_
  refine Flow.move (v := .func _ _ _) rfl ?_
  refine Flow.call4 Tf.hb_180 (v1 := .slice _ _ _) rfl (v2 := .int _ _) rfl (v3 := .int _ _) rfl (v4 := .func _ _ _) rfl ?_
  refine Ret.mono (insCmp0_ok _ _ _) ?_
  rintro _ w2 c2
  refine hK _ _ _ ?_
  clear hK K
  refine W.block ?_
  refine W.loop (ι := Unit) (fun i ds e w' => ds = [] ∧ AllAt e [(1, .int .i64 0), (6, .int .i64 20)] ∧ w' = w2) (fun _ => 0) (i0 := ()) ⟨rfl, ⟨rfl, rfl, trivial⟩, rfl⟩ ?_
  rintro _ ds e w3 ⟨rfl, hE, rfl⟩
  obtain ⟨e, rfl⟩ : ∃ e0, e = putL e0 _ := ⟨e, putL_self hE⟩
  clear hE
  refine W.seq fun K3 hK3 => ?_
  refine W.seq fun K hK => ?_
  refine W.region (by rfl) ?_
  refine Flow.move (v := .int _ _) rfl ?_
  refine Flow.move (v := .int _ _) rfl ?_
  refine Flow.lss rfl rfl ?_
  refine hK _ _ _ ?_
  clear hK K
  refine W.cond (t := false) rfl (fun h => by simp at h) (fun _ => W.exit ?_)
  exact ⟨_, res0 rfl, c2⟩

theorem sortStable0_ok (w : World) (a : Option Addr) (c : Nat) (fn : Go.Fn) (caps : Array Value) :
    Ret Tryz.prog 152 #[.slice a 0 c, .func fn #[] caps] w fun _ w' => Chg [] w w' := by
  refine Ret.of_W (n := 9) Tryz.func152 rfl rfl (Nat.le_of_ble_eq_true rfl) ?_
  refine W.region (by rfl) ?_
  refine Flow.move (v := .slice _ _ _) rfl ?_
  refine Flow.move (v := .slice _ _ _) rfl ?_
  refine Flow.len rfl Tf.us_22 rfl rfl ?_
  refine Flow.move (v := .func _ _ _) rfl ?_
  refine Flow.call3 Tf.hb_172 (v1 := .slice _ _ _) rfl (v2 := .int _ _) rfl (v3 := .func _ _ _) rfl ?_
  refine Ret.mono (stableCmp0_ok _ _ _ ⟨_, _, rfl⟩ ⟨_, _, rfl⟩) ?_
  rintro _ w2 c2
  exact Flow.nil ⟨_, res0 rfl, c2⟩

/-! ### own lists as blocks -/
theorem Mine.blk {s : Nat} {w : World} {a : Option Addr} {cap : Nat} {l : List Int} (h : Mine s w a cap l) (hl : l ≠ []) :
    ∃ g ex, a = some ⟨g, 0, none⟩ ∧ s ≤ g ∧ Blk w g (ints l ++ ex) 3 ∧ l.length + ex.length = cap ∧ cap ≤ maxLen := by
  rcases h.1.2 with ⟨_, h0, _⟩ | ⟨g, cs, rfl, hb, h1, h2, h3, h4⟩
  · exact absurd (List.length_eq_zero_iff.1 h0) hl
  · rw [Nat.mul_one] at h3 h4
    refine ⟨g, cs.drop l.length, rfl, h.2 g (by simp [ownB]), ?_, ?_, h2⟩
    · rw [← h4, List.take_append_drop]; exact hb
    · rw [List.length_drop]; omega

theorem Mine.of_blk {s : Nat} {w : World} {g cap : Nat} {l : List Int} {ex : List Value} (hs : s ≤ g) (hb : Blk w g (ints l ++ ex) 3) (hc : l.length + ex.length = cap) (hm : cap ≤ maxLen) : Mine s w (some ⟨g, 0, none⟩) cap l := by
  refine ⟨⟨by simp [ints], .inr ⟨g, ints l ++ ex, rfl, hb, by omega, hm, by simp [ints]; omega, ?_⟩⟩, by simp [ownB]; omega⟩
  rw [Nat.mul_one]
  exact List.take_left' (by simp [ints])

/-! ### ordered -/
def flawV (f : Flaw) : Value := .agg #[.int .i64 f.id, .int .i64 f.lo, .int .i64 f.hi, .int .i64 f.merit]

theorem ordered1_ok (w : World) (t : Tour) (af : Option Addr) (cf bc bl : Nat) (fnc : FuncId) (cmp : Flaw → Flaw → Int) (hF : FL w af t.flaws) (hfl : t.flaws.length ≤ 1000) (hb : HasBody Tryz.prog fnc)
    (hc : ∀ f ∈ t.flaws, ∀ g ∈ t.flaws, ∀ w1, Ret Tryz.prog fnc #[.agg #[.int .i64 f.id, .int .i64 f.lo, .int .i64 f.hi, .int .i64 f.merit], .agg #[.int .i64 g.id, .int .i64 g.lo, .int .i64 g.hi, .int .i64 g.merit]] w1 fun v w2 => v = .int .i64 (cmp f g) ∧ Chg [] w1 w2)
    (h1 : w.cell? ⟨bc, 0, none⟩ = some (.func (.func fnc) #[] #[])) (h2 : w.cell? ⟨bl, 0, none⟩ = some (.slice af t.flaws.length cf)) (x y : Int) (hx : 0 ≤ x ∧ x < t.flaws.length) (hy : 0 ≤ y ∧ y < t.flaws.length) :
    Ret Tryz.prog 153 #[.int .i64 x, .int .i64 y, .pointer (some ⟨bc, 0, none⟩), .pointer (some ⟨bl, 0, none⟩)] w fun v w' => v = .int .i64 (cmp (flawAt t x) (flawAt t y)) ∧ Chg [] w w' := by
  have hxl : x.toNat < t.flaws.length := by omega
  have hyl : y.toNat < t.flaws.length := by omega
  obtain ⟨b, o, rfl, hflaw⟩ := hF.get hxl
  rw [flawAt_get hxl, flawAt_get hyl]
  refine Ret.of_W (n := 17) Tryz.func153 rfl rfl (Nat.le_of_ble_eq_true rfl) ?_
  refine W.seq fun K hK => ?_
  refine W.region (by rfl) ?_
  refine Flow.assignC ?_
  refine hK _ _ _ ?_
  clear hK K
  refine W.seq fun K hK => ?_
  refine W.regionD [9] [] (by kernel_rfl) (by kernel_rfl) fun w0 c0 h0 => ?_
  refine FD.val (fun _ hw => Rn.load1 Tf.ty_148 rfl (cell_chg h1 c0 (by simp)) (hw rfl rfl)) ?_
  refine FD.val (fun _ hw => Rn.load1 Tf.ty_23 rfl (cell_chg h2 c0 (by simp)) (hw rfl rfl)) ?_
  refine FD.val (fun _ hw => Rn.move (v := .int _ _) rfl) ?_
  refine FD.val (fun _ hw => Rn.indexAddr Tf.sl_23 rfl rfl (by omega) (by omega)) ?_
  refine FD.val (fun _ hw => Rn.loadA Tf.ty_81 rfl rfl (Cells.chg c0 (by simp) (hflaw _ hxl)) (hw rfl rfl)) ?_
  refine FD.val (fun _ hw => Rn.load1 Tf.ty_23 rfl (cell_chg h2 c0 (by simp)) (hw rfl rfl)) ?_
  refine FD.val (fun _ hw => Rn.move (v := .int _ _) rfl) ?_
  refine FD.val (fun _ hw => Rn.indexAddr Tf.sl_23 rfl rfl (by omega) (by omega)) ?_
  refine FD.val (fun _ hw => Rn.loadA Tf.ty_81 rfl rfl (Cells.chg c0 (by simp) (hflaw _ hyl)) (hw rfl rfl)) ?_
  refine FD.eff (by rfl) (Chg.refl _ _) ?_
  refine Flow.callV2 rfl hb (v1 := .agg _) rfl (v2 := .agg _) rfl ?_
  refine Ret.mono (hc _ (List.getElem_mem hxl) _ (List.getElem_mem hyl) _) ?_
  rintro _ w3 ⟨rfl, c3⟩
  refine Flow.nil ⟨c3, ?_⟩
  refine FD.val (fun _ hw => Rn.assign (v := .int _ _) rfl) ?_
  refine FD.nil ?_
  refine hK _ _ _ ?_
  clear hK K
  refine W.ret ⟨_, res1 rfl (v := .int _ _) rfl, rfl, c0.then c3⟩

set_option maxHeartbeats 1000000 in
theorem ordered_ok (w : World) (t : Tour) (af : Option Addr) (cf : Nat) (fnc : FuncId) (cmp : Flaw → Flaw → Int) (hF : FL w af t.flaws) (hfl : t.flaws.length < 20) (hb : HasBody Tryz.prog fnc)
    (hc : ∀ f ∈ t.flaws, ∀ g ∈ t.flaws, ∀ w1, Ret Tryz.prog fnc #[.agg #[.int .i64 f.id, .int .i64 f.lo, .int .i64 f.hi, .int .i64 f.merit], .agg #[.int .i64 g.id, .int .i64 g.lo, .int .i64 g.hi, .int .i64 g.merit]] w1 fun v w2 => v = .int .i64 (cmp f g) ∧ Chg [] w1 w2) :
    Ret Tryz.prog 115 #[.slice af t.flaws.length cf, .func (.func fnc) #[] #[]] w fun v w' =>
      Chg [] w w' ∧ ∃ a c, v = .slice a t.flaws.length c ∧ Mine w.heap.size w' a c (orderS (fun x y => decide (cmp (flawAt t x) (flawAt t y) < 0)) t.flaws.length) := by
  obtain ⟨less, hless⟩ : ∃ less, less = fun x y => decide (cmp (flawAt t x) (flawAt t y) < 0) := ⟨_, rfl⟩
  rw [← hless]
  refine Ret.of_W (n := 21) Tryz.func115 rfl rfl (Nat.le_of_ble_eq_true rfl) ?_
  refine W.seq fun K hK => ?_
  refine W.region (by rfl) ?_
  refine Flow.box rfl (cs := [_]) rfl fun w1 c1 s1 b1 => ?_
  refine Flow.box rfl (cs := [_]) rfl fun w2 c2 s2 b2 => ?_
  refine Flow.assignC ?_
  refine hK _ _ _ ?_
  clear hK K
  refine W.seq fun K hK => ?_
  refine W.region (by rfl) ?_
  refine Flow.assignC ?_
  refine hK _ _ _ ?_
  clear hK K
  refine W.seq fun K2 hK2 => ?_
  refine W.seq fun K hK => ?_
  refine W.region (by rfl) ?_
  refine Flow.load1 Tf.ty_23 rfl ((b1.chg c2 (by simp)).cell 0) ?_
  refine Flow.len rfl Tf.us_23 rfl rfl ?_
  refine Flow.moveC ?_
  refine hK _ _ _ ?_
  clear hK K
  refine W.block ?_
  refine W.loop (ι := Nat × Option Addr × Nat) (fun k ds e w' => ds = [] ∧ k.1 ≤ t.flaws.length ∧ AllAt e [(2, .pointer (some ⟨w.heap.size, 0, none⟩)), (3, .pointer (some ⟨w1.heap.size, 0, none⟩)), (5, .slice k.2.1 k.1 k.2.2), (8, .int .i64 t.flaws.length), (9, .int .i64 k.1)] ∧
      Chg [] w2 w' ∧ Mine w2.heap.size w' k.2.1 k.2.2 (places k.1))
    (fun k => t.flaws.length - k.1) (i0 := (0, none, 0)) ⟨rfl, by omega, ⟨rfl, rfl, rfl, rfl, rfl, trivial⟩, Chg.refl _ _, Mine.nil _ _⟩ ?_
  rintro ⟨k, ao, co⟩ ds e w3 ⟨rfl, hk, hE, hc3, ho⟩
  obtain ⟨e, rfl⟩ : ∃ e0, e = putL e0 _ := ⟨e, putL_self hE⟩
  clear hE
  simp only at hk ho ⊢
  refine W.seq fun K hK => ?_
  refine W.region (by rfl) ?_
  refine Flow.lss rfl rfl ?_
  refine hK _ _ _ ?_
  clear hK K
  refine W.seq fun K3 hK3 => ?_
  refine W.cond rfl (fun h => W.skip (hK3 _ _ _ ?_)) (fun h => W.exit ?_)
  · have hlt : k < t.flaws.length := by simpa using h
    have ho1 := ho.1
    rw [places_len] at ho1
    have hp : places (k + 1) = places k ++ [(k : Int)] := by simp [places, List.range_succ]
    refine W.seq fun K4 hK4 => ?_
    refine W.block ?_
    refine W.seq fun K hK => ?_
    refine W.region (by rfl) ?_
    refine Flow.move (v := .int _ _) rfl ?_
    refine Flow.assign (v := .int _ _) rfl ?_
    refine hK _ _ _ ?_
    clear hK K
    refine W.region (by rfl) ?_
    refine Flow.move (v := .slice _ _ _) rfl ?_
    refine Flow.move (v := .int _ _) rfl ?_
    refine Flow.buildSlice1 Tf.sl_22 Tf.us_22 rfl (by decide) (by decide) rfl (cs := [_]) rfl rfl fun w4 c4 s4 b4 => ?_
    refine Flow.append Tf.sl_22 Tf.us_22 rfl (by decide) rfl rfl (ho1.ext c4) (b4.cells0) rfl rfl (by omega) (by omega) fun a5 cap5 w5 o5 c5 hd5 hn5 => ?_
    refine Flow.assign (v := .slice _ _ _) rfl ?_
    refine Flow.nil (hK4 _ _ _ ?_)
    have hm5 : Mine w2.heap.size w5 a5 cap5 (places k ++ [(k : Int)]) := (ho.ext c4).app (by have := hc3.size; omega) (by rw [places_len]; exact o5) hd5
    refine W.region (by rfl) ?_
    refine Flow.add rfl rfl (by omega) (by omega) ?_
    refine Flow.move (v := .int _ _) rfl ?_
    exact Flow.nil ⟨(k + 1, a5, cap5), by simp only; omega, rfl, by simp only; omega, ⟨rfl, rfl, rfl, rfl, rfl, trivial⟩, (hc3.then c4).step c5 ho.2, by simp only; rw [hp]; exact hm5⟩
  · have hge : k = t.flaws.length := by simp at h; omega
    subst hge
    refine hK2 _ _ _ ?_
    have b13 := b1.chg (c2.then hc3) (by simp)
    have b23 := b2.chg hc3 (by simp)
    by_cases h0 : t.flaws.length = 0
    · rw [h0]
      refine W.seq fun K hK => ?_
      refine W.region (by rfl) ?_
      refine Flow.move (v := .slice _ _ _) rfl ?_
      refine Flow.makeFunc2 rfl rfl ?_
      refine Flow.call2 Tf.hb_152 (v1 := .slice _ _ _) rfl (v2 := .func _ _ _) rfl ?_
      refine Ret.mono (sortStable0_ok _ _ _ _ _) ?_
      rintro _ w4 c4
      refine hK _ _ _ ?_
      clear hK K
      refine W.seq fun K hK => ?_
      refine W.region (by rfl) ?_
      refine Flow.move (v := .slice _ _ _) rfl ?_
      refine Flow.assign (v := .slice _ _ _) rfl ?_
      refine hK _ _ _ ?_
      clear hK K
      refine W.ret ⟨_, res1 rfl (v := .slice _ _ _) rfl, (c1.then c2).then (hc3.then c4), ao, co, rfl, ?_⟩
      have := ho.ext c4
      rw [h0] at this
      refine ⟨?_, fun b hb => by have := this.2 b hb; omega⟩
      simpa [orderS, sortS, places] using this.1
    · obtain ⟨g, ex, rfl, hg, hB, hcap, hmx⟩ := ho.blk (by intro h; apply h0; rw [← places_len t.flaws.length, h]; rfl)
      have hpl : (places t.flaws.length).length = t.flaws.length := places_len _
      have hsort := sortStable_ok w3 g co (places t.flaws.length) ex 153 #[.pointer (some ⟨w1.heap.size, 0, none⟩), .pointer (some ⟨w.heap.size, 0, none⟩)] less (fun x y => cmp (flawAt t x) (flawAt t y)) (fun x y => by rw [hless]) (by omega) Tf.hb_153
        (fun x hx y hy w4 c4 => ordered1_ok w4 t af cf _ _ fnc cmp ((hF.ext ((c1.then c2).then hc3)).chg c4 (hF.off (by simp; have := c1.size; have := c2.size; omega))) (by omega) hb hc ((b23.chg c4 (by simp; omega)).cell 0) ((b13.chg c4 (by simp; omega)).cell 0) x y (mem_places.1 hx) (mem_places.1 hy)) hB
      rw [hpl] at hsort
      refine W.seq fun K hK => ?_
      refine W.region (by rfl) ?_
      refine Flow.move (v := .slice _ _ _) rfl ?_
      refine Flow.makeFunc2 rfl rfl ?_
      refine Flow.call2 Tf.hb_152 (v1 := .slice _ _ _) rfl (v2 := .func _ _ _) rfl ?_
      refine Ret.mono (hsort) ?_
      rintro _ w4 ⟨hB4, c4⟩
      refine hK _ _ _ ?_
      clear hK K
      refine W.seq fun K hK => ?_
      refine W.region (by rfl) ?_
      refine Flow.move (v := .slice _ _ _) rfl ?_
      refine Flow.assign (v := .slice _ _ _) rfl ?_
      refine hK _ _ _ ?_
      clear hK K
      refine W.ret ⟨_, res1 rfl (v := .slice _ _ _) rfl, ((c1.then c2).then hc3).step c4 (by simp; omega), _, co, rfl, Mine.of_blk (by omega) hB4 ?_ hmx⟩
      rw [orderS, sortS_len]; exact hcap

end Go.Proofs.YtkoejelglinmnaaGreat

/-
  Contracts: best, merit.
-/
namespace Go.Proofs.YtkoejelglinmnaaGreat
open Sg
set_option maxRecDepth 100000

theorem best1_ok (w : World) (f g : Flaw) (hf : 0 ≤ f.merit ∧ f.merit ≤ 4194304) (hg : 0 ≤ g.merit ∧ g.merit ≤ 4194304) :
    Ret Tryz.prog 147 #[.agg #[.int .i64 f.id, .int .i64 f.lo, .int .i64 f.hi, .int .i64 f.merit], .agg #[.int .i64 g.id, .int .i64 g.lo, .int .i64 g.hi, .int .i64 g.merit]] w fun v w2 => v = .int .i64 (g.merit - f.merit) ∧ Chg [] w w2 := by
  refine Ret.of_W (n := 10) Tryz.func147 rfl rfl (Nat.le_of_ble_eq_true rfl) ?_
  refine W.seq fun K hK => ?_
  refine W.region (by rfl) ?_
  refine Flow.box rfl (cs := [_, _, _, _]) rfl fun w1 c1 s1 b1 => ?_
  refine Flow.box rfl (cs := [_, _, _, _]) rfl fun w2 c2 s2 b2 => ?_
  refine Flow.assignC ?_
  refine hK _ _ _ ?_
  clear hK K
  refine W.seq fun K hK => ?_
  refine W.region (by rfl) ?_
  refine Flow.fieldAddr Tf.fo_81_2 rfl ?_
  refine Flow.load1 Tf.ty_3 rfl (b2.cell 3) ?_
  refine Flow.fieldAddr Tf.fo_81_2 rfl ?_
  refine Flow.load1 Tf.ty_3 rfl ((b1.chg c2 (by simp)).cell 3) ?_
  refine Flow.sub rfl rfl (by omega) (by omega) ?_
  refine Flow.assign (v := .int _ _) rfl ?_
  refine hK _ _ _ ?_
  clear hK K
  refine W.ret ⟨_, res1 rfl (v := .int _ _) rfl, rfl, c1.then c2⟩

theorem b2il {w : World} {g : Nat} {l : List Int} (h : Blk w g (ints l) 3) : IL w (some ⟨g, 0, none⟩) l :=
  .inr ⟨g, 0, rfl, fun i hi => by rw [h.cell, Nat.zero_add]; simp [ints, hi]⟩

theorem lessW_eq (t : Tour) : (fun x y => decide ((fun f g : Flaw => g.merit - f.merit) (flawAt t x) (flawAt t y) < 0)) = lessW t := by
  funext x y
  simp only [lessW]
  congr 1
  simp only [eq_iff_iff]
  omega

theorem order_ok {t : Tour} {less : Int → Int → Bool} : ∀ i ∈ orderS less t.flaws.length, 0 ≤ i ∧ i < t.flaws.length := fun i hi => by
  rw [orderS, mem_sortS] at hi
  exact mem_places.1 hi

theorem noDays_inv (t : Tour) (m : Nat) : GInv t.days.toNat m (noDays t) [] := by
  refine ⟨by simp [noDays], fun x hx => .inl ?_, List.nodup_nil, by simp⟩
  simp only [noDays, List.mem_replicate] at hx
  exact hx.2

theorem addS_inv {t : Tour} (hs : Small t) {has : List Int} {i : Int} (hi : 0 ≤ i ∧ i < t.flaws.length) (h : GInv t.days.toNat t.flaws.length has []) : GInv t.days.toNat t.flaws.length ((addS (adjT t) fuel has i).getD has) [] := by
  obtain ⟨g1, _⟩ := give_inv (adj := adjT t) (n := t.days.toNat) (fun _ h => adjT_rg hs rfl h) fuel i has [] hi h
  unfold addS
  simp only
  split
  · exact ⟨g1.len, g1.ok, List.nodup_nil, by simp⟩
  · exact h

theorem addAll_inv {t : Tour} (hs : Small t) : ∀ (l : List Int) (has : List Int), (∀ i ∈ l, 0 ≤ i ∧ i < t.flaws.length) → GInv t.days.toNat t.flaws.length has [] → GInv t.days.toNat t.flaws.length (addAll (adjT t) has l) []
  | [], _, _, h => h
  | i :: l, has, hl, h => addAll_inv hs l _ (fun j hj => hl j (List.mem_cons_of_mem _ hj)) (addS_inv hs (hl i (by simp)) h)

theorem bestHas_inv {t : Tour} (hs : Small t) : GInv t.days.toNat t.flaws.length (bestHas t) [] := addAll_inv hs _ _ order_ok (noDays_inv t _)

set_option maxHeartbeats 1000000 in
theorem best_ok (w : World) (t : Tour) (ac af : Option Addr) (cc cf : Nat) (hC : IL w ac t.closed) (hF : FL w af t.flaws) (hs : Small t) (hfl : t.flaws.length < 20) :
    Ret Tryz.prog 103 #[.agg #[.int .i64 t.days, .slice ac t.closed.length cc, .slice af t.flaws.length cf]] w fun v w' => Chg [] w w' ∧ ∃ g, v = .agg #[.int .i64 t.days, .slice ac t.closed.length cc, .slice af t.flaws.length cf, .slice (some ⟨g, 0, none⟩) t.days.toNat t.days.toNat] ∧ w.heap.size ≤ g ∧ Blk w' g (ints (bestHas t)) 3 := by
  refine Ret.of_W (n := 20) Tryz.func103 rfl rfl (Nat.le_of_ble_eq_true rfl) ?_
  refine W.seq fun K hK => ?_
  refine W.region (by rfl) ?_
  refine Flow.box rfl (cs := [_, _, _]) rfl fun w1 c1 s1 b1 => ?_
  refine Flow.alloc Tf.ty_129 (cs := [_, _, _, _]) rfl fun w2 c2 s2 b2 => ?_
  refine hK _ _ _ ?_
  clear hK K
  refine W.seq fun K hK => ?_
  refine W.region (by rfl) ?_
  refine Flow.loadA Tf.ty_25 rfl rfl ((b1.chg c2 (by simp)).cells0) ?_
  refine Flow.call1 Tf.hb_96 (v1 := .agg _) rfl ?_
  refine Ret.mono (newPlan_ok _ t ac af cc cf hs) ?_
  rintro _ w3 ⟨c3, g, rfl, hg, b3⟩
  refine Flow.alloc Tf.ty_129 (cs := [_, _, _, _]) rfl fun w4 c4 s4 b4 => ?_
  refine Flow.store Tf.ty_129 rfl rfl (b4) (vs := [_, _, _, _]) rfl rfl (by simp) rfl fun w5 c5 s5 b5 => ?_
  refine hK _ _ _ ?_
  clear hK K
  have h3 := c3.size
  have c15 : Chg [] w1 w5 := (c2.then (c3.then c4)).step c5 (by simp; omega)
  have c25 : Chg [] w2 w5 := (c3.then c4).step c5 (by simp; omega)
  have hP : PlanM w2.heap.size w5 t ac af cc cf w3.heap.size (noDays t) := ⟨by omega, g, hg, by have := b3.lt; omega, b5, (b3.chg c4 (by simp)).chg c5 (by have := b3.lt; simp; omega)⟩
  refine W.seq fun K2 hK2 => ?_
  refine W.seq fun K hK => ?_
  refine W.region (by rfl) ?_
  refine Flow.fieldAddr Tf.fo_25_2 rfl ?_
  refine Flow.load1 Tf.ty_23 rfl ((b1.chg c15 (by simp)).cell 2) ?_
  refine Flow.call2 Tf.hb_115 (v1 := .slice _ _ _) rfl (v2 := .func _ _ _) rfl ?_
  refine Ret.mono (ordered_ok _ t af cf 147 (fun f g => g.merit - f.merit) (hF.ext (c1.then c15)) hfl Tf.hb_147 (fun f hf g hg w1 => best1_ok w1 f g (hs.me f hf) (hs.me g hg))) ?_
  rintro _ w6 ⟨c6, ao, co, rfl, ho⟩
  refine Flow.len rfl Tf.us_22 rfl rfl ?_
  refine Flow.moveC ?_
  refine hK _ _ _ ?_
  clear hK K
  rw [lessW_eq] at ho
  obtain ⟨L, hL⟩ : ∃ L, L = orderS (lessW t) t.flaws.length := ⟨_, rfl⟩
  have hLm : ∀ i ∈ L, 0 ≤ i ∧ i < t.flaws.length := by rw [hL]; exact order_ok
  have hbest : bestHas t = addAll (adjT t) (noDays t) L := by rw [hL]; rfl
  rw [← hL] at ho
  have hLl : L.length = t.flaws.length := by rw [hL, orderS, sortS_len, places_len]
  rw [← hLl]
  have c16 := c15.then c6
  refine W.block ?_
  refine W.loop (ι := Nat × List Int) (fun k ds e w' => ds = [] ∧ k.1 ≤ L.length ∧ AllAt e [(2, .pointer (some ⟨w1.heap.size, 0, none⟩)), (3, .pointer (some ⟨w3.heap.size, 0, none⟩)), (10, .slice ao L.length co), (11, .int .i64 L.length), (12, .int .i64 k.1)] ∧
      Chg [] w2 w' ∧ Chg [w3.heap.size] w6 w' ∧ PlanM w2.heap.size w' t ac af cc cf w3.heap.size k.2 ∧ GInv t.days.toNat t.flaws.length k.2 [] ∧ bestHas t = addAll (adjT t) k.2 (L.drop k.1))
    (fun k => L.length - k.1) (i0 := (0, noDays t)) ⟨rfl, by omega, ⟨rfl, rfl, rfl, rfl, rfl, trivial⟩, c25.then c6, Chg.refl _ _, hP.chg c6 (by simp), noDays_inv t _, by simpa using hbest⟩ ?_
  rintro ⟨k, has⟩ ds e w7 ⟨rfl, hk, hE, hc2, hc6, hP7, hI, hw⟩
  obtain ⟨e, rfl⟩ : ∃ e0, e = putL e0 _ := ⟨e, putL_self hE⟩
  clear hE
  simp only at hk hP7 hI hw ⊢
  refine W.seq fun K hK => ?_
  refine W.region (by rfl) ?_
  refine Flow.lss rfl rfl ?_
  refine hK _ _ _ ?_
  clear hK K
  refine W.seq fun K3 hK3 => ?_
  refine W.cond rfl (fun h => W.skip (hK3 _ _ _ ?_)) (fun h => W.exit ?_)
  · have hlt : k < L.length := by simpa using h
    have hoff : Off ao L [w3.heap.size] := fun hne x hx hm => by
      have h1 := ho.2 x.block (by rw [hx]; simp [ownB])
      have h5 := c15.size
      have h6 := s4; have h7 := s5
      simp at hm; omega
    obtain ⟨b, o, rfl, hcell⟩ := (ho.il.chg hc6 hoff).get hlt
    have hi := hLm _ (List.getElem_mem hlt)
    rw [List.drop_eq_getElem_cons hlt, addAll] at hw
    refine W.seq fun K4 hK4 => ?_
    refine W.block ?_
    refine W.seq fun K hK => ?_
    refine W.region (by rfl) ?_
    refine Flow.indexAddr1 Tf.sl_22 rfl rfl (by omega) (by omega) ?_
    refine Flow.load1 Tf.ty_3 rfl (hcell k hlt) ?_
    refine Flow.assign (v := .int _ _) rfl ?_
    refine hK _ _ _ ?_
    clear hK K
    refine W.region (by rfl) ?_
    refine Flow.move (v := .int _ _) rfl ?_
    refine Flow.call2 Tf.hb_99 (v1 := .pointer _) rfl (v2 := .int _ _) rfl ?_
    refine Ret.mono (add_ok w2.heap.size _ t hs ac af cc cf w3.heap.size has _ (hC.ext ((c1.then c2).then hc2)) (hF.ext ((c1.then c2).then hc2)) hi hc2.size hI hP7) ?_
    rintro _ w8 ⟨rfl, hP8, c8⟩
    refine Flow.nil (hK4 _ _ _ ?_)
    refine W.region (by rfl) ?_
    refine Flow.add rfl rfl (by omega) (by omega) ?_
    refine Flow.move (v := .int _ _) rfl ?_
    exact Flow.nil ⟨(k + 1, _), by simp only; omega, rfl, by simp only; omega, ⟨rfl, rfl, rfl, rfl, rfl, trivial⟩, hc2.step c8 (by simp; omega), hc6.trans c8 (fun _ _ h => h), hP8, addS_inv hs hi hI, hw⟩
  · have hge : k = L.length := by simp at h; omega
    subst hge
    rw [List.drop_length, addAll] at hw
    refine hK2 _ _ _ ?_
    obtain ⟨_, g7, hg7, hpg7, hp7, hb7⟩ := hP7
    refine W.seq fun K hK => ?_
    refine W.region (by rfl) ?_
    refine Flow.loadA Tf.ty_129 rfl rfl (hp7.cells0) ?_
    refine Flow.store Tf.ty_129 rfl rfl (b2.chg hc2 (by simp)) (vs := [_, _, _, _]) rfl rfl (by simp) rfl fun w8 c8 s8 b8 => ?_
    refine hK _ _ _ ?_
    clear hK K
    have h8 := hp7.lt
    refine W.ret ⟨_, resG1 rfl (OneR.cellA Tf.ty_129 rfl (l := [_, _, _, _]) rfl b8.cells0), (c1.then (c2.then hc2)).step c8 (by simp; omega), g7, rfl, by omega, ?_⟩
    rw [hw]
    exact hb7.chg c8 (by simp; omega)

theorem merit_ok (w : World) (t : Tour) (ac af : Option Addr) (cc cf : Nat) (hC : IL w ac t.closed) (hF : FL w af t.flaws) (hs : Small t) (hfl : t.flaws.length < 20) :
    Ret Tryz.prog 68 #[.agg #[.int .i64 t.days, .slice ac t.closed.length cc, .slice af t.flaws.length cf]] w fun v w' => v = .int .i64 (meritS t) ∧ Chg [] w w' := by
  refine Ret.of_W (n := 6) Tryz.func68 rfl rfl (Nat.le_of_ble_eq_true rfl) ?_
  refine W.seq fun K hK => ?_
  refine W.region (by rfl) ?_
  refine Flow.box rfl (cs := [_, _, _]) rfl fun w1 c1 s1 b1 => ?_
  refine Flow.assignC ?_
  refine hK _ _ _ ?_
  clear hK K
  have hb := bestHas_inv hs
  have hdh := hs.dh
  refine W.seq fun K hK => ?_
  refine W.region (by rfl) ?_
  refine Flow.loadA Tf.ty_25 rfl rfl (b1.cells0) ?_
  refine Flow.call1 Tf.hb_103 (v1 := .agg _) rfl ?_
  refine Ret.mono (best_ok _ t ac af cc cf (hC.ext c1) (hF.ext c1) hs hfl) ?_
  rintro _ w2 ⟨c2, g, rfl, hg, b2⟩
  refine Flow.call1 Tf.hb_128 (v1 := .agg _) rfl ?_
  refine Ret.mono (planMerit_ok _ t ac af cc cf hs _ _ _ (bestHas t) (hF.ext (c1.then c2)) (b2il b2) hb.len (by omega) hb.ok) ?_
  rintro _ w3 ⟨rfl, c3⟩
  refine Flow.assign (v := .int _ _) rfl ?_
  refine hK _ _ _ ?_
  clear hK K
  refine W.ret ⟨_, res1 rfl (v := .int _ _) rfl, rfl, c1.then (c2.then c3)⟩

end Go.Proofs.YtkoejelglinmnaaGreat

/-
  Contracts: flaws, Fits, dayOf, jam.
-/
namespace Go.Proofs.YtkoejelglinmnaaGreat
open Sg
set_option maxRecDepth 100000

/-- The error of a tour and a list of flaws. -/
def flawsE (t : Tour) (ids : List Int) : Int := if chk t = 0 then (if okL t ids then 0 else 1) else chk t
def flawsL (t : Tour) (ids : List Int) : List Int := if flawsE t ids = 0 then plL t ids else []

theorem chk_small {t : Tour} (h : chk t = 0) : Small t := (chk_valid h).small

theorem flaws_ok (w : World) (t : Tour) (ac af : Option Addr) (cc cf : Nat) (ai : Option Addr) (ci : Nat) (ids : List Int) (hC : IL w ac t.closed) (hF : FL w af t.flaws) (hcl : t.closed.length ≤ 1000) (hfl : t.flaws.length ≤ 1000) (hI : IL w ai ids) (hn : ids.length ≤ 1000) :
    Ret Tryz.prog 95 #[.agg #[.int .i64 t.days, .slice ac t.closed.length cc, .slice af t.flaws.length cf], .slice ai ids.length ci] w fun v w' =>
      (∃ a c, v = .tuple #[.slice a (flawsL t ids).length c, .int .i64 (flawsE t ids)] ∧ IL w' a (flawsL t ids) ∧ NewA w.heap.size a) ∧ Chg [] w w' := by
  refine Ret.of_W (n := 23) Tryz.func95 rfl rfl (Nat.le_of_ble_eq_true rfl) ?_
  refine W.seq fun K hK => ?_
  refine W.region (by rfl) ?_
  refine Flow.box rfl (cs := [_, _, _]) rfl fun w1 c1 s1 b1 => ?_
  refine Flow.assignC ?_
  refine Flow.assignC ?_
  refine hK _ _ _ ?_
  clear hK K
  refine W.seq fun K1 hK1 => ?_
  refine W.seq fun K hK => ?_
  refine W.region (by rfl) ?_
  refine Flow.loadA Tf.ty_25 rfl rfl (b1.cells0) ?_
  refine Flow.call1 Tf.hb_55 (v1 := .agg _) rfl ?_
  refine Ret.mono (check_ok _ t ac af cc cf (hC.ext c1) (hF.ext c1) hcl hfl) ?_
  rintro _ w2 ⟨rfl, c2⟩
  refine Flow.assign (v := .int _ _) rfl ?_
  refine hK _ _ _ ?_
  clear hK K
  refine W.seq fun K hK => ?_
  refine W.region (by rfl) ?_
  refine Flow.move (v := .int _ _) rfl ?_
  refine Flow.neq rfl rfl ?_
  refine hK _ _ _ ?_
  clear hK K
  refine W.cond rfl (fun h => ?_) (fun h => W.skip (hK1 _ _ _ ?_))
  · have h0 : chk t ≠ 0 := by simpa using h
    have e1 : flawsE t ids = chk t := by rw [flawsE, if_neg h0]
    have e2 : flawsL t ids = [] := by rw [flawsL, e1, if_neg h0]
    refine W.seq fun K hK => ?_
    refine W.region (by rfl) ?_
    refine Flow.move (v := .int _ _) rfl ?_
    refine Flow.assignC ?_
    refine Flow.assign (v := .int _ _) rfl ?_
    refine hK _ _ _ ?_
    clear hK K
    refine W.ret ⟨_, res2 rfl (v := .slice _ _ _) (v' := .int _ _) rfl rfl, ⟨none, 0, by rw [e1, e2]; rfl, .inl e2, by simp [NewA]⟩, c1.then c2⟩
  · have h0 : chk t = 0 := by simpa using h
    have c12 := c1.then c2
    refine W.seq fun K hK => ?_
    refine W.region (by rfl) ?_
    refine Flow.loadA Tf.ty_25 rfl rfl ((b1.chg c2 (by simp)).cells0) ?_
    refine Flow.move (v := .slice _ _ _) rfl ?_
    refine Flow.call2 Tf.hb_140 (v1 := .agg _) rfl (v2 := .slice _ _ _) rfl ?_
    refine Ret.mono (listed_ok _ t ac af cc cf ai ci ids (hC.ext c12) (hF.ext c12) (chk_small h0) (hI.ext c12) hn) ?_
    rintro _ w3 ⟨⟨a, c, rfl, hl, hna⟩, c3⟩
    refine Flow.move (v := .tuple _) rfl ?_
    refine Flow.extract (v := .slice _ _ _) rfl rfl ?_
    refine Flow.extract (v := .bool _) rfl rfl ?_
    refine Flow.assign (v := .slice _ _ _) rfl ?_
    refine Flow.assign (v := .bool _) rfl ?_
    refine hK _ _ _ ?_
    clear hK K
    refine W.seq fun K5 hK5 => ?_
    refine W.seq fun K hK => ?_
    refine W.region (by rfl) ?_
    refine Flow.move (v := .bool _) rfl ?_
    refine Flow.not rfl ?_
    refine hK _ _ _ ?_
    clear hK K
    refine W.cond rfl (fun h => ?_) (fun h => W.skip (hK5 _ _ _ ?_))
    · have h1 : okL t ids = false := by simpa using h
      have e1 : flawsE t ids = 1 := by rw [flawsE, if_pos h0, h1]; rfl
      have e2 : flawsL t ids = [] := by rw [flawsL, e1]; rfl
      refine W.seq fun K hK => ?_
      refine W.region (by rfl) ?_
      refine Flow.assignC ?_
      refine Flow.assignC ?_
      refine hK _ _ _ ?_
      clear hK K
      refine W.ret ⟨_, res2 rfl (v := .slice _ _ _) (v' := .int _ _) rfl rfl, ⟨none, 0, by rw [e1, e2]; rfl, .inl e2, by simp [NewA]⟩, c12.then c3⟩
    · have h1 : okL t ids = true := by simpa using h
      have e1 : flawsE t ids = 0 := by rw [flawsE, if_pos h0, h1]; rfl
      have e2 : flawsL t ids = plL t ids := by rw [flawsL, e1]; rfl
      refine W.seq fun K hK => ?_
      refine W.region (by rfl) ?_
      refine Flow.move (v := .slice _ _ _) rfl ?_
      refine Flow.assign (v := .slice _ _ _) rfl ?_
      refine Flow.assignC ?_
      refine hK _ _ _ ?_
      clear hK K
      refine W.ret ⟨_, res2 rfl (v := .slice _ _ _) (v' := .int _ _) rfl rfl, ⟨a, c, by rw [e1, e2], by rw [e2]; exact hl, fun x hx => by have := hna x hx; have := c12.size; omega⟩, c12.then c3⟩

/-- The error of a tour and a day. -/
def dayE (t : Tour) (day : Int) : Int := if chk t = 0 then (if 0 ≤ day ∧ day ≤ t.days - 1 then 0 else 1) else chk t

theorem dayOf_ok (w : World) (t : Tour) (ac af : Option Addr) (cc cf : Nat) (day : Int) (hC : IL w ac t.closed) (hF : FL w af t.flaws) (hcl : t.closed.length ≤ 1000) (hfl : t.flaws.length ≤ 1000) :
    Ret Tryz.prog 82 #[.agg #[.int .i64 t.days, .slice ac t.closed.length cc, .slice af t.flaws.length cf], .int .i64 day] w fun v w' => v = .int .i64 (dayE t day) ∧ Chg [] w w' := by
  refine Ret.of_W (n := 17) Tryz.func82 rfl rfl (Nat.le_of_ble_eq_true rfl) ?_
  refine W.seq fun K hK => ?_
  refine W.region (by rfl) ?_
  refine Flow.box rfl (cs := [_, _, _]) rfl fun w1 c1 s1 b1 => ?_
  refine Flow.assignC ?_
  refine hK _ _ _ ?_
  clear hK K
  refine W.seq fun K1 hK1 => ?_
  refine W.seq fun K hK => ?_
  refine W.region (by rfl) ?_
  refine Flow.loadA Tf.ty_25 rfl rfl (b1.cells0) ?_
  refine Flow.call1 Tf.hb_55 (v1 := .agg _) rfl ?_
  refine Ret.mono (check_ok _ t ac af cc cf (hC.ext c1) (hF.ext c1) hcl hfl) ?_
  rintro _ w2 ⟨rfl, c2⟩
  refine Flow.assign (v := .int _ _) rfl ?_
  refine hK _ _ _ ?_
  clear hK K
  refine W.seq fun K hK => ?_
  refine W.region (by rfl) ?_
  refine Flow.move (v := .int _ _) rfl ?_
  refine Flow.neq rfl rfl ?_
  refine hK _ _ _ ?_
  clear hK K
  refine W.cond rfl (fun h => ?_) (fun h => W.skip (hK1 _ _ _ ?_))
  · have h0 : chk t ≠ 0 := by simpa using h
    refine W.seq fun K hK => ?_
    refine W.region (by rfl) ?_
    refine Flow.move (v := .int _ _) rfl ?_
    refine Flow.assign (v := .int _ _) rfl ?_
    refine hK _ _ _ ?_
    clear hK K
    refine W.ret ⟨_, res1 rfl (v := .int _ _) rfl, by rw [dayE, if_neg h0], c1.then c2⟩
  · have h0 : chk t = 0 := by simpa using h
    have hs := chk_small h0
    have hdl := hs.dl
    have hdh := hs.dh
    refine W.seq fun K4 hK4 => ?_
    refine W.seq fun K hK => ?_
    refine W.region (by rfl) ?_
    refine Flow.move (v := .int _ _) rfl ?_
    refine Flow.fieldAddr Tf.fo_25_0 rfl ?_
    refine Flow.load1 Tf.ty_3 rfl ((b1.chg c2 (by simp)).cell 0) ?_
    refine Flow.sub rfl rfl (by omega) (by omega) ?_
    refine Flow.call3 Tf.hb_111 (v1 := .int _ _) rfl (v2 := .int _ _) rfl (v3 := .int _ _) rfl ?_
    refine Ret.mono (within_ok _ _ _ _) ?_
    rintro _ w3 ⟨rfl, c3⟩
    refine Flow.not rfl ?_
    refine hK _ _ _ ?_
    clear hK K
    refine W.cond rfl (fun h => ?_) (fun h => W.skip (hK4 _ _ _ ?_))
    · have h1 : ¬ (0 ≤ day ∧ day ≤ t.days - 1) := by simp at h; omega
      refine W.seq fun K hK => ?_
      refine W.region (by rfl) ?_
      refine Flow.assignC ?_
      refine hK _ _ _ ?_
      clear hK K
      refine W.ret ⟨_, res1 rfl (v := .int _ _) rfl, by rw [dayE, if_pos h0, if_neg h1], c1.then (c2.then c3)⟩
    · have h1 : 0 ≤ day ∧ day ≤ t.days - 1 := by simp at h; omega
      refine W.seq fun K hK => ?_
      refine W.region (by rfl) ?_
      refine Flow.assignC ?_
      refine hK _ _ _ ?_
      clear hK K
      refine W.ret ⟨_, res1 rfl (v := .int _ _) rfl, by rw [dayE, if_pos h0, if_pos h1], c1.then (c2.then c3)⟩

/-- The three results of Fits. -/
def fitsId (t : Tour) (on : List Int) : Int := if chk t = 0 ∧ on.length = t.flaws.length ∧ 0 ≤ wrongS t.closed 0 t.flaws on [] then (flawAt t (wrongS t.closed 0 t.flaws on [])).id else 0
def fitsB (t : Tour) (on : List Int) : Bool := decide (chk t = 0 ∧ on.length = t.flaws.length ∧ wrongS t.closed 0 t.flaws on [] < 0)
def fitsE (t : Tour) (on : List Int) : Int := if chk t = 0 then (if on.length = t.flaws.length then 0 else 1) else chk t

theorem wrongS_lt (c : List Int) : ∀ (fl : List Flaw) (on : List Int) (k : Nat) (tk : List Int), wrongS c k fl on tk = -1 ∨ ((k : Int) ≤ wrongS c k fl on tk ∧ wrongS c k fl on tk < k + fl.length)
  | [], [], _, _ => .inl rfl
  | [], _ :: _, _, _ => .inl rfl
  | _ :: _, [], _, _ => .inl rfl
  | f :: fl, d :: on, k, tk => by
    rw [wrongS]
    simp only [List.length_cons]
    split
    · rcases wrongS_lt c fl on (k + 1) tk with h | h
      · exact .inl h
      · right; omega
    · split
      · rcases wrongS_lt c fl on (k + 1) (d :: tk) with h | h
        · exact .inl h
        · right; omega
      · right; omega

theorem fits_ok (w : World) (t : Tour) (ac af : Option Addr) (cc cf : Nat) (ao : Option Addr) (co : Nat) (on : List Int) (hC : IL w ac t.closed) (hF : FL w af t.flaws) (hcl : t.closed.length ≤ 1000) (hfl : t.flaws.length ≤ 1000) (hO : IL w ao on) (hn : on.length ≤ 1000) :
    Ret Tryz.prog 41 #[.agg #[.int .i64 t.days, .slice ac t.closed.length cc, .slice af t.flaws.length cf], .slice ao on.length co] w fun v w' => v = .tuple #[.int .i64 (fitsId t on), .bool (fitsB t on), .int .i64 (fitsE t on)] ∧ Chg [] w w' := by
  refine Ret.of_W (n := 31) Tryz.func41 rfl rfl (Nat.le_of_ble_eq_true rfl) ?_
  refine W.seq fun K hK => ?_
  refine W.region (by rfl) ?_
  refine Flow.box rfl (cs := [_, _, _]) rfl fun w1 c1 s1 b1 => ?_
  refine Flow.assignC ?_
  refine Flow.assignC ?_
  refine Flow.assignC ?_
  refine hK _ _ _ ?_
  clear hK K
  refine W.seq fun K1 hK1 => ?_
  refine W.seq fun K hK => ?_
  refine W.region (by rfl) ?_
  refine Flow.loadA Tf.ty_25 rfl rfl (b1.cells0) ?_
  refine Flow.call1 Tf.hb_55 (v1 := .agg _) rfl ?_
  refine Ret.mono (check_ok _ t ac af cc cf (hC.ext c1) (hF.ext c1) hcl hfl) ?_
  rintro _ w2 ⟨rfl, c2⟩
  refine Flow.assign (v := .int _ _) rfl ?_
  refine hK _ _ _ ?_
  clear hK K
  refine W.seq fun K hK => ?_
  refine W.region (by rfl) ?_
  refine Flow.move (v := .int _ _) rfl ?_
  refine Flow.neq rfl rfl ?_
  refine hK _ _ _ ?_
  clear hK K
  have c12 := c1.then c2
  refine W.cond rfl (fun h => ?_) (fun h => W.skip (hK1 _ _ _ ?_))
  · have h0 : chk t ≠ 0 := by simpa using h
    refine W.seq fun K hK => ?_
    refine W.region (by rfl) ?_
    refine Flow.move (v := .int _ _) rfl ?_
    refine Flow.assignC ?_
    refine Flow.assignC ?_
    refine Flow.assign (v := .int _ _) rfl ?_
    refine hK _ _ _ ?_
    clear hK K
    refine W.ret ⟨_, res3 rfl (v := .int _ _) (v' := .bool _) (v'' := .int _ _) rfl rfl rfl, by simp [fitsId, fitsB, fitsE, h0], c12⟩
  have h0 : chk t = 0 := by simpa using h
  have b12 := b1.chg c2 (by simp)
  refine W.seq fun K4 hK4 => ?_
  refine W.seq fun K hK => ?_
  refine W.region (by rfl) ?_
  refine Flow.move (v := .slice _ _ _) rfl ?_
  refine Flow.len rfl Tf.us_22 rfl rfl ?_
  refine Flow.fieldAddr Tf.fo_25_2 rfl ?_
  refine Flow.load1 Tf.ty_23 rfl (b12.cell 2) ?_
  refine Flow.len rfl Tf.us_23 rfl rfl ?_
  refine Flow.neq rfl rfl ?_
  refine hK _ _ _ ?_
  clear hK K
  refine W.cond rfl (fun h => ?_) (fun h => W.skip (hK4 _ _ _ ?_))
  · have h1 : on.length ≠ t.flaws.length := by intro he; rw [he] at h; simp at h
    refine W.seq fun K hK => ?_
    refine W.region (by rfl) ?_
    refine Flow.assignC ?_
    refine Flow.assignC ?_
    refine Flow.assignC ?_
    refine hK _ _ _ ?_
    clear hK K
    refine W.ret ⟨_, res3 rfl (v := .int _ _) (v' := .bool _) (v'' := .int _ _) rfl rfl rfl, by simp [fitsId, fitsB, fitsE, h0, h1], c12⟩
  have h1 : on.length = t.flaws.length := by simp at h; omega
  refine W.seq fun K6 hK6 => ?_
  refine W.seq fun K hK => ?_
  refine W.region (by rfl) ?_
  refine Flow.loadA Tf.ty_25 rfl rfl (b12.cells0) ?_
  refine Flow.move (v := .slice _ _ _) rfl ?_
  refine Flow.call2 Tf.hb_90 (v1 := .agg _) rfl (v2 := .slice _ _ _) rfl ?_
  refine Ret.mono (wrong_ok _ t ac af ao cc cf co on (hC.ext c12) (hF.ext c12) (hO.ext c12) (chk_small h0) (by omega)) ?_
  rintro _ w3 ⟨rfl, c3⟩
  refine Flow.assign (v := .int _ _) rfl ?_
  refine hK _ _ _ ?_
  clear hK K
  have hlt := wrongS_lt t.closed t.flaws on 0 []
  refine W.seq fun K hK => ?_
  refine W.region (by rfl) ?_
  refine Flow.move (v := .int _ _) rfl ?_
  refine Flow.geq rfl rfl ?_
  refine hK _ _ _ ?_
  clear hK K
  refine W.cond rfl (fun h => ?_) (fun h => W.skip (hK6 _ _ _ ?_))
  · have h2 : 0 ≤ wrongS t.closed 0 t.flaws on [] := by simpa using h
    have h3 : (wrongS t.closed 0 t.flaws on []).toNat < t.flaws.length := by omega
    obtain ⟨bf, of_, rfl, hflaw⟩ := (hF.ext (c12.then c3)).get h3
    have h2' : ¬ wrongS t.closed 0 t.flaws on [] < 0 := by omega
    refine W.seq fun K hK => ?_
    refine W.region (by rfl) ?_
    refine Flow.fieldAddr Tf.fo_25_2 rfl ?_
    refine Flow.load1 Tf.ty_23 rfl ((b12.chg c3 (by simp)).cell 2) ?_
    refine Flow.move (v := .int _ _) rfl ?_
    refine Flow.indexAddr Tf.sl_23 rfl rfl (by omega) (by omega) ?_
    refine Flow.fieldAddr Tf.fo_81_0 rfl ?_
    refine Flow.load1 Tf.ty_3 rfl (fId (hflaw _ h3)) ?_
    refine Flow.assign (v := .int _ _) rfl ?_
    refine Flow.assignC ?_
    refine Flow.assignC ?_
    refine hK _ _ _ ?_
    clear hK K
    refine W.ret ⟨_, res3 rfl (v := .int _ _) (v' := .bool _) (v'' := .int _ _) rfl rfl rfl, by simp [fitsId, fitsB, fitsE, h0, h1, h2, h2', flawAt_get h3], c12.then c3⟩
  · have h2 : ¬ 0 ≤ wrongS t.closed 0 t.flaws on [] := by simpa using h
    have h2' : wrongS t.closed 0 t.flaws on [] < 0 := by omega
    refine W.seq fun K hK => ?_
    refine W.region (by rfl) ?_
    refine Flow.assignC ?_
    refine Flow.assignC ?_
    refine Flow.assignC ?_
    refine hK _ _ _ ?_
    clear hK K
    refine W.ret ⟨_, res3 rfl (v := .int _ _) (v' := .bool _) (v'' := .int _ _) rfl rfl rfl, by simp [fitsId, fitsB, fitsE, h0, h1, h2, h2'], c12.then c3⟩

theorem daysFrom_len (c : List Int) : ∀ (k : Nat) (d : Int), (daysFrom c k d).length ≤ k
  | 0, d => by simp [daysFrom]
  | k + 1, d => by
    simp only [daysFrom]
    have := daysFrom_len c k (d + 1)
    split
    · omega
    · simp only [List.length_cons]; omega

theorem jam_ok (w : World) (t : Tour) (ac af : Option Addr) (cc cf : Nat) (al : Option Addr) (cl : Nat) (l : List Int) (lo hi : Int) (hC : IL w ac t.closed) (hF : FL w af t.flaws) (hs : Small t) (hL : IL w al l) (hn : l.length ≤ 1000) (hl : ∀ i ∈ l, 0 ≤ i ∧ i < t.flaws.length) (hb : -1000000 ≤ lo ∧ hi ≤ 1000000) :
    Ret Tryz.prog 101 #[.agg #[.int .i64 t.days, .slice ac t.closed.length cc, .slice af t.flaws.length cf], .slice al l.length cl, .agg #[.int .i64 lo, .int .i64 hi]] w fun v w' => v = .bool (jamS t l lo hi) ∧ Chg [] w w' := by
  have hcl := hs.cl
  have hfl := hs.fl
  refine Ret.of_W (n := 32) Tryz.func101 rfl rfl (Nat.le_of_ble_eq_true rfl) ?_
  refine W.seq fun K hK => ?_
  refine W.region (by rfl) ?_
  refine Flow.box rfl (cs := [_, _, _]) rfl fun w1 c1 s1 b1 => ?_
  refine Flow.box rfl (cs := [_, _]) rfl fun w2 c2 s2 b2 => ?_
  refine Flow.assignC ?_
  refine hK _ _ _ ?_
  clear hK K
  refine W.seq fun K hK => ?_
  refine W.region (by rfl) ?_
  refine Flow.assignC ?_
  refine hK _ _ _ ?_
  clear hK K
  refine W.seq fun K2 hK2 => ?_
  refine W.seq fun K hK => ?_
  refine W.region (by rfl) ?_
  refine Flow.move (v := .slice _ _ _) rfl ?_
  refine Flow.len rfl Tf.us_22 rfl rfl ?_
  refine Flow.moveC ?_
  refine hK _ _ _ ?_
  clear hK K
  refine W.block ?_
  refine W.loop (ι := Nat × Nat) (fun k ds e w' => ds = [] ∧ k.1 ≤ l.length ∧ AllAt e [(3, .pointer (some ⟨w.heap.size, 0, none⟩)), (5, .pointer (some ⟨w1.heap.size, 0, none⟩)), (7, .int .i64 k.2), (10, .slice al l.length cl), (11, .int .i64 l.length), (12, .int .i64 k.1)] ∧
      Chg [] w2 w' ∧ k.2 ≤ k.1 ∧ withinS t lo hi l = k.2 + withinS t lo hi (l.drop k.1))
    (fun k => l.length - k.1) (i0 := (0, 0)) ⟨rfl, by omega, ⟨rfl, rfl, rfl, rfl, rfl, rfl, trivial⟩, Chg.refl _ _, Nat.le_refl _, by simp⟩ ?_
  rintro ⟨k, n⟩ ds e w3 ⟨rfl, hk, hE, hc, hnk, hw⟩
  obtain ⟨e, rfl⟩ : ∃ e0, e = putL e0 _ := ⟨e, putL_self hE⟩
  clear hE
  simp only at hk hnk hw ⊢
  refine W.seq fun K hK => ?_
  refine W.region (by rfl) ?_
  refine Flow.lss rfl rfl ?_
  refine hK _ _ _ ?_
  clear hK K
  refine W.seq fun K3 hK3 => ?_
  have c13 := c1.then (c2.then hc)
  have b13 := b1.chg (c2.then hc) (by simp)
  have b23 := b2.chg hc (by simp)
  refine W.cond rfl (fun h => W.skip (hK3 _ _ _ ?_)) (fun h => W.exit ?_)
  · have hlt : k < l.length := by simpa using h
    obtain ⟨b, o, rfl, hcell⟩ := (hL.ext c13).get hlt
    have hi := hl _ (List.getElem_mem hlt)
    have hil : l[k].toNat < t.flaws.length := by omega
    obtain ⟨bf, of_, rfl, hflaw⟩ := (hF.ext c13).get hil
    rw [List.drop_eq_getElem_cons hlt] at hw
    simp only [withinS, List.filter_cons, flawAt_get hil] at hw
    refine W.seq fun K4 hK4 => ?_
    refine W.block ?_
    refine W.seq fun K hK => ?_
    refine W.region (by rfl) ?_
    refine Flow.indexAddr1 Tf.sl_22 rfl rfl (by omega) (by omega) ?_
    refine Flow.load1 Tf.ty_3 rfl (hcell k hlt) ?_
    refine Flow.assign (v := .int _ _) rfl ?_
    refine hK _ _ _ ?_
    clear hK K
    refine W.seq fun K hK => ?_
    refine W.regionD [7] [] (by kernel_rfl) (by kernel_rfl) fun w4 c4 h4 => ?_
    refine FD.val (fun _ hw => Rn.fieldAddr Tf.fo_25_2 rfl) ?_
    refine FD.val (fun _ hw => Rn.load1 Tf.ty_23 rfl ((b13.chg c4 (by simp)).cell 2) (hw rfl rfl)) ?_
    refine FD.val (fun _ hw => Rn.move (v := .int _ _) rfl) ?_
    refine FD.val (fun _ hw => Rn.indexAddr Tf.sl_23 rfl rfl (by omega) (by omega)) ?_
    refine FD.val (fun _ hw => Rn.fieldAddr Tf.fo_81_1 rfl) ?_
    refine FD.val (fun _ hw => Rn.loadA Tf.ty_44 rfl rfl (fSpan (Cells.chg c4 (by simp) (hflaw _ hil))) (hw rfl rfl)) ?_
    refine FD.val (fun _ hw => Rn.loadA Tf.ty_44 rfl rfl ((b23.chg c4 (by simp)).cells0) (hw rfl rfl)) ?_
    refine FD.eff (by rfl) (Chg.refl _ _) ?_
    refine Flow.call2 Tf.hb_143 (v1 := .agg _) rfl (v2 := .agg _) rfl ?_
    refine Ret.mono (in_ok _ _ _ _ _) ?_
    rintro _ w5 ⟨rfl, c5⟩
    refine Flow.nil ⟨c5, ?_⟩
    refine FD.nil ?_
    refine hK _ _ _ ?_
    clear hK K
    refine W.cond rfl (fun h => ?_) (fun h => W.skip (hK4 _ _ _ ?_))
    · rw [if_pos h, List.length_cons] at hw
      refine W.region (by rfl) ?_
      refine Flow.move (v := .int _ _) rfl ?_
      refine Flow.add rfl rfl (by omega) (by omega) ?_
      refine Flow.assign (v := .int _ _) rfl ?_
      refine Flow.nil (hK4 _ _ _ ?_)
      refine W.region (by rfl) ?_
      refine Flow.add rfl rfl (by omega) (by omega) ?_
      refine Flow.move (v := .int _ _) rfl ?_
      exact Flow.nil ⟨(k + 1, n + 1), by simp only; omega, rfl, by simp only; omega, ⟨rfl, rfl, rfl, rfl, rfl, rfl, trivial⟩, hc.then (c4.then c5), by simp only; omega, by simp only [withinS]; omega⟩
    · rw [if_neg (by simpa using h)] at hw
      refine W.region (by rfl) ?_
      refine Flow.add rfl rfl (by omega) (by omega) ?_
      refine Flow.move (v := .int _ _) rfl ?_
      exact Flow.nil ⟨(k + 1, n), by simp only; omega, rfl, by simp only; omega, ⟨rfl, rfl, rfl, rfl, rfl, rfl, trivial⟩, hc.then (c4.then c5), by simp only; omega, by simp only [withinS]; omega⟩
  · have hge : k = l.length := by simp at h; omega
    subst hge
    rw [List.drop_length] at hw
    have hw : withinS t lo hi l = n := by rw [hw]; simp [withinS]
    refine hK2 _ _ _ ?_
    refine W.seq fun K hK => ?_
    refine W.region (by rfl) ?_
    refine Flow.move (v := .int _ _) rfl ?_
    refine Flow.loadA Tf.ty_25 rfl rfl (b13.cells0) ?_
    refine Flow.loadA Tf.ty_44 rfl rfl (b23.cells0) ?_
    refine Flow.call2 Tf.hb_144 (v1 := .agg _) rfl (v2 := .agg _) rfl ?_
    refine Ret.mono (room_ok _ t ac af cc cf lo hi (hC.ext c13) (by omega) hb) ?_
    rintro _ w4 ⟨rfl, c4⟩
    refine Flow.gtr rfl rfl ?_
    refine Flow.assign (v := .bool _) rfl ?_
    refine hK _ _ _ ?_
    clear hK K
    refine W.ret ⟨_, res1 rfl (v := .bool _) rfl, ?_, c13.then c4⟩
    rw [jamS, hw, roomS]
    congr 1
    simp only [decide_eq_decide]
    omega

end Go.Proofs.YtkoejelglinmnaaGreat

/-
  Contracts: Clone of ints and of flaws.
-/
namespace Go.Proofs.YtkoejelglinmnaaGreat
open Sg
set_option maxRecDepth 100000

theorem cloneI_ok (w : World) (a : Option Addr) (c : Nat) (l : List Int) (hl : IL w a l) (hn : l.length ≤ 1000) :
    Ret Tryz.prog 84 #[.slice a l.length c] w fun v w' => Chg [] w w' ∧ ∃ a' c', v = .slice a' l.length c' ∧ Mine w.heap.size w' a' c' l := by
  refine Ret.of_W (n := 8) Tryz.func84 rfl rfl (Nat.le_of_ble_eq_true rfl) ?_
  refine W.seq fun K hK => ?_
  refine W.region (by rfl) ?_
  refine Flow.assignC ?_
  refine hK _ _ _ ?_
  clear hK K
  refine W.seq fun K1 hK1 => ?_
  refine W.seq fun K hK => ?_
  refine W.region (by rfl) ?_
  refine Flow.move (v := .slice _ _ _) rfl ?_
  refine Flow.eqNil Tf.us_22 rfl ?_
  refine hK _ _ _ ?_
  clear hK K
  refine W.cond rfl (fun h => ?_) (fun h => W.skip (hK1 _ _ _ ?_))
  · have ha : a = none := by simpa using h
    have hl0 : l = [] := by
      rcases hl with h | ⟨b, o, h, _⟩
      · exact h
      · rw [ha] at h; cases h
    subst hl0
    refine W.seq fun K hK => ?_
    refine W.region (by rfl) ?_
    refine Flow.assignC ?_
    refine hK _ _ _ ?_
    clear hK K
    refine W.ret ⟨_, res1 rfl (v := .slice _ _ _) rfl, Chg.refl _ _, none, 0, rfl, Mine.nil _ _⟩
  · rcases hl with rfl | ⟨b, o, rfl, hcell⟩
    · refine W.seq fun K hK => ?_
      refine W.region (by rfl) ?_
      refine Flow.buildSlice0 Tf.sl_22 Tf.us_22 fun w1 c1 s1 b1 => ?_
      refine Flow.move (v := .slice _ _ _) rfl ?_
      refine Flow.append0 Tf.sl_22 Tf.us_22 rfl rfl (by omega) ?_
      refine Flow.assign (v := .slice _ _ _) rfl ?_
      refine hK _ _ _ ?_
      clear hK K
      refine W.ret ⟨_, res1 rfl (v := .slice _ _ _) rfl, c1, _, 0, rfl, Own.of_blk b1 rfl (by omega), by simp [ownB]⟩
    · have hl : IL w (some ⟨b, o, none⟩) l := .inr ⟨b, o, rfl, hcell⟩
      have hcells : Cells w b o (ints l) := Cells.ofGet fun j v hj => by
        have hjl : j < l.length := by simpa [ints] using (List.getElem?_eq_some_iff.1 hj).1
        rw [hcell j hjl]; simpa [ints, hjl] using hj
      refine W.seq fun K hK => ?_
      refine W.region (by rfl) ?_
      refine Flow.buildSlice0 Tf.sl_22 Tf.us_22 fun w1 c1 s1 b1 => ?_
      refine Flow.move (v := .slice _ _ _) rfl ?_
      refine Flow.append Tf.sl_22 Tf.us_22 rfl (by decide) rfl rfl (Own.of_blk (len := 0) (sz := 1) b1 rfl (by omega)) (Cells.chg c1 (by simp) hcells) (by simp [ints]) (by simp [ints, oneV]) (by omega) (by omega) fun a2 cap2 w2 o2 c2 hd2 hn2 => ?_
      refine Flow.assign (v := .slice _ _ _) rfl ?_
      refine hK _ _ _ ?_
      clear hK K
      have e0 : 0 + l.length = l.length := Nat.zero_add _
      rw [e0] at o2
      refine W.ret ⟨_, res1 rfl (v := .slice _ _ _) rfl, c1.step c2 (by simp [ownB]), a2, cap2, by rw [e0], o2, ?_⟩
      rcases hd2 with rfl | ⟨g, rfl, hg⟩
      · simp [ownB]
      · simp [ownB]; omega

/-! ### own lists of flaws -/
def flawsC (l : List Flaw) : List Value := l.flatMap flawCells

theorem flawsC_len (l : List Flaw) : (flawsC l).length = l.length * 4 := by
  induction l with
  | nil => rfl
  | cons f l ih => simp only [flawsC, List.flatMap_cons, List.length_append, List.length_cons] at ih ⊢; rw [ih]; simp [flawCells]; omega

theorem flawsC_all (l : List Flaw) : (flawsC l).all oneV = true := by
  induction l with
  | nil => rfl
  | cons f l ih => simp only [flawsC, List.flatMap_cons, List.all_append] at ih ⊢; rw [ih]; rfl

def MineF (s : Nat) (w : World) (a : Option Addr) (cap : Nat) (l : List Flaw) : Prop := Own w 81 4 a l.length cap (flawsC l) ∧ ∀ b ∈ ownB a, s ≤ b

theorem MineF.nil (s : Nat) (w : World) : MineF s w none 0 [] := ⟨Own.nil _ _ _, by simp [ownB]⟩
theorem MineF.ext {s : Nat} {w w' : World} {a : Option Addr} {cap : Nat} {l : List Flaw} (h : MineF s w a cap l) (hc : Chg [] w w') : MineF s w' a cap l := ⟨h.1.ext hc, h.2⟩
theorem MineF.chg {s : Nat} {w w' : World} {a : Option Addr} {cap : Nat} {l : List Flaw} {S : List Nat} (h : MineF s w a cap l) (hc : Chg S w w') (hS : ∀ b ∈ ownB a, b ∉ S) : MineF s w' a cap l := ⟨h.1.chg hc hS, h.2⟩

theorem cells_append {w : World} {b : Nat} : ∀ {l1 l2 : List Value} {o : Nat}, Cells w b o (l1 ++ l2) → Cells w b o l1 ∧ Cells w b (o + l1.length) l2
  | [], l2, o, h => ⟨trivial, by simpa using h⟩
  | v :: l1, l2, o, h => by
    obtain ⟨h1, h2⟩ := h
    obtain ⟨h3, h4⟩ := cells_append h2
    exact ⟨⟨h1, h3⟩, by rw [List.length_cons, show o + (l1.length + 1) = o + 1 + l1.length from by omega]; exact h4⟩

theorem cells_join {w : World} {b : Nat} : ∀ {l1 l2 : List Value} {o : Nat}, Cells w b o l1 → Cells w b (o + l1.length) l2 → Cells w b o (l1 ++ l2)
  | [], l2, o, _, h => by simpa using h
  | v :: l1, l2, o, h, h2 => ⟨h.1, cells_join h.2 (by rw [List.length_cons] at h2; rw [show o + 1 + l1.length = o + (l1.length + 1) from by omega]; exact h2)⟩

theorem flawsC_cells {w : World} {b : Nat} : ∀ {l : List Flaw} {o : Nat}, Cells w b o (flawsC l) ↔ ∀ i (h : i < l.length), Cells w b (o + i * 4) (flawCells l[i])
  | [], o => ⟨fun _ i h => by simp at h, fun _ => trivial⟩
  | f :: l, o => by
    constructor
    · intro h i hi
      obtain ⟨h1, h2⟩ := cells_append (l1 := flawCells f) h
      cases i with
      | zero => simpa using h1
      | succ i =>
        have := flawsC_cells.1 h2 i (by simpa using hi)
        rw [show o + (i + 1) * 4 = o + (flawCells f).length + i * 4 from by simp [flawCells]; omega]
        simpa using this
    · intro h
      have h00 := h 0 (by simp)
      rw [Nat.zero_mul] at h00
      refine cells_join (l1 := flawCells f) h00 (flawsC_cells.2 fun i hi => ?_)
      have := h (i + 1) (by simpa using hi)
      rw [show o + (i + 1) * 4 = o + (flawCells f).length + i * 4 from by simp [flawCells]; omega] at this
      simpa using this

theorem MineF.fl {s : Nat} {w : World} {a : Option Addr} {cap : Nat} {l : List Flaw} (h : MineF s w a cap l) : FL w a l := by
  rcases h.1.2 with ⟨_, hl, _⟩ | ⟨g, cs, rfl, hb, _, _, _, ht⟩
  · exact .inl (List.length_eq_zero_iff.1 hl)
  · refine .inr ⟨g, 0, rfl, flawsC_cells.1 ?_⟩
    rw [← ht]
    have := (Blk.cells0 hb)
    rw [← List.take_append_drop (l.length * 4) cs] at this
    exact (cells_append this).1

theorem cloneF_ok (w : World) (a : Option Addr) (c : Nat) (l : List Flaw) (hl : FL w a l) (hn : l.length ≤ 1000) :
    Ret Tryz.prog 138 #[.slice a l.length c] w fun v w' => Chg [] w w' ∧ ∃ a' c', v = .slice a' l.length c' ∧ MineF w.heap.size w' a' c' l := by
  refine Ret.of_W (n := 8) Tryz.func138 rfl rfl (Nat.le_of_ble_eq_true rfl) ?_
  refine W.seq fun K hK => ?_
  refine W.region (by rfl) ?_
  refine Flow.assignC ?_
  refine hK _ _ _ ?_
  clear hK K
  refine W.seq fun K1 hK1 => ?_
  refine W.seq fun K hK => ?_
  refine W.region (by rfl) ?_
  refine Flow.move (v := .slice _ _ _) rfl ?_
  refine Flow.eqNil Tf.us_23 rfl ?_
  refine hK _ _ _ ?_
  clear hK K
  refine W.cond rfl (fun h => ?_) (fun h => W.skip (hK1 _ _ _ ?_))
  · have ha : a = none := by simpa using h
    have hl0 : l = [] := by
      rcases hl with h | ⟨b, o, h, _⟩
      · exact h
      · rw [ha] at h; cases h
    subst hl0
    refine W.seq fun K hK => ?_
    refine W.region (by rfl) ?_
    refine Flow.assignC ?_
    refine hK _ _ _ ?_
    clear hK K
    refine W.ret ⟨_, res1 rfl (v := .slice _ _ _) rfl, Chg.refl _ _, none, 0, rfl, MineF.nil _ _⟩
  · rcases hl with rfl | ⟨b, o, rfl, hcell⟩
    · refine W.seq fun K hK => ?_
      refine W.region (by rfl) ?_
      refine Flow.buildSlice0 Tf.sl_23 Tf.us_23 fun w1 c1 s1 b1 => ?_
      refine Flow.move (v := .slice _ _ _) rfl ?_
      refine Flow.append0 Tf.sl_23 Tf.us_23 rfl rfl (by omega) ?_
      refine Flow.assign (v := .slice _ _ _) rfl ?_
      refine hK _ _ _ ?_
      clear hK K
      refine W.ret ⟨_, res1 rfl (v := .slice _ _ _) rfl, c1, _, 0, rfl, Own.of_blk b1 rfl (by omega), by simp [ownB]⟩
    · have hcells : Cells w b o (flawsC l) := flawsC_cells.2 hcell
      refine W.seq fun K hK => ?_
      refine W.region (by rfl) ?_
      refine Flow.buildSlice0 Tf.sl_23 Tf.us_23 fun w1 c1 s1 b1 => ?_
      refine Flow.move (v := .slice _ _ _) rfl ?_
      refine Flow.append Tf.sl_23 Tf.us_23 rfl (by decide) rfl rfl (Own.of_blk (len := 0) (sz := 4) b1 rfl (by omega)) (Cells.chg c1 (by simp) hcells) (flawsC_len l) (flawsC_all l) (by omega) (by omega) fun a2 cap2 w2 o2 c2 hd2 hn2 => ?_
      refine Flow.assign (v := .slice _ _ _) rfl ?_
      refine hK _ _ _ ?_
      clear hK K
      have e0 : 0 + l.length = l.length := Nat.zero_add _
      rw [e0] at o2
      refine W.ret ⟨_, res1 rfl (v := .slice _ _ _) rfl, c1.step c2 (by simp [ownB]), a2, cap2, by rw [e0], o2, ?_⟩
      rcases hd2 with rfl | ⟨g, rfl, hg⟩
      · simp [ownB]
      · simp [ownB]; omega

end Go.Proofs.YtkoejelglinmnaaGreat

/-
  Contract: without.
-/
namespace Go.Proofs.YtkoejelglinmnaaGreat
open Sg
set_option maxRecDepth 100000

theorem MineF.app {s : Nat} {w w' : World} {a a' : Option Addr} {cap cap' : Nat} {l : List Flaw} {f : Flaw} (h : MineF s w a cap l) (hs : s ≤ w.heap.size) (ho : Own w' 81 4 a' (l.length + 1) cap' (flawsC l ++ flawCells f))
    (hd : a' = a ∨ ∃ g, a' = some ⟨g, 0, none⟩ ∧ w.heap.size ≤ g) : MineF s w' a' cap' (l ++ [f]) := by
  refine ⟨by simpa [flawsC] using ho, ?_⟩
  rcases hd with rfl | ⟨g, rfl, hg⟩
  · exact h.2
  · intro b hb; simp [ownB] at hb; omega

/-- The flaws ahead of place k that are not of a list. -/
def leftS (t : Tour) (l : List Int) (k : Nat) : List Flaw := ((List.range k).filter fun (i : Nat) => !(l.contains (i : Int))).map fun (i : Nat) => flawAt t (i : Int)

theorem leftS_len (t : Tour) (l : List Int) (k : Nat) : (leftS t l k).length ≤ k := by
  simp only [leftS, List.length_map]
  have := List.length_filter_le (fun (i : Nat) => !(l.contains (i : Int))) (List.range k)
  simpa using this

theorem leftS_succ (t : Tour) (l : List Int) (k : Nat) : leftS t l (k + 1) = if (k : Int) ∈ l then leftS t l k else leftS t l k ++ [flawAt t k] := by
  simp only [leftS, List.range_succ, List.filter_append, List.map_append]
  by_cases h : (k : Int) ∈ l
  · simp [h]
  · simp [h]

theorem leftS_all (t : Tour) (l : List Int) : (withoutS t l).flaws = leftS t l t.flaws.length := rfl

theorem mem_leftS {t : Tour} {l : List Int} {k : Nat} (hk : k ≤ t.flaws.length) : ∀ f ∈ leftS t l k, f ∈ t.flaws := by
  intro f hf
  simp only [leftS, List.mem_map, List.mem_filter, List.mem_range] at hf
  obtain ⟨i, ⟨hi, _⟩, rfl⟩ := hf
  rw [flawAt_get (by simp; omega)]
  exact List.getElem_mem _

theorem Small.without {t : Tour} (hs : Small t) (l : List Int) : Small (withoutS t l) := by
  have := leftS_len t l t.flaws.length
  have h2 := hs.fl
  exact ⟨hs.dl, hs.dh, hs.cl, by rw [leftS_all]; omega, fun f hf => hs.sp f (mem_leftS (Nat.le_refl _) f hf), fun f hf => hs.me f (mem_leftS (Nat.le_refl _) f hf)⟩

theorem Mine.weak {s s' : Nat} {w : World} {a : Option Addr} {cap : Nat} {l : List Int} (h : Mine s w a cap l) (hs : s' ≤ s) : Mine s' w a cap l := ⟨h.1, fun b hb => Nat.le_trans hs (h.2 b hb)⟩
theorem MineF.weak {s s' : Nat} {w : World} {a : Option Addr} {cap : Nat} {l : List Flaw} (h : MineF s w a cap l) (hs : s' ≤ s) : MineF s' w a cap l := ⟨h.1, fun b hb => Nat.le_trans hs (h.2 b hb)⟩

set_option maxHeartbeats 1000000 in
theorem without_ok (w : World) (t : Tour) (ac af : Option Addr) (cc cf : Nat) (al : Option Addr) (cl : Nat) (l : List Int) (hC : IL w ac t.closed) (hF : FL w af t.flaws) (hcl : t.closed.length ≤ 1000) (hfl : t.flaws.length ≤ 1000) (hL : IL w al l) (hn : l.length ≤ 1000) :
    Ret Tryz.prog 69 #[.agg #[.int .i64 t.days, .slice ac t.closed.length cc, .slice af t.flaws.length cf], .slice al l.length cl] w fun v w' => Chg [] w w' ∧ ∃ a1 c1 a2 c2, v = .agg #[.int .i64 t.days, .slice a1 t.closed.length c1, .slice a2 (withoutS t l).flaws.length c2] ∧ Mine w.heap.size w' a1 c1 t.closed ∧ MineF w.heap.size w' a2 c2 (withoutS t l).flaws := by
  rw [leftS_all]
  refine Ret.of_W (n := 34) Tryz.func69 rfl rfl (Nat.le_of_ble_eq_true rfl) ?_
  refine W.seq fun K hK => ?_
  refine W.region (by rfl) ?_
  refine Flow.box rfl (cs := [_, _, _]) rfl fun w1 c1 s1 b1 => ?_
  refine Flow.alloc Tf.ty_25 (cs := [_, _, _]) rfl fun w2 c2 s2 b2 => ?_
  refine hK _ _ _ ?_
  clear hK K
  refine W.seq fun K hK => ?_
  refine W.region (by rfl) ?_
  refine Flow.loadA Tf.ty_25 rfl rfl ((b1.chg c2 (by simp)).cells0) ?_
  refine Flow.alloc Tf.ty_25 (cs := [_, _, _]) rfl fun w3 c3 s3 b3 => ?_
  refine Flow.store Tf.ty_25 rfl rfl (b3) (vs := [_, _, _]) rfl rfl (by simp) rfl fun w4 c4 s4 b4 => ?_
  refine hK _ _ _ ?_
  clear hK K
  have c24 : Chg [] w2 w4 := c3.step c4 (by simp)
  have c14 := c2.then c24
  refine W.seq fun K hK => ?_
  refine W.region (by rfl) ?_
  refine Flow.fieldAddr Tf.fo_25_1 rfl ?_
  refine Flow.load1 Tf.ty_22 rfl ((b1.chg c14 (by simp)).cell 1) ?_
  refine Flow.call1 Tf.hb_84 (v1 := .slice _ _ _) rfl ?_
  refine Ret.mono (cloneI_ok _ _ _ _ (hC.ext (c1.then c14)) hcl) ?_
  rintro _ w5 ⟨c5, a1, k1, rfl, hm1⟩
  refine Flow.fieldAddr Tf.fo_25_1 rfl ?_
  refine Flow.store1 Tf.ty_22 rfl (v := .slice _ _ _) rfl ((b4.chg c5 (by simp))) (by simp) rfl fun w6 c6 s6 b6 => ?_
  refine Flow.fieldAddr Tf.fo_25_2 rfl ?_
  refine Flow.store1 Tf.ty_23 rfl (v := .slice _ _ _) rfl (b6) (by simp) rfl fun w7 c7 s7 b7 => ?_
  refine hK _ _ _ ?_
  clear hK K
  have h5 := c5.size
  have c27 : Chg [] w2 w7 := ((c24.then c5).step c6 (by simp)).step c7 (by simp)
  have c17 := c2.then c27
  have hno : ∀ b ∈ ownB a1, b ∉ ([w2.heap.size] : List Nat) := fun b hb h => by have := hm1.2 b hb; simp at h; omega
  have hm7 := (hm1.chg c6 hno).chg c7 hno
  refine W.seq fun K3 hK3 => ?_
  have hc57 : w5.heap.size = w7.heap.size := by omega
  have hlt1 : ∀ b ∈ ownB a1, b < w7.heap.size := fun b hb => by have := hm1.1.lt b hb; omega
  refine W.seq fun K hK => ?_
  refine W.region (by rfl) ?_
  refine Flow.fieldAddr Tf.fo_25_2 rfl ?_
  refine Flow.load1 Tf.ty_23 rfl ((b1.chg c17 (by simp)).cell 2) ?_
  refine Flow.len rfl Tf.us_23 rfl rfl ?_
  refine Flow.moveC ?_
  refine hK _ _ _ ?_
  clear hK K
  refine W.block ?_
  refine W.loop (ι := Nat × Option Addr × Nat) (fun k ds e w' => ds = [] ∧ k.1 ≤ t.flaws.length ∧ AllAt e [(1, .slice al l.length cl), (4, .pointer (some ⟨w1.heap.size, 0, none⟩)), (5, .pointer (some ⟨w2.heap.size, 0, none⟩)), (15, .slice af t.flaws.length cf), (16, .int .i64 t.flaws.length), (17, .int .i64 k.1)] ∧
      Chg [] w2 w' ∧ w7.heap.size ≤ w'.heap.size ∧ Mine w4.heap.size w' a1 k1 t.closed ∧ MineF w7.heap.size w' k.2.1 k.2.2 (leftS t l k.1) ∧ Blk w' w2.heap.size [.int .i64 t.days, .slice a1 t.closed.length k1, .slice k.2.1 (leftS t l k.1).length k.2.2] 25)
    (fun k => t.flaws.length - k.1) (i0 := (0, none, 0)) ⟨rfl, by omega, ⟨rfl, rfl, rfl, rfl, rfl, rfl, trivial⟩, c27, Nat.le_refl _, hm7, MineF.nil _ _, b7⟩ ?_
  rintro ⟨k, ao, co⟩ ds e w8 ⟨rfl, hk, hE, hc8, hsz, hm8, hf8, hb8⟩
  obtain ⟨e, rfl⟩ : ∃ e0, e = putL e0 _ := ⟨e, putL_self hE⟩
  clear hE
  simp only at hk hsz hm8 hf8 hb8 ⊢
  have hnf := hf8.2
  have h27 := c27.size
  refine W.seq fun K hK => ?_
  refine W.region (by rfl) ?_
  refine Flow.lss rfl rfl ?_
  refine hK _ _ _ ?_
  clear hK K
  refine W.seq fun K4 hK4 => ?_
  refine W.cond rfl (fun h => W.skip (hK4 _ _ _ ?_)) (fun h => W.exit ?_)
  · have hlt : k < t.flaws.length := by simpa using h
    have c08 := (c1.then c2).then hc8
    obtain ⟨bf, of_, rfl, hflaw⟩ := (hF.ext c08).get hlt
    have hlen := leftS_len t l k
    have hs8 := hc8.size
    have hs78 : w7.heap.size ≤ w8.heap.size := hsz
    have hsu := leftS_succ t l k
    have hget : flawAt t k = t.flaws[k] := flawAt_get (by simpa using hlt)
    rw [hget] at hsu
    refine W.seq fun K5 hK5 => ?_
    refine W.block ?_
    refine W.seq fun K hK => ?_
    refine W.region (by rfl) ?_
    refine Flow.move (v := .int _ _) rfl ?_
    refine Flow.indexAddr Tf.sl_23 rfl rfl (by omega) (by omega) ?_
    refine Flow.loadA Tf.ty_81 rfl rfl (hflaw k hlt) ?_
    refine Flow.alloc Tf.ty_81 (cs := [_, _, _, _]) rfl fun w9 c9 s9 b9 => ?_
    refine Flow.assign (v := .int _ _) rfl ?_
    refine Flow.store Tf.ty_81 rfl rfl (b9) (vs := [_, _, _, _]) rfl rfl (by simp) rfl fun w10 c10 s10 b10 => ?_
    refine hK _ _ _ ?_
    clear hK K
    have c810 : Chg [] w8 w10 := c9.step c10 (by simp)
    refine W.seq fun K hK => ?_
    refine W.region (by rfl) ?_
    refine Flow.move (v := .slice _ _ _) rfl ?_
    refine Flow.move (v := .int _ _) rfl ?_
    refine Flow.call2 Tf.hb_129 (v1 := .slice _ _ _) rfl (v2 := .int _ _) rfl ?_
    refine Ret.mono (contains_ok _ _ _ _ _ (hL.ext (c08.then c810)) (by omega)) ?_
    rintro _ w11 ⟨rfl, c11⟩
    refine Flow.not rfl ?_
    refine hK _ _ _ ?_
    clear hK K
    have c811 := c810.then c11
    have hm11 := hm8.ext c811
    have hf11 := hf8.ext c811
    have hb11 := hb8.chg c811 (by simp)
    refine W.cond rfl (fun h => ?_) (fun h => W.skip (hK5 _ _ _ ?_))
    · have hin : (k : Int) ∉ l := by simpa using h
      rw [if_neg hin] at hsu
      have hb1011 := b10.chg c11 (by simp)
      refine W.region (by rfl) ?_
      refine Flow.fieldAddr Tf.fo_25_2 rfl ?_
      refine Flow.load1 Tf.ty_23 rfl (hb11.cell 2) ?_
      refine Flow.loadA Tf.ty_81 rfl rfl (hb1011.cells0) ?_
      refine Flow.buildSlice1 Tf.sl_23 Tf.us_23 rfl (by decide) (by decide) rfl (cs := [_, _, _, _]) rfl rfl fun w12 c12 s12 b12 => ?_
      refine Flow.append Tf.sl_23 Tf.us_23 rfl (by decide) rfl rfl (hf11.1.ext c12) (b12.cells0) rfl rfl (by omega) (by omega) fun a5 cap5 w13 o5 c13 hd5 hn5 => ?_
      refine Flow.fieldAddr Tf.fo_25_2 rfl ?_
      refine Flow.store1 Tf.ty_23 rfl (v := .slice _ _ _) rfl ((hb11.chg c12 (by simp)).chg c13 (fun h => by have := hnf _ h; omega)) (by simp) rfl fun w14 c14' s14 b14 => ?_
      have hs11 := c811.size
      have hf13 : MineF w7.heap.size w13 a5 cap5 (leftS t l k ++ [t.flaws[k]]) := (hf11.ext c12).app (by have := c12.size; have := hs78; omega) o5 hd5
      refine Flow.nil (hK5 _ _ _ ?_)
      refine W.region (by rfl) ?_
      refine Flow.add rfl rfl (by omega) (by omega) ?_
      refine Flow.move (v := .int _ _) rfl ?_
      have hm13 : Mine w4.heap.size w13 a1 k1 t.closed := (hm11.ext c12).chg c13 (fun b hb h => by have := hnf b h; have := hlt1 b hb; omega)
      refine Flow.nil ⟨(k + 1, a5, cap5), by simp only; omega, rfl, by simp only; omega, ⟨rfl, rfl, rfl, rfl, rfl, rfl, trivial⟩, (((hc8.then c811).then c12).step c13 (fun b hb => by have := hnf b hb; omega)).step c14' (by simp), ?_, hm13.chg c14' (fun b hb h => by have := hm13.2 b hb; simp at h; omega), ?_, ?_⟩
      · have := c12.size; have := c13.size; omega
      · simp only; rw [hsu]; exact hf13.chg c14' (fun b hb h => by have := hf13.2 b hb; simp at h; omega)
      · simp only; rw [hsu]; simpa using b14
    · have hin : (k : Int) ∈ l := by simpa using h
      rw [if_pos hin] at hsu
      refine W.region (by rfl) ?_
      refine Flow.add rfl rfl (by omega) (by omega) ?_
      refine Flow.move (v := .int _ _) rfl ?_
      refine Flow.nil ⟨(k + 1, ao, co), by simp only; omega, rfl, by simp only; omega, ⟨rfl, rfl, rfl, rfl, rfl, rfl, trivial⟩, hc8.then c811, by have := c811.size; omega, hm11, by simp only; rw [hsu]; exact hf11, by simp only; rw [hsu]; exact hb11⟩
  · have hge : k = t.flaws.length := by simp at h; omega
    subst hge
    refine hK3 _ _ _ ?_
    refine W.seq fun K hK => ?_
    refine W.region (by rfl) ?_
    refine Flow.loadA Tf.ty_25 rfl rfl (hb8.cells0) ?_
    refine Flow.store Tf.ty_25 rfl rfl (b2.chg hc8 (by simp)) (vs := [_, _, _]) rfl rfl (by simp) rfl fun w9 c9 s9 b9 => ?_
    refine hK _ _ _ ?_
    clear hK K
    have hs8 := hc8.size
    refine W.ret ⟨_, resG1 rfl (OneR.cellA Tf.ty_25 rfl (l := [_, _, _]) rfl b9.cells0), (c1.then (c2.then hc8)).step c9 (by simp; omega), a1, k1, ao, co, rfl, (hm8.weak (by omega)).chg c9 (fun b hb h => by have := hm8.2 b hb; simp at h; omega), (hf8.weak (by omega)).chg c9 (fun b hb h => by have := hnf b hb; simp at h; omega)⟩

end Go.Proofs.YtkoejelglinmnaaGreat

/-
  Contracts: cmp.Less, BinarySearch.
-/
namespace Go.Proofs.YtkoejelglinmnaaGreat
open Sg
set_option maxRecDepth 100000

theorem nan1_ok (w : World) (x : Int) : Ret Tryz.prog 167 #[.int .i64 x] w fun v w' => v = .bool false ∧ Chg [] w w' := by
  refine Ret.of_W (n := 6) Tryz.func167 rfl rfl (Nat.le_of_ble_eq_true rfl) ?_
  refine W.seq fun K hK => ?_
  refine W.region (by rfl) ?_
  refine Flow.assignC ?_
  refine hK _ _ _ ?_
  clear hK K
  refine W.seq fun K hK => ?_
  refine W.region (by rfl) ?_
  refine Flow.move (v := .int _ _) rfl ?_
  refine Flow.move (v := .int _ _) rfl ?_
  refine Flow.neq rfl rfl ?_
  refine Flow.assign (v := .bool _) rfl ?_
  refine hK _ _ _ ?_
  clear hK K
  refine W.ret ⟨_, res1 rfl (v := .bool _) rfl, by simp, Chg.refl _ _⟩

theorem nan2_ok (w : World) (x : Int) : Ret Tryz.prog 178 #[.int .i64 x] w fun v w' => v = .bool false ∧ Chg [] w w' := by
  refine Ret.of_W (n := 6) Tryz.func178 rfl rfl (Nat.le_of_ble_eq_true rfl) ?_
  refine W.seq fun K hK => ?_
  refine W.region (by rfl) ?_
  refine Flow.assignC ?_
  refine hK _ _ _ ?_
  clear hK K
  refine W.seq fun K hK => ?_
  refine W.region (by rfl) ?_
  refine Flow.move (v := .int _ _) rfl ?_
  refine Flow.move (v := .int _ _) rfl ?_
  refine Flow.neq rfl rfl ?_
  refine Flow.assign (v := .bool _) rfl ?_
  refine hK _ _ _ ?_
  clear hK K
  refine W.ret ⟨_, res1 rfl (v := .bool _) rfl, by simp, Chg.refl _ _⟩

theorem less_ok (w : World) (x y : Int) : Ret Tryz.prog 162 #[.int .i64 x, .int .i64 y] w fun v w' => v = .bool (decide (x < y)) ∧ Chg [] w w' := by
  refine Ret.of_W (n := 17) Tryz.func162 rfl rfl (Nat.le_of_ble_eq_true rfl) ?_
  refine W.seq fun K hK => ?_
  refine W.region (by rfl) ?_
  refine Flow.assignC ?_
  refine hK _ _ _ ?_
  clear hK K
  refine W.seq fun K hK => ?_
  refine W.region (by rfl) ?_
  refine Flow.move (v := .int _ _) rfl ?_
  refine Flow.call1 Tf.hb_178 (v1 := .int _ _) rfl ?_
  refine Ret.mono (nan2_ok _ _) ?_
  rintro _ w1 ⟨rfl, c1⟩
  refine Flow.move (v := .bool _) rfl ?_
  refine Flow.off (c := false) rfl rfl rfl ?_
  refine Flow.off (c := false) rfl rfl rfl ?_
  refine Flow.off (c := false) rfl rfl rfl ?_
  refine Flow.pickF rfl rfl ?_
  refine Flow.move (v := .bool _) rfl ?_
  refine Flow.on rfl rfl ?_
  refine Flow.move (v := .int _ _) rfl ?_
  refine Flow.on rfl rfl ?_
  refine Flow.move (v := .int _ _) rfl ?_
  refine Flow.on rfl rfl ?_
  refine Flow.lss rfl rfl ?_
  refine Flow.pickF rfl rfl ?_
  refine Flow.assign (v := .bool _) rfl ?_
  refine hK _ _ _ ?_
  clear hK K
  refine W.ret ⟨_, res1 rfl (v := .bool _) rfl, rfl, c1⟩

/-- How many are less. -/
def cntLt (l : List Int) (x : Int) : Nat := (l.filter fun y => decide (y < x)).length

theorem cntLt_at {l : List Int} {x : Int} {k : Nat} (hk : k ≤ l.length) (h1 : ∀ j (h : j < l.length), j < k → l[j] < x) (h2 : ∀ j (h : j < l.length), k ≤ j → x ≤ l[j]) : cntLt l x = k := by
  unfold cntLt
  have hl : l = l.take k ++ l.drop k := (List.take_append_drop k l).symm
  have e1 : (l.take k).filter (fun y => decide (y < x)) = l.take k := List.filter_eq_self.2 fun y hy => by
    obtain ⟨j, hj, rfl⟩ := List.getElem_of_mem hy
    simp only [List.length_take] at hj
    have := h1 j (by omega) (by omega)
    simpa using this
  have e2 : (l.drop k).filter (fun y => decide (y < x)) = [] := List.filter_eq_nil_iff.2 fun y hy => by
    obtain ⟨j, hj, rfl⟩ := List.getElem_of_mem hy
    simp only [List.length_drop] at hj
    have := h2 (k + j) (by omega) (by omega)
    simp; omega
  rw [hl, List.filter_append, e1, e2, List.append_nil, List.length_take]
  omega

theorem sorted_get {l : List Int} (h : l.Pairwise (· < ·)) {i j : Nat} (hi : i < l.length) (hj : j < l.length) (hij : i < j) : l[i] < l[j] := (List.pairwise_iff_getElem.1 h) i j hi hj hij

theorem binSearch_ok (w : World) (a : Option Addr) (c : Nat) (l : List Int) (x : Int) (hl : IL w a l) (hn : l.length ≤ 1000) (hsl : l.Pairwise (· < ·)) :
    Ret Tryz.prog 136 #[.slice a l.length c, .int .i64 x] w fun v w' => v = .tuple #[.int .i64 (cntLt l x), .bool (decide (x ∈ l))] ∧ Chg [] w w' := by
  refine Ret.of_W (n := 54) Tryz.func136 rfl rfl (Nat.le_of_ble_eq_true rfl) ?_
  refine W.seq fun K hK => ?_
  refine W.region (by rfl) ?_
  refine Flow.assignC ?_
  refine Flow.assignC ?_
  refine hK _ _ _ ?_
  clear hK K
  refine W.seq fun K hK => ?_
  refine W.region (by rfl) ?_
  refine Flow.move (v := .slice _ _ _) rfl ?_
  refine Flow.len rfl Tf.us_22 rfl rfl ?_
  refine Flow.assign (v := .int _ _) rfl ?_
  refine hK _ _ _ ?_
  clear hK K
  refine W.seq fun K hK => ?_
  refine W.region (by rfl) ?_
  refine Flow.move (v := .int _ _) rfl ?_
  refine Flow.assignC ?_
  refine Flow.assign (v := .int _ _) rfl ?_
  refine hK _ _ _ ?_
  clear hK K
  refine W.seq fun K0 hK0 => ?_
  refine W.block ?_
  refine W.loop (ι := Nat × Nat) (fun k ds e w' => ds = [] ∧ k.1 ≤ k.2 ∧ k.2 ≤ l.length ∧ AllAt e [(0, .slice a l.length c), (1, .int .i64 x), (6, .int .i64 l.length), (7, .int .i64 k.1), (8, .int .i64 k.2)] ∧
      Chg [] w w' ∧ (∀ j (h : j < l.length), j < k.1 → l[j] < x) ∧ (∀ j (h : j < l.length), k.2 ≤ j → x ≤ l[j]))
    (fun k => k.2 - k.1) (i0 := (0, l.length)) ⟨rfl, by simp, by simp, ⟨rfl, rfl, rfl, rfl, rfl, trivial⟩, Chg.refl _ _, fun j _ h => by simp at h, fun j h1 h2 => by simp only at h2; omega⟩ ?_
  rintro ⟨i, j⟩ ds e w1 ⟨rfl, hij, hjl, hE, hc, hlo, hhi⟩
  obtain ⟨e, rfl⟩ : ∃ e0, e = putL e0 _ := ⟨e, putL_self hE⟩
  clear hE
  simp only at hij hjl hlo hhi ⊢
  refine W.seq fun K1 hK1 => ?_
  refine W.seq fun K hK => ?_
  refine W.region (by rfl) ?_
  refine Flow.move (v := .int _ _) rfl ?_
  refine Flow.move (v := .int _ _) rfl ?_
  refine Flow.lss rfl rfl ?_
  refine hK _ _ _ ?_
  clear hK K
  refine W.cond rfl (fun h => W.skip (hK1 _ _ _ ?_)) (fun h => W.exit ?_)
  · have hlt : i < j := by simpa using h
    obtain ⟨b, o, rfl, hcell⟩ := (hl.ext hc).get (i := i) (by omega)
    have hm : (i + j) / 2 < l.length := by omega
    refine W.block ?_
    refine W.seq fun K hK => ?_
    refine W.region (by rfl) ?_
    refine Flow.move (v := .int _ _) rfl ?_
    refine Flow.move (v := .int _ _) rfl ?_
    refine Flow.add rfl rfl (by omega) (by omega) ?_
    refine Flow.convert (s := 0) (z := undef) (k' := .u64) (by kernel_rfl) (by kernel_rfl) rfl (by rw [IntKind.wrap_u64]; omega) ?_
    refine Flow.shr1U (c := ((i + j) / 2 : Nat)) rfl rfl (by rw [Int.fdiv_eq_ediv_of_nonneg _ (by omega)]; omega) ?_
    refine Flow.convert (s := 0) (z := undef) (k' := .i64) (by kernel_rfl) (by kernel_rfl) rfl (by rw [IntKind.wrap_i64]; omega) ?_
    refine Flow.assign (v := .int _ _) rfl ?_
    refine hK _ _ _ ?_
    clear hK K
    refine W.seq fun K hK => ?_
    refine W.region (by rfl) ?_
    refine Flow.move (v := .slice _ _ _) rfl ?_
    refine Flow.move (v := .int _ _) rfl ?_
    refine Flow.indexAddr1 Tf.sl_22 rfl rfl (by omega) (by omega) ?_
    refine Flow.load1 Tf.ty_3 rfl (hcell _ hm) ?_
    refine Flow.move (v := .int _ _) rfl ?_
    refine Flow.call2 Tf.hb_162 (v1 := .int _ _) rfl (v2 := .int _ _) rfl ?_
    refine Ret.mono (less_ok _ _ _) ?_
    rintro _ w2 ⟨rfl, c2⟩
    refine hK _ _ _ ?_
    clear hK K
    refine W.cond rfl (fun h => ?_) (fun h => ?_)
    · have hx : l[(i + j) / 2] < x := by simpa using h
      refine W.region (by rfl) ?_
      refine Flow.move (v := .int _ _) rfl ?_
      refine Flow.add rfl rfl (by omega) (by omega) ?_
      refine Flow.assign (v := .int _ _) rfl ?_
      refine Flow.nil ⟨((i + j) / 2 + 1, j), by simp only; omega, rfl, by simp only; omega, hjl, ⟨rfl, rfl, rfl, rfl, rfl, trivial⟩, hc.then c2, fun k hk hkm => ?_, hhi⟩
      simp only at hkm
      by_cases e : k = (i + j) / 2
      · subst e; exact hx
      · have := sorted_get hsl hk hm (by omega); omega
    · have hx : ¬ l[(i + j) / 2] < x := by simpa using h
      refine W.region (by rfl) ?_
      refine Flow.move (v := .int _ _) rfl ?_
      refine Flow.assign (v := .int _ _) rfl ?_
      refine Flow.nil ⟨(i, (i + j) / 2), by simp only; omega, rfl, by simp only; omega, by simp only; omega, ⟨rfl, rfl, rfl, rfl, rfl, trivial⟩, hc.then c2, hlo, fun k hk hkm => ?_⟩
      simp only at hkm
      by_cases e : k = (i + j) / 2
      · subst e; omega
      · have := sorted_get hsl hm hk (by omega); omega
  · have hge : i = j := by simp at h; omega
    subst hge
    have hcnt := cntLt_at hjl hlo hhi
    refine hK0 _ _ _ ?_
    by_cases hin : i < l.length
    · obtain ⟨b, o, rfl, hcell⟩ := (hl.ext hc).get hin
      by_cases he : l[i] = x
      · refine W.seq fun K hK => ?_
        refine W.region (by rfl) ?_
        refine Flow.move (v := .int _ _) rfl ?_
        refine Flow.move (v := .int _ _) rfl ?_
        refine Flow.move (v := .int _ _) rfl ?_
        refine Flow.lssD (c := true) rfl rfl (decide_eq_true (by omega)) ?_
        refine Flow.move (v := .bool _) rfl ?_
        refine Flow.on rfl rfl ?_
        refine Flow.move (v := .slice _ _ _) rfl ?_
        refine Flow.on rfl rfl ?_
        refine Flow.move (v := .int _ _) rfl ?_
        refine Flow.on rfl rfl ?_
        refine Flow.indexAddr1 Tf.sl_22 rfl rfl (by omega) (by omega) ?_
        refine Flow.on rfl rfl ?_
        refine Flow.load1 Tf.ty_3 rfl (hcell _ hin) ?_
        refine Flow.on rfl rfl ?_
        refine Flow.move (v := .int _ _) rfl ?_
        refine Flow.on rfl rfl ?_
        refine Flow.eqlD (c := true) rfl rfl (decide_eq_true (by omega)) ?_
        refine Flow.on rfl rfl ?_
        refine Flow.move (v := .bool _) rfl ?_
        refine Flow.off (c := true) rfl rfl rfl ?_
        refine Flow.off (c := true) rfl rfl rfl ?_
        refine Flow.off (c := true) rfl rfl rfl ?_
        refine Flow.off (c := true) rfl rfl rfl ?_
        refine Flow.off (c := true) rfl rfl rfl ?_
        refine Flow.off (c := true) rfl rfl rfl ?_
        refine Flow.offU rfl rfl ?_
        refine Flow.offU rfl rfl ?_
        refine Flow.off (c := true) rfl rfl rfl ?_
        refine Flow.on rfl rfl ?_
        refine Flow.pickT rfl rfl ?_
        refine Flow.pickT rfl rfl ?_
        refine Flow.assign (v := .int _ _) rfl ?_
        refine Flow.assign (v := .bool _) rfl ?_
        refine hK _ _ _ ?_
        clear hK K
        refine W.ret ⟨_, res2 rfl (v := .int _ _) (v' := .bool _) rfl rfl, ?_, hc⟩
        rw [hcnt, decide_eq_true (show x ∈ l from he ▸ List.getElem_mem hin)]
      · refine W.seq fun K hK => ?_
        refine W.region (by rfl) ?_
        refine Flow.move (v := .int _ _) rfl ?_
        refine Flow.move (v := .int _ _) rfl ?_
        refine Flow.move (v := .int _ _) rfl ?_
        refine Flow.lssD (c := true) rfl rfl (decide_eq_true (by omega)) ?_
        refine Flow.move (v := .bool _) rfl ?_
        refine Flow.on rfl rfl ?_
        refine Flow.move (v := .slice _ _ _) rfl ?_
        refine Flow.on rfl rfl ?_
        refine Flow.move (v := .int _ _) rfl ?_
        refine Flow.on rfl rfl ?_
        refine Flow.indexAddr1 Tf.sl_22 rfl rfl (by omega) (by omega) ?_
        refine Flow.on rfl rfl ?_
        refine Flow.load1 Tf.ty_3 rfl (hcell _ hin) ?_
        refine Flow.on rfl rfl ?_
        refine Flow.move (v := .int _ _) rfl ?_
        refine Flow.on rfl rfl ?_
        refine Flow.eqlD (c := false) rfl rfl (decide_eq_false (by omega)) ?_
        refine Flow.on rfl rfl ?_
        refine Flow.move (v := .bool _) rfl ?_
        refine Flow.on rfl rfl ?_
        refine Flow.move (v := .slice _ _ _) rfl ?_
        refine Flow.on rfl rfl ?_
        refine Flow.move (v := .int _ _) rfl ?_
        refine Flow.on rfl rfl ?_
        refine Flow.indexAddr1 Tf.sl_22 rfl rfl (by omega) (by omega) ?_
        refine Flow.on rfl rfl ?_
        refine Flow.load1 Tf.ty_3 rfl (hcell _ hin) ?_
        refine Flow.on rfl rfl ?_
        refine Flow.call1 Tf.hb_167 (v1 := .int _ _) rfl ?_
        refine Ret.mono (nan1_ok _ _) ?_
        rintro _ w2 ⟨rfl, c2⟩
        refine Flow.on rfl rfl ?_
        refine Flow.move (v := .bool _) rfl ?_
        refine Flow.off (c := false) rfl rfl rfl ?_
        refine Flow.off (c := false) rfl rfl rfl ?_
        refine Flow.on rfl rfl ?_
        refine Flow.pickF rfl rfl ?_
        refine Flow.on rfl rfl ?_
        refine Flow.pickF rfl rfl ?_
        refine Flow.pickT rfl rfl ?_
        refine Flow.assign (v := .int _ _) rfl ?_
        refine Flow.assign (v := .bool _) rfl ?_
        refine hK _ _ _ ?_
        clear hK K
        refine W.ret ⟨_, res2 rfl (v := .int _ _) (v' := .bool _) rfl rfl, ?_, hc.then c2⟩
        rw [hcnt, decide_eq_false ?_]
        intro hm
        obtain ⟨k, hk, hkx⟩ := List.getElem_of_mem hm
        rcases Nat.lt_trichotomy k i with h1 | h1 | h1
        · have := hlo k hk h1; omega
        · subst h1; exact he hkx
        · have := sorted_get hsl hin hk h1; have := hhi i hin (Nat.le_refl _); omega
    · refine W.seq fun K hK => ?_
      refine W.region (by rfl) ?_
      refine Flow.move (v := .int _ _) rfl ?_
      refine Flow.move (v := .int _ _) rfl ?_
      refine Flow.move (v := .int _ _) rfl ?_
      refine Flow.lssD (c := false) rfl rfl (decide_eq_false (by omega)) ?_
      refine Flow.move (v := .bool _) rfl ?_
      refine Flow.off (c := false) rfl rfl rfl ?_
      refine Flow.off (c := false) rfl rfl rfl ?_
      refine Flow.off (c := false) rfl rfl rfl ?_
      refine Flow.off (c := false) rfl rfl rfl ?_
      refine Flow.off (c := false) rfl rfl rfl ?_
      refine Flow.off (c := false) rfl rfl rfl ?_
      refine Flow.off (c := false) rfl rfl rfl ?_
      refine Flow.offU rfl rfl ?_
      refine Flow.offU rfl rfl ?_
      refine Flow.offU rfl rfl ?_
      refine Flow.offU rfl rfl ?_
      refine Flow.offU rfl rfl ?_
      refine Flow.offU rfl rfl ?_
      refine Flow.offU rfl rfl ?_
      refine Flow.offU rfl rfl ?_
      refine Flow.offU rfl rfl ?_
      refine Flow.off (c := false) rfl rfl rfl ?_
      refine Flow.pickF rfl rfl ?_
      refine Flow.assign (v := .int _ _) rfl ?_
      refine Flow.assign (v := .bool _) rfl ?_
      refine hK _ _ _ ?_
      clear hK K
      refine W.ret ⟨_, res2 rfl (v := .int _ _) (v' := .bool _) rfl rfl, ?_, hc⟩
      rw [hcnt, decide_eq_false ?_]
      intro hm
      obtain ⟨k, hk, hkx⟩ := List.getElem_of_mem hm
      have := hlo k hk (by omega); omega

end Go.Proofs.YtkoejelglinmnaaGreat

/-
  Contract: Insert of one number.
-/
namespace Go.Proofs.YtkoejelglinmnaaGreat
open Sg
set_option maxRecDepth 100000

theorem ints_all (l : List Int) : (ints l).all oneV = true := by
  rw [List.all_eq_true]; intro v hv; obtain ⟨z, _, rfl⟩ := List.mem_map.1 hv; rfl

set_option maxHeartbeats 1000000 in
theorem insert_ok (s0 : Nat) (w : World) (a : Option Addr) (cap i bv : Nat) (l : List Int) (x : Int) (hm : Mine s0 w a cap l) (hs0 : s0 ≤ w.heap.size) (hn : l.length ≤ 1000) (hi : i ≤ l.length) (hv : Blk w bv [.int .i64 x] 3) (hbv : ∀ b ∈ ownB a, b ≠ bv) :
    Ret Tryz.prog 137 #[.slice a l.length cap, .int .i64 i, .slice (some ⟨bv, 0, none⟩) 1 1] w fun v w' => (∃ a' c', v = .slice a' (l.length + 1) c' ∧ Mine s0 w' a' c' (l.take i ++ x :: l.drop i)) ∧ Chg (ownB a) w w' := by
  have hlc : l.length ≤ cap := by
    rcases hm.1.2 with ⟨_, h, h'⟩ | ⟨g, cs, _, _, h, _⟩
    · omega
    · exact h
  refine Ret.of_W (n := 95) Tryz.func137 rfl rfl (Nat.le_of_ble_eq_true rfl) ?_
  refine W.seq fun K hK => ?_
  refine W.region (by rfl) ?_
  refine Flow.assignC ?_
  refine hK _ _ _ ?_
  clear hK K
  refine W.seq fun K hK => ?_
  refine W.region (by rfl) ?_
  refine Flow.move (v := .slice _ _ _) rfl ?_
  refine Flow.move (v := .int _ _) rfl ?_
  refine Flow.sliceFromG Tf.sl_22 rfl rfl hi hlc fun _ => ?_
  refine hK _ _ _ ?_
  clear hK K
  refine W.seq fun K hK => ?_
  refine W.region (by rfl) ?_
  refine Flow.move (v := .slice _ _ _) rfl ?_
  refine Flow.len rfl Tf.us_22 rfl rfl ?_
  refine Flow.assign (v := .int _ _) rfl ?_
  refine hK _ _ _ ?_
  clear hK K
  refine W.seq fun K3 hK3 => ?_
  refine W.seq fun K hK => ?_
  refine W.region (by rfl) ?_
  refine Flow.move (v := .int _ _) rfl ?_
  refine Flow.eql rfl rfl ?_
  refine hK _ _ _ ?_
  clear hK K
  refine W.cond (t := false) rfl (fun h => by simp at h) (fun _ => W.skip (hK3 _ _ _ ?_))
  refine W.seq fun K hK => ?_
  refine W.region (by rfl) ?_
  refine Flow.move (v := .slice _ _ _) rfl ?_
  refine Flow.len rfl Tf.us_22 rfl rfl ?_
  refine Flow.assign (v := .int _ _) rfl ?_
  refine hK _ _ _ ?_
  clear hK K
  refine W.seq fun K6 hK6 => ?_
  refine W.seq fun K hK => ?_
  refine W.region (by rfl) ?_
  refine Flow.move (v := .int _ _) rfl ?_
  refine Flow.move (v := .int _ _) rfl ?_
  refine Flow.eql rfl rfl ?_
  refine hK _ _ _ ?_
  clear hK K
  refine W.cond rfl (fun h => ?_) (fun h => W.skip (hK6 _ _ _ ?_))
  · have hil : i = l.length := by simp at h; omega
    subst hil
    refine W.seq fun K hK => ?_
    refine W.region (by rfl) ?_
    refine Flow.move (v := .slice _ _ _) rfl ?_
    refine Flow.move (v := .slice _ _ _) rfl ?_
    refine Flow.append Tf.sl_22 Tf.us_22 rfl (by decide) rfl rfl (hm.1) (hv.cells0) rfl rfl (by omega) (by omega) fun a5 cap5 w5 o5 c5 hd5 hn5 => ?_
    refine Flow.assign (v := .slice _ _ _) rfl ?_
    refine hK _ _ _ ?_
    clear hK K
    refine W.ret ⟨_, res1 rfl (v := .slice _ _ _) rfl, ⟨a5, cap5, rfl, ?_⟩, c5⟩
    rw [List.take_length, List.drop_length]
    exact hm.app hs0 o5 hd5
  have hil : i < l.length := by simp at h; omega
  have hl0 : l ≠ [] := by intro h; rw [h] at hil; simp at hil
  obtain ⟨g, ex, rfl, hg, hB, hcap, hmx⟩ := hm.blk hl0
  have hgv : g ≠ bv := hbv g (by simp [ownB])
  refine W.seq fun K8 hK8 => ?_
  refine W.seq fun K hK => ?_
  refine W.region (by rfl) ?_
  refine Flow.move (v := .int _ _) rfl ?_
  refine Flow.move (v := .int _ _) rfl ?_
  refine Flow.add rfl rfl (by omega) (by omega) ?_
  refine Flow.move (v := .slice _ _ _) rfl ?_
  refine Flow.cap Tf.us_22 rfl ?_
  refine Flow.gtr rfl rfl ?_
  refine hK _ _ _ ?_
  clear hK K
  have hIc : Cells w g 0 (ints l) := (cells_append (Blk.cells0 hB)).1
  have htake : Cells w g 0 (ints (l.take i)) := by
    rw [← List.take_append_drop i l, ints, List.map_append] at hIc
    exact (cells_append hIc).1
  have hdrop : Cells w g i (ints (l.drop i)) := by
    rw [← List.take_append_drop i l, ints, List.map_append] at hIc
    have := (cells_append hIc).2
    rw [List.length_map, List.length_take, Nat.min_eq_left hi, Nat.zero_add] at this
    exact this
  have htl : (ints (l.take i)).length = i := by simp [ints]; omega
  have hdl : (ints (l.drop i)).length = l.length - i := by simp [ints]
  have hmi : ((l.length : Int) + ((1 : Nat) : Int) - (i : Int)) = ((l.length + 1 - i : Nat) : Int) := by omega
  have hgw := hB.lt
  refine W.cond rfl (fun h => ?_) (fun h => W.skip (hK8 _ _ _ ?_))
  · have hgrow : cap < l.length + 1 := by simp at h; omega
    refine W.seq fun K hK => ?_
    refine W.region (by rfl) ?_
    refine Flow.move (v := .slice _ _ _) rfl ?_
    refine Flow.move (v := .int _ _) rfl ?_
    refine Flow.sliceTo Tf.sl_22 rfl rfl (by omega) ?_
    refine Flow.move (v := .int _ _) rfl ?_
    refine Flow.move (v := .int _ _) rfl ?_
    refine Flow.add rfl rfl (by omega) (by omega) ?_
    refine Flow.move (v := .int _ _) rfl ?_
    refine Flow.sub rfl rfl (by omega) (by omega) ?_
    refine Flow.appendMake Tf.sl_22 Tf.us_22 (k := .i64) (by kernel_rfl) rfl rfl (congrArg (Value.int .i64) hmi) htake htl (by omega) (by omega) (by omega) (by omega) fun cap5 w5 c5 s5 hc5 hm5 b5 => ?_
    refine Flow.assign (v := .slice _ _ _) rfl ?_
    refine hK _ _ _ ?_
    clear hK K
    have hbl : (ints (l.take i) ++ List.replicate (cap5 - i) (Value.int .i64 0)).length = cap5 := by rw [List.length_append, htl, List.length_replicate]; omega
    refine W.seq fun K hK => ?_
    refine W.region (by rfl) ?_
    refine Flow.move (v := .slice _ _ _) rfl ?_
    refine Flow.move (v := .int _ _) rfl ?_
    refine Flow.sliceFrom Tf.sl_22 rfl rfl (by omega) (by omega) fun o6 ho6 => ?_
    refine Flow.move (v := .slice _ _ _) rfl ?_
    refine Flow.copy (el := 0) Tf.sl_22 rfl rfl b5 (hv.chg c5 (by simp)).cells0 (by simp; omega) (by rw [ho6 (by omega), hbl]; simp; omega) rfl fun w6 c6 s6 b6 => ?_
    refine hK _ _ _ ?_
    clear hK K
    obtain rfl : o6 = 0 + i * 1 := ho6 (by omega)
    have hbl6 : (List.take (0 + i * 1) (ints (l.take i) ++ List.replicate (cap5 - i) (Value.int .i64 0)) ++ [Value.int .i64 x] ++ List.drop (0 + i * 1 + [Value.int .i64 x].length) (ints (l.take i) ++ List.replicate (cap5 - i) (Value.int .i64 0))) =
        ints (l.take i ++ [x]) ++ List.replicate (cap5 - i - 1) (Value.int .i64 0) := by
      have e1 : 0 + i * 1 = (ints (l.take i)).length := by rw [htl]; omega
      rw [e1, List.take_left]
      rw [List.drop_append, List.drop_eq_nil_of_le (by simp), List.nil_append]
      simp [ints, List.drop_replicate]
    rw [hbl6] at b6
    have hbl7 : (ints (l.take i ++ [x]) ++ List.replicate (cap5 - i - 1) (Value.int .i64 0)).length = cap5 := by
      rw [List.length_append, List.length_replicate, ints, List.length_map, List.length_append, List.length_take]; simp; omega
    have c56 : Chg [] w w6 := c5.step c6 (by simp)
    have hgn : g ∉ ([w.heap.size] : List Nat) := by simp; omega
    refine W.seq fun K hK => ?_
    refine W.regionD [8] [8] (by kernel_rfl) (by kernel_rfl) fun w0 c0 h0 => ?_
    refine FD.val (fun _ hw => Rn.move (v := .slice _ _ _) rfl) ?_
    refine FD.val (fun _ hw => Rn.move (v := .int _ _) rfl) ?_
    refine FD.val (fun _ hw => Rn.move (v := .int _ _) rfl) ?_
    refine FD.val (fun _ hw => Rn.add rfl rfl (by omega) (by omega)) ?_
    refine FD.val (fun _ hw => Rn.sliceFrom (l := i + 1) Tf.sl_22 rfl rfl (by omega) (by omega) (by omega)) ?_
    refine FD.val (fun _ hw => Rn.move (v := .slice _ _ _) rfl) ?_
    refine FD.val (fun _ hw => Rn.move (v := .int _ _) rfl) ?_
    refine FD.val (fun _ hw => Rn.sliceFrom (l := i) Tf.sl_22 rfl rfl (by omega) (by omega) (by omega)) ?_
    refine FD.hardE (by rfl) (by rfl) ?_
    refine Flow.copy (el := 0) Tf.sl_22 rfl rfl (b6.chg c0 (by simp)) (show Cells w0 g (0 + i * 1) (ints (l.drop i)) from by rw [Nat.zero_add, Nat.mul_one]; exact Cells.chg (c56.then c0) (by simp) hdrop) (by rw [hdl]; omega) (by rw [hdl, hbl7]; omega) (ints_all _) fun w7 c7 s7 b7 => ?_
    refine Flow.nil ?_
    refine FD.nil ?_
    refine hK _ _ _ ?_
    clear hK K
    have hbl8 : (List.take (0 + (i + 1) * 1) (ints (l.take i ++ [x]) ++ List.replicate (cap5 - i - 1) (Value.int .i64 0)) ++ ints (l.drop i) ++ List.drop (0 + (i + 1) * 1 + (ints (l.drop i)).length) (ints (l.take i ++ [x]) ++ List.replicate (cap5 - i - 1) (Value.int .i64 0))) =
        ints (l.take i ++ x :: l.drop i) ++ List.replicate (cap5 - (l.length + 1)) (Value.int .i64 0) := by
      have e1 : 0 + (i + 1) * 1 = (ints (l.take i ++ [x])).length := by simp [ints]; omega
      have e0 : List.drop ((ints (l.take i ++ [x])).length + (ints (l.drop i)).length) (ints (l.take i ++ [x])) = [] := List.drop_eq_nil_of_le (by omega)
      rw [e1, List.take_left, List.drop_append, e0, List.nil_append, List.drop_replicate, hdl]
      have e2 : ints (l.take i ++ [x]) ++ ints (l.drop i) = ints (l.take i ++ x :: l.drop i) := by simp [ints]
      rw [e2]; congr 2; omega
    rw [hbl8] at b7
    refine W.seq fun K hK => ?_
    refine W.region (by rfl) ?_
    refine Flow.move (v := .slice _ _ _) rfl ?_
    refine Flow.assign (v := .slice _ _ _) rfl ?_
    refine hK _ _ _ ?_
    clear hK K
    have e3 : i + (l.length + 1 - i) = l.length + 1 := by omega
    refine W.ret ⟨_, res1 rfl (v := .slice _ _ _) rfl, ⟨_, cap5, by rw [e3], Mine.of_blk (by omega) b7 (by simp; omega) hm5⟩, ((c56.then c0).step c7 (by simp)).mono (by simp)⟩
  · have hroom : l.length + 1 ≤ cap := by simp at h; omega
    refine W.seq fun K hK => ?_
    refine W.region (by rfl) ?_
    refine Flow.move (v := .slice _ _ _) rfl ?_
    refine Flow.move (v := .int _ _) rfl ?_
    refine Flow.move (v := .int _ _) rfl ?_
    refine Flow.add rfl rfl (by omega) (by omega) ?_
    refine Flow.sliceTo (h := l.length + 1) Tf.sl_22 rfl rfl hroom ?_
    refine Flow.assign (v := .slice _ _ _) rfl ?_
    refine hK _ _ _ ?_
    clear hK K
    refine W.seq fun K14 hK14 => ?_
    refine W.seq fun K hK => ?_
    refine W.region (by rfl) ?_
    refine Flow.move (v := .slice _ _ _) rfl ?_
    refine Flow.move (v := .slice _ _ _) rfl ?_
    refine Flow.move (v := .int _ _) rfl ?_
    refine Flow.move (v := .int _ _) rfl ?_
    refine Flow.add rfl rfl (by omega) (by omega) ?_
    refine Flow.sliceFrom (l := i + 1) Tf.sl_22 rfl rfl (by omega) (by omega) fun o6 ho6 => ?_
    refine Flow.extern2 (v := .bool false) rfl (by kernel_rfl) rfl next_overlaps ext_overlaps rfl rfl (run_overlaps (t := 22) (el := 3) (by kernel_rfl) Tf.us_22 (Tf.ty_3).info.choose_spec.1 hv hB (Ne.symm hgv)) ?_
    refine Flow.not rfl ?_
    refine hK _ _ _ ?_
    clear hK K
    refine W.cond (t := true) rfl (fun _ => ?_) (fun h => by simp at h)
    have hcl : (ints l ++ ex).length = cap := by rw [List.length_append, ints, List.length_map]; exact hcap
    refine W.seq fun K hK => ?_
    refine W.regionD [8] [8] (by kernel_rfl) (by kernel_rfl) fun w0 c0 h0 => ?_
    refine FD.val (fun _ hw => Rn.move (v := .slice _ _ _) rfl) ?_
    refine FD.val (fun _ hw => Rn.move (v := .int _ _) rfl) ?_
    refine FD.val (fun _ hw => Rn.move (v := .int _ _) rfl) ?_
    refine FD.val (fun _ hw => Rn.add rfl rfl (by omega) (by omega)) ?_
    refine FD.val (fun _ hw => Rn.sliceFrom (l := i + 1) Tf.sl_22 rfl rfl (by omega) (by omega) (by omega)) ?_
    refine FD.val (fun _ hw => Rn.move (v := .slice _ _ _) rfl) ?_
    refine FD.val (fun _ hw => Rn.move (v := .int _ _) rfl) ?_
    refine FD.val (fun _ hw => Rn.sliceFrom (l := i) Tf.sl_22 rfl rfl (by omega) (by omega) (by omega)) ?_
    refine FD.hardE (by rfl) (by rfl) ?_
    refine Flow.copy (el := 0) Tf.sl_22 rfl rfl (hB.chg c0 (by simp)) (show Cells w0 g (0 + i * 1) (ints (l.drop i)) from by rw [Nat.zero_add, Nat.mul_one]; exact Cells.chg c0 (by simp) hdrop) (by rw [hdl]; omega) (by rw [hdl, hcl]; omega) (ints_all _) fun w7 c7 s7 b7 => ?_
    refine Flow.nil ?_
    refine FD.nil ?_
    refine hK _ _ _ ?_
    clear hK K
    have hv7 : Blk w7 bv [.int .i64 x] 3 := (hv.chg c0 (by simp)).chg c7 (by simp; exact Ne.symm hgv)
    obtain ⟨cs7, hcs7⟩ : ∃ cs7, cs7 = List.take (0 + (i + 1) * 1) (ints l ++ ex) ++ ints (l.drop i) ++ List.drop (0 + (i + 1) * 1 + (ints (l.drop i)).length) (ints l ++ ex) := ⟨_, rfl⟩
    rw [← hcs7] at b7
    have hl7 : cs7.length = cap := by rw [hcs7]; simp only [List.length_append, List.length_take, List.length_drop, hdl] at hcl ⊢; omega
    refine W.seq fun K hK => ?_
    refine W.region (by rfl) ?_
    refine Flow.move (v := .slice _ _ _) rfl ?_
    refine Flow.move (v := .int _ _) rfl ?_
    refine Flow.sliceFrom (l := i) Tf.sl_22 rfl rfl (by omega) (by omega) fun o8 ho8 => ?_
    refine Flow.move (v := .slice _ _ _) rfl ?_
    refine Flow.copy (el := 0) Tf.sl_22 rfl rfl b7 hv7.cells0 (by simp; omega) (by rw [ho8 (by omega), hl7]; simp; omega) rfl fun w8 c8 s8 b8 => ?_
    refine hK _ _ _ ?_
    clear hK K
    obtain rfl : o8 = 0 + i * 1 := ho8 (by omega)
    have hfin : List.take (0 + i * 1) cs7 ++ [Value.int .i64 x] ++ List.drop (0 + i * 1 + [Value.int .i64 x].length) cs7 = ints (l.take i ++ x :: l.drop i) ++ ex.drop 1 := by
      have a1 : List.take (0 + (i + 1) * 1) (ints l ++ ex) = ints (l.take (i + 1)) := by
        rw [show 0 + (i + 1) * 1 = i + 1 from by omega, List.take_append_of_le_length (by simp [ints]; omega)]; simp [ints]
      have a2 : List.drop (0 + (i + 1) * 1 + (ints (l.drop i)).length) (ints l ++ ex) = ex.drop 1 := by
        rw [hdl, show 0 + (i + 1) * 1 + (l.length - i) = (ints l).length + 1 from by simp [ints]; omega, List.drop_append, List.drop_eq_nil_of_le (by omega), List.nil_append]; congr 1; omega
      rw [a1, a2] at hcs7
      have a3 : (ints (l.take (i + 1))).length = i + 1 := by simp [ints]; omega
      have a4 : cs7.take (0 + i * 1) = ints (l.take i) := by
        rw [hcs7, List.append_assoc, List.take_append_of_le_length (by omega), show 0 + i * 1 = i from by omega, ints, ← List.map_take, List.take_take, Nat.min_eq_left (by omega)]; rfl
      have a5 : cs7.drop (0 + i * 1 + 1) = ints (l.drop i) ++ ex.drop 1 := by
        rw [hcs7, List.append_assoc, show 0 + i * 1 + 1 = (ints (l.take (i + 1))).length from by omega]; exact List.drop_left
      have a6 : [Value.int .i64 x].length = 1 := rfl
      rw [a6, a4, a5]
      simp [ints]
    rw [hfin] at b8
    refine W.seq fun K hK => ?_
    refine W.region (by rfl) ?_
    refine Flow.move (v := .slice _ _ _) rfl ?_
    refine Flow.assign (v := .slice _ _ _) rfl ?_
    refine hK _ _ _ ?_
    clear hK K
    refine W.ret ⟨_, res1 rfl (v := .slice _ _ _) rfl, ⟨_, cap, rfl, Mine.of_blk hg b8 (by simp; omega) hmx⟩, ((c0.mono (by simp)).trans c7 (T := [g]) (by simp [ownB])).trans c8 (by simp [ownB])⟩

end Go.Proofs.YtkoejelglinmnaaGreat

/-
  Contract: closed.
-/
namespace Go.Proofs.YtkoejelglinmnaaGreat
open Sg
set_option maxRecDepth 100000

theorem cnt_split {x : Int} : ∀ {l : List Int}, l.Pairwise (· < ·) → l.take (cntLt l x) = l.filter (fun d => decide (d < x)) ∧ l.drop (cntLt l x) = l.filter (fun d => !decide (d < x))
  | [], _ => ⟨rfl, rfl⟩
  | y :: l, h => by
    have h' := List.pairwise_cons.1 h
    obtain ⟨i1, i2⟩ := cnt_split h'.2
    by_cases hy : y < x
    · have e : cntLt (y :: l) x = cntLt l x + 1 := by simp [cntLt, hy]
      rw [e, List.take_succ_cons, List.drop_succ_cons, i1, i2]
      simp [hy]
    · have hl : ∀ z ∈ l, ¬ z < x := fun z hz => by have := h'.1 z hz; omega
      have e0 : l.filter (fun d => decide (d < x)) = [] := List.filter_eq_nil_iff.2 fun z hz => by simpa using hl z hz
      have e1 : l.filter (fun d => !decide (d < x)) = l := List.filter_eq_self.2 fun z hz => by simpa using hl z hz
      have e : cntLt (y :: l) x = 0 := by simp [cntLt, hy]; intro z hz; have := hl z hz; omega
      rw [e]
      simp only [List.take_zero, List.drop_zero, List.filter_cons, hy, decide_false, Bool.not_false, if_true]
      rw [e0, e1]; simp

theorem cntLt_le (l : List Int) (x : Int) : cntLt l x ≤ l.length := List.length_filter_le _ _

set_option maxHeartbeats 1000000 in
theorem closed_ok (w : World) (t : Tour) (ac af : Option Addr) (cc cf : Nat) (day : Int) (hC : IL w ac t.closed) (hF : FL w af t.flaws) (hcl : t.closed.length ≤ 1000) (hfl : t.flaws.length ≤ 1000) (hsl : t.closed.Pairwise (· < ·)) :
    Ret Tryz.prog 81 #[.agg #[.int .i64 t.days, .slice ac t.closed.length cc, .slice af t.flaws.length cf], .int .i64 day] w fun v w' => Chg [] w w' ∧ ∃ a1 c1 a2 c2, v = .agg #[.int .i64 t.days, .slice a1 (closedS t day).closed.length c1, .slice a2 t.flaws.length c2] ∧ Mine w.heap.size w' a1 c1 (closedS t day).closed ∧ MineF w.heap.size w' a2 c2 t.flaws := by
  refine Ret.of_W (n := 34) Tryz.func81 rfl rfl (Nat.le_of_ble_eq_true rfl) ?_
  refine W.seq fun K hK => ?_
  refine W.region (by rfl) ?_
  refine Flow.box rfl (cs := [_, _, _]) rfl fun w1 c1 s1 b1 => ?_
  refine Flow.alloc Tf.ty_25 (cs := [_, _, _]) rfl fun w2 c2 s2 b2 => ?_
  refine hK _ _ _ ?_
  clear hK K
  refine W.seq fun K hK => ?_
  refine W.region (by rfl) ?_
  refine Flow.loadA Tf.ty_25 rfl rfl ((b1.chg c2 (by simp)).cells0) ?_
  refine Flow.alloc Tf.ty_25 (cs := [_, _, _]) rfl fun w3 c3 s3 b3 => ?_
  refine Flow.store Tf.ty_25 rfl rfl (b3) (vs := [_, _, _]) rfl rfl (by simp) rfl fun w4 c4 s4 b4 => ?_
  refine hK _ _ _ ?_
  clear hK K
  have c24 : Chg [] w2 w4 := c3.step c4 (by simp)
  have c14 := c2.then c24
  refine W.seq fun K hK => ?_
  refine W.region (by rfl) ?_
  refine Flow.fieldAddr Tf.fo_25_1 rfl ?_
  refine Flow.load1 Tf.ty_22 rfl ((b1.chg c14 (by simp)).cell 1) ?_
  refine Flow.call1 Tf.hb_84 (v1 := .slice _ _ _) rfl ?_
  refine Ret.mono (cloneI_ok _ _ _ _ (hC.ext (c1.then c14)) hcl) ?_
  rintro _ w5 ⟨c5, a1, k1, rfl, hm1⟩
  refine Flow.fieldAddr Tf.fo_25_1 rfl ?_
  refine Flow.store1 Tf.ty_22 rfl (v := .slice _ _ _) rfl ((b4.chg c5 (by simp))) (by simp) rfl fun w6 c6 s6 b6 => ?_
  refine hK _ _ _ ?_
  clear hK K
  have h5 := c5.size
  have c26 : Chg [] w2 w6 := (c24.then c5).step c6 (by simp)
  have hno : ∀ b ∈ ownB a1, b ∉ ([w2.heap.size] : List Nat) := fun b hb h => by have := hm1.2 b hb; simp at h; omega
  have hm6 := hm1.chg c6 hno
  refine W.seq fun K3 hK3 => ?_
  -- what follows once the closed days are right
  have hend : ∀ (e : Env) (w7 : World) (a : Option Addr) (k : Nat), AllAt e [(2, .pointer (some ⟨w.heap.size, 0, none⟩)), (4, .pointer (some ⟨w1.heap.size, 0, none⟩)), (5, .pointer (some ⟨w2.heap.size, 0, none⟩))] → Chg [] w2 w7 →
      Mine w4.heap.size w7 a k (closedS t day).closed → Blk w7 w2.heap.size [.int .i64 t.days, .slice a (closedS t day).closed.length k, .slice af t.flaws.length cf] 25 → K3 [] e w7 := by
    intro e w7 a k hE hc7 hm7 hb7
    obtain ⟨e, rfl⟩ : ∃ e0, e = putL e0 _ := ⟨e, putL_self hE⟩
    clear hE
    refine hK3 _ _ _ ?_
    have c17 := c2.then hc7
    refine W.seq fun K hK => ?_
    refine W.region (by rfl) ?_
    refine Flow.fieldAddr Tf.fo_25_2 rfl ?_
    refine Flow.load1 Tf.ty_23 rfl ((b1.chg c17 (by simp)).cell 2) ?_
    refine Flow.call1 Tf.hb_138 (v1 := .slice _ _ _) rfl ?_
    refine Ret.mono (cloneF_ok _ _ _ _ (hF.ext (c1.then c17)) hfl) ?_
    rintro _ w8 ⟨c8, a2, k2, rfl, hm2⟩
    refine Flow.fieldAddr Tf.fo_25_2 rfl ?_
    refine Flow.store1 Tf.ty_23 rfl (v := .slice _ _ _) rfl ((hb7.chg c8 (by simp))) (by simp) rfl fun w9 c9 s9 b9 => ?_
    refine hK _ _ _ ?_
    clear hK K
    have h7 := hc7.size
    have h8 := c8.size
    have hn2 : ∀ b ∈ ownB a2, b ∉ ([w2.heap.size] : List Nat) := fun b hb h => by have := hm2.2 b hb; have := (hb7.lt); simp at h; omega
    have hn1 : ∀ b ∈ ownB a, b ∉ ([w2.heap.size] : List Nat) := fun b hb h => by have := hm7.2 b hb; simp at h; omega
    have hmF := hm2.chg c9 hn2
    have hmI := (hm7.ext c8).chg c9 hn1
    have c29 : Chg [] w2 w9 := (hc7.then c8).step c9 (by simp)
    refine W.seq fun K hK => ?_
    refine W.region (by rfl) ?_
    refine Flow.loadA Tf.ty_25 rfl rfl (b9.cells0) ?_
    refine Flow.store Tf.ty_25 rfl rfl (b2.chg c29 (by simp)) (vs := [_, _, _]) rfl rfl (by simp) rfl fun w10 c10 s10 b10 => ?_
    refine hK _ _ _ ?_
    clear hK K
    have hx1 : ∀ b ∈ ownB a, b ∉ ([w1.heap.size] : List Nat) := fun b hb h => by have := hm7.2 b hb; simp at h; omega
    have hx2 : ∀ b ∈ ownB a2, b ∉ ([w1.heap.size] : List Nat) := fun b hb h => by have := hm2.2 b hb; simp at h; omega
    refine W.ret ⟨_, resG1 rfl (OneR.cellA Tf.ty_25 rfl (l := [_, _, _]) rfl b10.cells0), (c1.then (c2.then c29)).step c10 (by simp; omega), a, k, a2, k2, rfl, (hmI.chg c10 hx1).weak (by omega), (hmF.chg c10 hx2).weak (by omega)⟩
  have hm6' := hm6.il
  refine W.seq fun K hK => ?_
  refine W.region (by rfl) ?_
  refine Flow.fieldAddr Tf.fo_25_1 rfl ?_
  refine Flow.load1 Tf.ty_22 rfl (b6.cell 1) ?_
  refine Flow.move (v := .int _ _) rfl ?_
  refine Flow.call2 Tf.hb_136 (v1 := .slice _ _ _) rfl (v2 := .int _ _) rfl ?_
  refine Ret.mono (binSearch_ok _ _ _ _ day hm6' hcl hsl) ?_
  rintro _ w7 ⟨rfl, c7⟩
  refine Flow.move (v := .tuple _) rfl ?_
  refine Flow.extract (v := .int _ _) rfl rfl ?_
  refine Flow.extract (v := .bool _) rfl rfl ?_
  refine Flow.assign (v := .int _ _) rfl ?_
  refine Flow.assign (v := .bool _) rfl ?_
  refine hK _ _ _ ?_
  clear hK K
  have hm7 := hm6.ext c7
  have b7 := b6.chg c7 (by simp)
  have c27 := c26.then c7
  refine W.seq fun K hK => ?_
  refine W.region (by rfl) ?_
  refine Flow.move (v := .bool _) rfl ?_
  refine Flow.not rfl ?_
  refine hK _ _ _ ?_
  clear hK K
  by_cases hd : day ∈ t.closed
  · have hcs : (closedS t day).closed = t.closed := by simp [closedS, hd]
    rw [decide_eq_true hd]
    refine W.cond (t := false) rfl (fun h => by simp at h) (fun _ => W.skip (hend _ _ a1 k1 ⟨rfl, rfl, rfl, trivial⟩ c27 ?_ ?_))
    · rw [hcs]; exact hm7
    · rw [hcs]; exact b7
  · obtain ⟨e1, e2⟩ := cnt_split (x := day) hsl
    have hcs : (closedS t day).closed = t.closed.take (cntLt t.closed day) ++ day :: t.closed.drop (cntLt t.closed day) := by rw [e1, e2]; simp [closedS, hd]
    have hlen : (closedS t day).closed.length = t.closed.length + 1 := by
      have := cntLt_le t.closed day
      rw [hcs]; simp; omega
    rw [decide_eq_false hd]
    refine W.cond (t := true) rfl (fun _ => ?_) (fun h => by simp at h)
    have hs7 := c27.size
    refine W.region (by rfl) ?_
    refine Flow.fieldAddr Tf.fo_25_1 rfl ?_
    refine Flow.load1 Tf.ty_22 rfl (b7.cell 1) ?_
    refine Flow.move (v := .int _ _) rfl ?_
    refine Flow.move (v := .int _ _) rfl ?_
    refine Flow.buildSlice1 Tf.sl_22 Tf.us_22 rfl (by decide) (by decide) rfl (cs := [_]) rfl rfl fun w8 c8 s8 b8 => ?_
    refine Flow.call3 Tf.hb_137 (v1 := .slice _ _ _) rfl (v2 := .int _ _) rfl (v3 := .slice _ _ _) rfl ?_
    refine Ret.mono (insert_ok w4.heap.size _ a1 k1 _ w7.heap.size t.closed day (hm7.ext c8) (by omega) hcl (cntLt_le _ _) b8 (fun b hb => by have := hm7.1.lt b hb; omega)) ?_
    rintro _ w9 ⟨⟨a9, k9, rfl, hm9⟩, c9⟩
    refine Flow.fieldAddr Tf.fo_25_1 rfl ?_
    refine Flow.store1 Tf.ty_22 rfl (v := .slice _ _ _) rfl ((b7.chg c8 (by simp)).chg c9 (fun h => by have := hm7.2 _ h; omega)) (by simp) rfl fun w10 c10 s10 b10 => ?_
    have hx : ∀ b ∈ ownB a9, b ∉ ([w2.heap.size] : List Nat) := fun b hb h => by have := hm9.2 b hb; simp at h; omega
    refine Flow.nil (hend _ _ a9 k9 ⟨rfl, rfl, rfl, trivial⟩ (((c27.then c8).step c9 (fun b hb => by have := hm7.2 b hb; omega)).step c10 (by simp)) ?_ ?_)
    · rw [hcs]; exact hm9.chg c10 hx
    · rw [hlen]; exact b10

end Go.Proofs.YtkoejelglinmnaaGreat

/-
  Contracts: Merit, on, daysOf.
-/
namespace Go.Proofs.YtkoejelglinmnaaGreat
open Sg
set_option maxRecDepth 100000

/-! ### tours that stay valid -/
theorem flaws_eq (t : Tour) : t.flaws = (List.range t.flaws.length).map fun (i : Nat) => flawAt t (i : Int) := by
  refine List.ext_getElem (by simp) fun i h1 h2 => ?_
  simp only [List.getElem_map, List.getElem_range]
  exact (flawAt_get (t := t) (i := (i : Int)) (by simpa using h1)).symm

theorem without_sub (t : Tour) (l : List Int) : (withoutS t l).flaws.Sublist t.flaws := by
  have h := (List.filter_sublist (p := fun (i : Nat) => !(l.contains (i : Int))) (l := List.range t.flaws.length)).map (fun (i : Nat) => flawAt t (i : Int))
  rw [← flaws_eq] at h
  exact h

theorem Valid.without {t : Tour} (h : Valid t) (l : List Int) : Valid (withoutS t l) := by
  have hs := without_sub t l
  have hlen := hs.length_le
  have hm := hs.subset
  have h1 := h.fn
  exact ⟨h.d1, h.d2, h.cr, h.cs, by omega, fun f hf => h.fi f (hm hf), fun f hf => h.fs f (hm hf), fun f hf => h.fm f (hm hf), (hs.map _).nodup h.nd⟩

theorem mem_closedS {t : Tour} {day d : Int} : d ∈ (closedS t day).closed ↔ d = day ∨ d ∈ t.closed := by
  simp only [closedS]
  split
  · rename_i h
    constructor
    · exact .inr
    · rintro (rfl | h')
      · exact h
      · exact h'
  · simp only [List.mem_append, List.mem_cons, List.mem_filter, decide_eq_true_eq, Bool.not_eq_true', decide_eq_false_iff_not]
    constructor
    · rintro (h | h | h)
      · exact .inr h.1
      · exact .inl h
      · exact .inr h.1
    · rintro (h | h)
      · exact .inr (.inl h)
      · by_cases e : d < day
        · exact .inl ⟨h, e⟩
        · exact .inr (.inr ⟨h, e⟩)

theorem Valid.close {t : Tour} (h : Valid t) {day : Int} (hd : 0 ≤ day ∧ day < t.days) : Valid (closedS t day) := by
  refine ⟨h.d1, h.d2, fun d hm => ?_, ?_, h.fn, h.fi, h.fs, h.fm, h.nd⟩
  · rcases mem_closedS.1 hm with rfl | hm
    · exact hd
    · exact h.cr d hm
  · simp only [closedS]
    split
    · exact h.cs
    · rename_i hno
      refine List.pairwise_append.2 ⟨h.cs.filter _, List.pairwise_cons.2 ⟨fun a ha => ?_, h.cs.filter _⟩, fun a ha b hb => ?_⟩
      · simp only [List.mem_filter, Bool.not_eq_true', decide_eq_false_iff_not] at ha
        have : a ≠ day := fun e => hno (e ▸ ha.1)
        omega
      · simp only [List.mem_filter, decide_eq_true_eq] at ha
        rcases List.mem_cons.1 hb with rfl | hb
        · exact ha.2
        · simp only [List.mem_filter, Bool.not_eq_true', decide_eq_false_iff_not] at hb
          omega

theorem meritOf_bd {t : Tour} (hs : Small t) : ∀ (has : List Int), HasOk t has → 0 ≤ meritOf t has ∧ meritOf t has ≤ has.length * 4194304
  | [], _ => by simp [meritOf]
  | x :: l, h => by
    obtain ⟨h1, h2⟩ := meritOf_bd hs l (fun y hy => h y (List.mem_cons_of_mem _ hy))
    have e : meritOf t (x :: l) = (if 0 ≤ x then (flawAt t x).merit else 0) + meritOf t l := by simp [meritOf]
    have hx : 0 ≤ (if 0 ≤ x then (flawAt t x).merit else 0) ∧ (if 0 ≤ x then (flawAt t x).merit else 0) ≤ 4194304 := by
      split
      · rename_i h0
        rcases h x (by simp) with hx | hx
        · omega
        · rw [flawAt_get (by omega)]
          exact hs.me _ (List.getElem_mem _)
      · omega
    rw [e, List.length_cons]
    omega

theorem merit_bd {t : Tour} (hs : Small t) : 0 ≤ meritS t ∧ meritS t ≤ 251658240 := by
  have h := bestHas_inv hs
  have hl := h.len
  have hd := hs.dh
  obtain ⟨h1, h2⟩ := meritOf_bd hs (bestHas t) h.ok
  unfold meritS
  have : (bestHas t).length ≤ 60 := by omega
  omega

/-! ### Merit -/
def meritR (t : Tour) : Int := if chk t = 0 then meritS t else 0

theorem Merit_ok (w : World) (t : Tour) (ac af : Option Addr) (cc cf : Nat) (hC : IL w ac t.closed) (hF : FL w af t.flaws) (hcl : t.closed.length ≤ 1000) (hfl : t.flaws.length ≤ 1000) (hx : chk t = 0 → t.flaws.length < 20) :
    Ret Tryz.prog 44 #[.agg #[.int .i64 t.days, .slice ac t.closed.length cc, .slice af t.flaws.length cf]] w fun v w' => v = .tuple #[.int .i64 (meritR t), .int .i64 (chk t)] ∧ Chg [] w w' := by
  refine Ret.of_W (n := 12) Tryz.func44 rfl rfl (Nat.le_of_ble_eq_true rfl) ?_
  refine W.seq fun K hK => ?_
  refine W.region (by rfl) ?_
  refine Flow.box rfl (cs := [_, _, _]) rfl fun w1 c1 s1 b1 => ?_
  refine Flow.assignC ?_
  refine Flow.assignC ?_
  refine hK _ _ _ ?_
  clear hK K
  refine W.seq fun K1 hK1 => ?_
  refine W.seq fun K hK => ?_
  refine W.region (by rfl) ?_
  refine Flow.loadA Tf.ty_25 rfl rfl (b1.cells0) ?_
  refine Flow.call1 Tf.hb_55 (v1 := .agg _) rfl ?_
  refine Ret.mono (check_ok _ t ac af cc cf (hC.ext c1) (hF.ext c1) hcl hfl) ?_
  rintro _ w2 ⟨rfl, c2⟩
  refine Flow.assign (v := .int _ _) rfl ?_
  refine hK _ _ _ ?_
  clear hK K
  refine W.seq fun K hK => ?_
  refine W.region (by rfl) ?_
  refine Flow.move (v := .int _ _) rfl ?_
  refine Flow.neq rfl rfl ?_
  refine hK _ _ _ ?_
  clear hK K
  have c12 := c1.then c2
  refine W.cond rfl (fun h => ?_) (fun h => W.skip (hK1 _ _ _ ?_))
  · have h0 : chk t ≠ 0 := by simpa using h
    refine W.seq fun K hK => ?_
    refine W.region (by rfl) ?_
    refine Flow.move (v := .int _ _) rfl ?_
    refine Flow.assignC ?_
    refine Flow.assign (v := .int _ _) rfl ?_
    refine hK _ _ _ ?_
    clear hK K
    refine W.ret ⟨_, res2 rfl (v := .int _ _) (v' := .int _ _) rfl rfl, by rw [meritR, if_neg h0], c12⟩
  · have h0 : chk t = 0 := by simpa using h
    refine W.seq fun K hK => ?_
    refine W.region (by rfl) ?_
    refine Flow.loadA Tf.ty_25 rfl rfl ((b1.chg c2 (by simp)).cells0) ?_
    refine Flow.call1 Tf.hb_68 (v1 := .agg _) rfl ?_
    refine Ret.mono (merit_ok _ t ac af cc cf (hC.ext c12) (hF.ext c12) (chk_small h0) (hx h0)) ?_
    rintro _ w3 ⟨rfl, c3⟩
    refine Flow.assign (v := .int _ _) rfl ?_
    refine Flow.assignC ?_
    refine hK _ _ _ ?_
    clear hK K
    refine W.ret ⟨_, res2 rfl (v := .int _ _) (v' := .int _ _) rfl rfl, by rw [meritR, if_pos h0, h0], c12.then c3⟩

/-! ### on -/
theorem onD_ok (w : World) (t : Tour) (ac af : Option Addr) (cc cf : Nat) (k : Nat) (day : Int) (hC : IL w ac t.closed) (hF : FL w af t.flaws) (hv : Valid t) (hfl : t.flaws.length < 20) (hk : k < t.flaws.length) (hd : 0 ≤ day ∧ day < t.days) :
    Ret Tryz.prog 80 #[.agg #[.int .i64 t.days, .slice ac t.closed.length cc, .slice af t.flaws.length cf], .int .i64 (k : Int), .int .i64 day] w fun v w' => v = .int .i64 (onS t k day) ∧ Chg [] w w' := by
  have hs := hv.small
  have hv1 := hv.without [(k : Int)]
  have hv2 := hv1.close hd
  have hfl1 : (withoutS t [(k : Int)]).flaws.length < 20 := by have := (without_sub t [(k : Int)]).length_le; omega
  have hm := merit_bd hv2.small
  have hg := hs.me _ (List.getElem_mem hk)
  have hget : flawAt t (k : Int) = t.flaws[k] := flawAt_get (by simpa using hk)
  refine Ret.of_W (n := 21) Tryz.func80 rfl rfl (Nat.le_of_ble_eq_true rfl) ?_
  refine W.seq fun K hK => ?_
  refine W.region (by rfl) ?_
  refine Flow.box rfl (cs := [_, _, _]) rfl fun w1 c1 s1 b1 => ?_
  refine Flow.assignC ?_
  refine hK _ _ _ ?_
  clear hK K
  obtain ⟨b, o, rfl, hcell⟩ := hF.get hk
  have hF : FL w (some ⟨b, o, none⟩) t.flaws := .inr ⟨b, o, rfl, hcell⟩
  refine W.seq fun K hK => ?_
  refine W.regionD [8, 9, 11, 12] [] (by kernel_rfl) (by kernel_rfl) fun w0 c0 h0 => ?_
  refine FD.val (fun _ hw => Rn.fieldAddr Tf.fo_25_2 rfl) ?_
  refine FD.val (fun _ hw => Rn.load1 Tf.ty_23 rfl ((b1.chg c0 (by simp)).cell 2) (hw rfl rfl)) ?_
  refine FD.val (fun _ hw => Rn.move (v := .int _ _) rfl) ?_
  refine FD.val (fun _ hw => Rn.indexAddr Tf.sl_23 rfl rfl (by omega) (by omega)) ?_
  refine FD.val (fun _ hw => Rn.fieldAddr Tf.fo_81_2 rfl) ?_
  refine FD.val (fun _ hw => Rn.load1 Tf.ty_3 rfl ((Cells.chg (c1.then c0) (by simp) (hcell k hk)).2.2.2.1) (hw rfl rfl)) ?_
  refine FD.val (fun _ hw => Rn.loadA Tf.ty_25 rfl rfl ((b1.chg c0 (by simp)).cells0) (hw rfl rfl)) ?_
  refine FD.val (fun _ hw => Rn.move (v := .int _ _) rfl) ?_
  refine FD.eff (by rfl) (Chg.refl _ _) ?_
  refine Flow.buildSlice1 Tf.sl_22 Tf.us_22 rfl (by decide) (by decide) rfl (cs := [_]) rfl rfl fun w2 c2 s2 b2 => ?_
  refine Flow.nil ⟨c2, ?_⟩
  refine FD.eff (by rfl) (c2) ?_
  refine Flow.call2 Tf.hb_69 (v1 := .agg _) rfl (v2 := .slice _ _ _) rfl ?_
  refine Ret.mono (without_ok _ t ac _ cc cf _ _ [(k : Int)] (hC.ext ((c1.then c0).then c2)) (hF.ext ((c1.then c0).then c2)) hs.cl hs.fl (b2il b2) (by simp)) ?_
  rintro _ w3 ⟨c3, a1, k1, a2, k2, rfl, hm1, hm2⟩
  refine Flow.nil ⟨c3, ?_⟩
  refine FD.val (fun _ hw => Rn.move (v := .int _ _) rfl) ?_
  refine FD.eff (by rfl) ((c2).then c3) ?_
  refine Flow.call2 Tf.hb_81 (v1 := .agg _) rfl (v2 := .int _ _) rfl ?_
  refine Ret.mono (closed_ok _ (withoutS t [(k : Int)]) a1 a2 k1 k2 day hm1.il hm2.fl hs.cl hv1.small.fl hv.cs) ?_
  rintro _ w4 ⟨c4, a3, k3, a4, k4, rfl, hm3, hm4⟩
  refine Flow.nil ⟨c4, ?_⟩
  refine FD.eff (by rfl) (((c2).then c3).then c4) ?_
  refine Flow.call1 Tf.hb_68 (v1 := .agg _) rfl ?_
  refine Ret.mono (merit_ok _ (closedS (withoutS t [(k : Int)]) day) a3 a4 k3 k4 hm3.il hm4.fl hv2.small hfl1) ?_
  rintro _ w5 ⟨rfl, c5⟩
  refine Flow.nil ⟨c5, ?_⟩
  refine FD.val (fun _ hw => Rn.add rfl rfl (by omega) (by omega)) ?_
  refine FD.val (fun _ hw => Rn.assign (v := .int _ _) rfl) ?_
  refine FD.nil ?_
  refine hK _ _ _ ?_
  clear hK K
  refine W.ret ⟨_, res1 rfl (v := .int _ _) rfl, by rw [onS, hget], (c1.then c0).then (c2.then (c3.then (c4.then c5)))⟩

end Go.Proofs.YtkoejelglinmnaaGreat

/-
  Contract: daysOf.
-/
namespace Go.Proofs.YtkoejelglinmnaaGreat
open Sg
set_option maxRecDepth 100000

theorem opens_len (c : List Int) (lo hi : Int) : (opens c lo hi).length ≤ (hi + 1 - lo).toNat := by
  have : ∀ (k : Nat) (d : Int), (daysFrom c k d).length ≤ k := by
    intro k
    induction k with
    | zero => intro d; simp [daysFrom]
    | succ k ih => intro d; simp only [daysFrom]; split; exact Nat.le_succ_of_le (ih _); simpa using ih _
  exact this _ _

/-- A slice of the call's own that a cell holds. -/
structure OutI (s : Nat) (w : World) (g : Nat) (T : TypeId) (l : List Int) : Prop where
  ex : ∃ a c, Blk w g [.slice a l.length c] T ∧ Mine s w a c l

theorem OutI.chg {s : Nat} {w w' : World} {g : Nat} {T : TypeId} {l : List Int} {S : List Nat} (h : OutI s w g T l) (hc : Chg S w w') (hg : g ∉ S) (hS : ∀ b ∈ S, b < s) : OutI s w' g T l := by
  obtain ⟨a, c, h1, h2⟩ := h.ex
  exact ⟨a, c, h1.chg hc hg, h2.chg hc (fun b hb hm => by have := h2.2 b hb; have := hS b hm; omega)⟩

theorem OutI.ext {s : Nat} {w w' : World} {g : Nat} {T : TypeId} {l : List Int} (h : OutI s w g T l) (hc : Chg [] w w') : OutI s w' g T l := h.chg hc (by simp) (by simp)

set_option maxHeartbeats 1000000 in
theorem daysOf_ok (w : World) (t : Tour) (ac af : Option Addr) (cc cf : Nat) (k : Nat) (hC : IL w ac t.closed) (hF : FL w af t.flaws) (hv : Valid t) (hfl : t.flaws.length < 20) (hk : k < t.flaws.length) :
    Ret Tryz.prog 70 #[.agg #[.int .i64 t.days, .slice ac t.closed.length cc, .slice af t.flaws.length cf], .int .i64 (k : Int)] w fun v w' => Chg [] w w' ∧ ∃ a c, v = .slice a (daysOfS t k).length c ∧ Mine w.heap.size w' a c (daysOfS t k) := by
  have hs := hv.small
  have hget : flawAt t (k : Int) = t.flaws[k] := flawAt_get (by simpa using hk)
  have hsp := hv.fs _ (List.getElem_mem hk)
  have hd2 := hv.d2
  have hol := opens_len t.closed t.flaws[k].lo t.flaws[k].hi
  have hcl := hs.cl
  have hdl : (daysOfS t k).length ≤ 60 := by
    have h1 := List.length_filter_le (fun d => decide (onS t k d = meritS t)) (opens t.closed (flawAt t k).lo (flawAt t k).hi)
    rw [hget] at h1
    unfold daysOfS; rw [hget]; omega
  obtain ⟨b, o, rfl, hcell⟩ := hF.get hk
  have hF : FL w (some ⟨b, o, none⟩) t.flaws := .inr ⟨b, o, rfl, hcell⟩
  refine Ret.of_W (n := 30) Tryz.func70 rfl rfl (Nat.le_of_ble_eq_true rfl) ?_
  refine W.seq fun K hK => ?_
  refine W.region (by rfl) ?_
  refine Flow.box rfl (cs := [_, _, _]) rfl fun w1 c1 s1 b1 => ?_
  refine Flow.box rfl (cs := [_]) rfl fun w2 c2 s2 b2 => ?_
  refine Flow.assignC ?_
  refine hK _ _ _ ?_
  clear hK K
  refine W.seq fun K hK => ?_
  refine W.region (by rfl) ?_
  refine Flow.loadA Tf.ty_25 rfl rfl ((b1.chg c2 (by simp)).cells0) ?_
  refine Flow.call1 Tf.hb_68 (v1 := .agg _) rfl ?_
  refine Ret.mono (merit_ok _ t ac _ cc cf (hC.ext (c1.then c2)) (hF.ext (c1.then c2)) hs hfl) ?_
  rintro _ w3 ⟨rfl, c3⟩
  refine Flow.alloc Tf.ty_3 (cs := [_]) rfl fun w4 c4 s4 b4 => ?_
  refine Flow.store1 Tf.ty_3 rfl (v := .int _ _) rfl (b4) (by simp) rfl fun w5 c5 s5 b5 => ?_
  refine hK _ _ _ ?_
  clear hK K
  refine W.seq fun K hK => ?_
  refine W.region (by rfl) ?_
  refine Flow.alloc Tf.ty_22 (cs := [_]) rfl fun w6 c6 s6 b6 => ?_
  refine hK _ _ _ ?_
  clear hK K
  refine W.seq fun K1 hK1 => ?_
  have hs3 := c3.size
  have c26 : Chg [] w2 w6 := ((c3.then c4).step c5 (by simp; omega)).then c6
  refine W.seq fun K hK => ?_
  refine W.regionD [7] [] (by kernel_rfl) (by kernel_rfl) fun w0 c0 h0 => ?_
  refine FD.val (fun _ hw => Rn.loadA Tf.ty_25 rfl rfl ((b1.chg (c2.then (c26.then c0)) (by simp)).cells0) (hw rfl rfl)) ?_
  refine FD.val (fun _ hw => Rn.fieldAddr Tf.fo_25_2 rfl) ?_
  refine FD.val (fun _ hw => Rn.load1 Tf.ty_23 rfl ((b1.chg (c2.then (c26.then c0)) (by simp)).cell 2) (hw rfl rfl)) ?_
  refine FD.val (fun _ hw => Rn.load1 Tf.ty_3 rfl ((b2.chg (c26.then c0) (by simp)).cell 0) (hw rfl rfl)) ?_
  refine FD.val (fun _ hw => Rn.indexAddr Tf.sl_23 rfl rfl (by omega) (by omega)) ?_
  refine FD.val (fun _ hw => Rn.fieldAddr Tf.fo_81_1 rfl) ?_
  refine FD.val (fun _ hw => Rn.loadA Tf.ty_44 rfl rfl (show Cells _ b (o + k * 4 + 1) [.int .i64 t.flaws[k].lo, .int .i64 t.flaws[k].hi] from ⟨(Cells.chg (c1.then (c2.then (c26.then c0))) (by simp) (hcell k hk)).2.1, (Cells.chg (c1.then (c2.then (c26.then c0))) (by simp) (hcell k hk)).2.2.1, trivial⟩) (hw rfl rfl)) ?_
  refine FD.eff (by rfl) (Chg.refl _ _) ?_
  refine Flow.call2 Tf.hb_79 (v1 := .agg _) rfl (v2 := .agg _) rfl ?_
  refine Ret.mono (open_ok _ t ac _ cc cf t.flaws[k].lo t.flaws[k].hi (hC.ext (c1.then (c2.then (c26.then c0)))) (by omega) (by omega)) ?_
  rintro _ w7 ⟨c7, bs, bt, rfl, hB, hl1, hl2, hl3, hl4⟩
  refine Flow.nil ⟨c7, ?_⟩
  refine FD.nil ?_
  refine hK _ _ _ ?_
  clear hK K
  have hs0 := c0.size
  have hs7 := c7.size
  have c67 := c0.then c7
  have c27 := c26.then c67
  have c17 := c2.then c27
  have cw7 := c1.then c17
  have b17 := b1.chg c17 (by simp)
  have b27 := b2.chg c27 (by simp)
  have b57 := b5.chg (c6.then c67) (by simp)
  have b67 := b6.chg c67 (by simp)
  have h1lt := b17.lt
  have h2lt := b27.lt
  have h5lt := b57.lt
  have h6lt := b67.lt
  have hstab : ∀ (rest : List Int) (T : List Nat) (wa wb : World), (∃ done, OutI (w7.heap.size + 2) wa w5.heap.size 22 done ∧ done ++ rest.filter (fun d => decide (onS t k d = meritS t)) = daysOfS t k) → Chg T wa wb → (∀ b ∈ T, w7.heap.size ≤ b ∧ b < w7.heap.size + 2) →
      ∃ done, OutI (w7.heap.size + 2) wb w5.heap.size 22 done ∧ done ++ rest.filter (fun d => decide (onS t k d = meritS t)) = daysOfS t k := by
    rintro rest T wa wb ⟨done, h1, h2⟩ hT hTb
    exact ⟨done, h1.chg hT (fun h => by have := hTb _ h; omega) (fun b hb => (hTb b hb).2), h2⟩
  have hoff : Off ac t.closed [w5.heap.size] := hC.off (by have := c1.size; have := c2.size; simp; omega)
  have hoffF : Off (some ⟨b, o, none⟩) t.flaws [w5.heap.size] := hF.off (by have := c1.size; have := c2.size; simp; omega)
  refine W.block ?_
  refine W.range_it (S := [w5.heap.size]) rfl Tf.hb_135 (open_iter bs bt ac cc t.closed t.flaws[k].lo t.flaws[k].hi) (fun w1 hc => hB.chg hc (by simp; omega) (by simp; omega) hoff) (by simp; omega)
    (fun rest w' => ∃ done, OutI (w7.heap.size + 2) w' w5.heap.size 22 done ∧ done ++ rest.filter (fun d => decide (onS t k d = meritS t)) = daysOfS t k) (fun _ => False) (fun _ _ => False)
    (fun x rest e' w' => AllAt e' [(2, .pointer (some ⟨w.heap.size, 0, none⟩)), (3, .pointer (some ⟨w1.heap.size, 0, none⟩)), (5, .pointer (some ⟨w3.heap.size, 0, none⟩)), (6, .pointer (some ⟨w5.heap.size, 0, none⟩)), (7, .int .i64 x)] ∧
      ∃ done, OutI (w7.heap.size + 2) w' w5.heap.size 22 done ∧ done ++ (x :: rest).filter (fun d => decide (onS t k d = meritS t)) = daysOfS t k)
    hstab (fun _ _ _ h _ _ => h) (fun _ _ _ _ h _ _ => h) ?_ ⟨[], ⟨none, 0, b67, Mine.nil _ _⟩, by rw [daysOfS, hget]; rfl⟩ ?_ ?_ ?_ (fun _ _ _ _ h => h.elim) (fun _ _ _ _ _ h => h.elim)
  · rintro x rest e' wa wb ⟨hE, hI⟩ hc
    exact ⟨hE, hstab _ _ _ _ hI hc (by simp)⟩
  · rintro x rest wa hsz hc hI hx
    refine W.region (by rfl) ?_
    refine Flow.assign (v := .int _ _) rfl ?_
    exact Flow.nil ⟨Chg2.refl _ _ _, ⟨rfl, rfl, rfl, rfl, rfl, trivial⟩, hI⟩
  · rintro x rest wa ds' e' hsz hc ⟨hE, done, ho, hw⟩ ⟨hx1, hx2, hx3⟩
    obtain ⟨e', rfl⟩ : ∃ e0, e' = putL e0 _ := ⟨e', putL_self hE⟩
    clear hE
    have hCa := (hC.ext cw7).chg hc hoff
    have hFa := (hF.ext cw7).chg hc hoffF
    have b1a := b17.chg hc (by simp; omega)
    have b2a := b27.chg hc (by simp; omega)
    have b5a := b57.chg hc (by simp; omega)
    refine W.block ?_
    refine W.seq fun K hK => ?_
    refine W.regionD [3] [] (by kernel_rfl) (by kernel_rfl) fun w9 c9 h9 => ?_
    refine FD.val (fun _ hw => Rn.loadA Tf.ty_25 rfl rfl ((b1a.chg c9 (by simp)).cells0) (hw rfl rfl)) ?_
    refine FD.val (fun _ hw => Rn.load1 Tf.ty_3 rfl ((b2a.chg c9 (by simp)).cell 0) (hw rfl rfl)) ?_
    refine FD.val (fun _ hw => Rn.move (v := .int _ _) rfl) ?_
    refine FD.eff (by rfl) (Chg.refl _ _) ?_
    refine Flow.call3 Tf.hb_80 (v1 := .agg _) rfl (v2 := .int _ _) rfl (v3 := .int _ _) rfl ?_
    refine Ret.mono (onD_ok _ t ac _ cc cf k x (hCa.ext c9) (hFa.ext c9) hv hfl hk (by omega)) ?_
    rintro _ w10 ⟨rfl, c10⟩
    refine Flow.nil ⟨c10, ?_⟩
    refine FD.val (fun _ hw => Rn.load1 Tf.ty_3 rfl ((b5a.chg c9 (by simp)).cell 0) (hw rfl rfl)) ?_
    refine FD.val (fun _ hw => Rn.eqlD rfl rfl rfl) ?_
    refine FD.nil ?_
    refine hK _ _ _ ?_
    clear hK K
    have c910 := c9.then c10
    have ho := ho.ext c910
    rw [List.filter_cons] at hw
    refine W.cond rfl (fun h => ?_) (fun h => W.skip ?_)
    · rw [if_pos h] at hw
      obtain ⟨a, c, hb, hm⟩ := ho.ex
      have hdn : done.length ≤ 60 := by have := congrArg List.length hw; simp at this; omega
      have hs9 := c910.size
      refine W.region (by rfl) ?_
      refine Flow.load1 Tf.ty_22 rfl (hb.cell 0) ?_
      refine Flow.move (v := .int _ _) rfl ?_
      refine Flow.buildSlice1 Tf.sl_22 Tf.us_22 rfl (by decide) (by decide) rfl (cs := [_]) rfl rfl fun w11 c11 s11 b11 => ?_
      refine Flow.append Tf.sl_22 Tf.us_22 rfl (by decide) rfl rfl ((hm.ext c11).1) (b11.cells0) rfl rfl (by omega) (by omega) fun a5 cap5 w12 o5 c12 hd5 hn5 => ?_
      refine Flow.store1 Tf.ty_22 rfl (v := .slice _ _ _) rfl ((hb.chg c11 (by simp)).chg c12 (fun h => by have := hm.2 _ h; omega)) (by simp) rfl fun w13 c13 s13 b13 => ?_
      have hm12 := (hm.ext c11).app (by omega) o5 hd5
      refine Flow.nil ⟨((Chg2.ext (c910.then c11)).step c12 (fun b hb => .inr (hm.2 b hb))).trans (Chg2.of c13), done ++ [x], ⟨a5, cap5, by simpa using b13, hm12.chg c13 (fun b hb hh => by have := hm12.2 b hb; simp at hh; omega)⟩, by simpa using hw⟩
    · rw [if_neg (by simp [h])] at hw
      exact ⟨Chg2.ext c910, done, ho, hw⟩
  · rintro w8 hc hDl hDc ⟨done, ho, hw⟩
    have hw : done = daysOfS t k := by simpa using hw
    subst hw
    obtain ⟨a, c, hb, hm⟩ := ho.ex
    refine hK1 _ _ _ ?_
    have hs8 := hc.size
    refine W.seq fun K hK => ?_
    refine W.region (by rfl) ?_
    refine Flow.load1 Tf.ty_22 rfl (hb.cell 0) ?_
    refine Flow.assign (v := .slice _ _ _) rfl ?_
    refine hK _ _ _ ?_
    clear hK K
    refine W.ret ⟨hDc, _, res1 rfl (v := .slice _ _ _) rfl, (cw7.step hc (by have := c1.size; have := c2.size; simp; omega)).step (Chg.putObj _ _ _) (by simp; omega), a, c, rfl, (hm.chg (Chg.putObj _ _ _) (fun b hb' hh => by have := hm.2 b hb'; simp at hh; omega)).weak (by omega)⟩

end Go.Proofs.YtkoejelglinmnaaGreat

/-
  Contracts: spans (an iterator), full.
-/
namespace Go.Proofs.YtkoejelglinmnaaGreat
open Sg
set_option maxRecDepth 100000

/-! ### spans -/
def rowF : Nat → Int → Int → List (Int × Int)
  | 0, _, _ => []
  | k + 1, lo, hi => (lo, hi) :: rowF k lo (hi + 1)

def spansF (n : Int) : Nat → Int → List (Int × Int)
  | 0, _ => []
  | k + 1, lo => rowF (n - lo).toNat lo lo ++ spansF n k (lo + 1)

/-- All spans of a tour, by their first and then by their last day. -/
def spansL (t : Tour) : List (Int × Int) := spansF t.days t.days.toNat 0

def encSpan (p : Int × Int) : Value := .agg #[.int .i64 p.1, .int .i64 p.2]

theorem spans_iter (bt : Nat) (days : Int) (hd : 0 ≤ days ∧ days ≤ 1000) :
    IterOk 142 #[.pointer (some ⟨bt, 0, none⟩)] (fun w => w.cell? ⟨bt, 0, none⟩ = some (.int .i64 days)) encSpan (fun p => 0 ≤ p.1 ∧ p.1 ≤ p.2 ∧ p.2 < days) (spansF days days.toNat 0) := by
  intro w l J Jx hJB hJc round h0
  have hB := hJB _ _ h0
  have e0 : (#[.func (.yield l) #[] #[]] ++ #[.pointer (some ⟨bt, 0, none⟩)] : Array Value) = #[.func (.yield l) #[] #[], .pointer (some ⟨bt, 0, none⟩)] := by simp
  rw [e0]
  refine Ret.of_W (n := 24) Tryz.func142 rfl rfl (Nat.le_of_ble_eq_true rfl) ?_
  refine W.seq fun K hK => ?_
  refine W.region (by rfl) ?_
  refine Flow.fieldAddr Tf.fo_25_0 rfl ?_
  refine Flow.load1 Tf.ty_3 rfl (hB) ?_
  refine Flow.moveC ?_
  refine hK _ _ _ ?_
  clear hK K
  refine W.block ?_
  refine W.loop (ι := Int) (fun lo ds e w' => ds = [] ∧ 0 ≤ lo ∧ lo ≤ days ∧ AllAt e [(0, .func (.yield l) #[] #[]), (1, .pointer (some ⟨bt, 0, none⟩)), (6, .int .i64 days), (7, .int .i64 lo)] ∧ J (spansF days (days - lo).toNat lo) w')
    (fun lo => (days - lo).toNat) (i0 := 0) ⟨rfl, by omega, by omega, ⟨rfl, rfl, rfl, rfl, trivial⟩, by simpa using h0⟩ ?_
  rintro lo ds e w1 ⟨rfl, hlo, hlo2, hE, hJ⟩
  obtain ⟨e, rfl⟩ : ∃ e0, e = putL e0 _ := ⟨e, putL_self hE⟩
  clear hE
  refine W.seq fun K hK => ?_
  refine W.region (by rfl) ?_
  refine Flow.lss rfl rfl ?_
  refine hK _ _ _ ?_
  clear hK K
  refine W.seq fun K2 hK2 => ?_
  refine W.cond rfl (fun h => W.skip (hK2 _ _ _ ?_)) (fun h => W.exit ?_)
  · have hlt : lo < days := by simpa using h
    obtain ⟨m, hm⟩ : ∃ m : Nat, (days - lo).toNat = m + 1 := ⟨(days - lo - 1).toNat, by omega⟩
    have hm' : (days - (lo + 1)).toNat = m := by omega
    rw [hm, spansF] at hJ
    refine W.seq fun K3 hK3 => ?_
    refine W.block ?_
    refine W.seq fun K hK => ?_
    refine W.region (by rfl) ?_
    refine Flow.move (v := .int _ _) rfl ?_
    refine Flow.assign (v := .int _ _) rfl ?_
    refine hK _ _ _ ?_
    clear hK K
    refine W.seq fun K hK => ?_
    refine W.region (by rfl) ?_
    refine Flow.move (v := .int _ _) rfl ?_
    refine Flow.assign (v := .int _ _) rfl ?_
    refine hK _ _ _ ?_
    clear hK K
    refine W.block ?_
    refine W.loop (ι := Int) (fun hi ds e w' => ds = [] ∧ lo ≤ hi ∧ hi ≤ days ∧ AllAt e [(0, .func (.yield l) #[] #[]), (1, .pointer (some ⟨bt, 0, none⟩)), (3, .int .i64 lo), (4, .int .i64 hi), (6, .int .i64 days), (7, .int .i64 lo)] ∧ J (rowF (days - hi).toNat lo hi ++ spansF days m (lo + 1)) w')
      (fun hi => (days - hi).toNat) (i0 := lo) ⟨rfl, by omega, by omega, ⟨rfl, rfl, rfl, rfl, rfl, rfl, trivial⟩, hJ⟩ ?_
    rintro hi ds e w2 ⟨rfl, hhi, hhi2, hE, hJ2⟩
    obtain ⟨e, rfl⟩ : ∃ e0, e = putL e0 _ := ⟨e, putL_self hE⟩
    clear hE
    refine W.seq fun K4 hK4 => ?_
    refine W.seq fun K hK => ?_
    refine W.region (by rfl) ?_
    refine Flow.move (v := .int _ _) rfl ?_
    refine Flow.fieldAddr Tf.fo_25_0 rfl ?_
    refine Flow.load1 Tf.ty_3 rfl (hJB _ _ hJ2) ?_
    refine Flow.lss rfl rfl ?_
    refine hK _ _ _ ?_
    clear hK K
    refine W.cond rfl (fun h => W.skip (hK4 _ _ _ ?_)) (fun h => W.exit ?_)
    · have hlt2 : hi < days := by simpa using h
      obtain ⟨j, hj⟩ : ∃ j : Nat, (days - hi).toNat = j + 1 := ⟨(days - hi - 1).toNat, by omega⟩
      have hj' : (days - (hi + 1)).toNat = j := by omega
      rw [hj, rowF, List.cons_append] at hJ2
      obtain ⟨r, hr, hR⟩ := round (lo, hi) _ w2 hJ2 ⟨hlo, hhi, hlt2⟩
      refine W.seq fun K5 hK5 => ?_
      refine W.block ?_
      refine W.seq fun K hK => ?_
      refine W.region (by rfl) ?_
      refine Flow.move (v := .func _ _ _) rfl ?_
      refine Flow.move (v := .int _ _) rfl ?_
      refine Flow.move (v := .int _ _) rfl ?_
      refine Flow.buildL Tf.ty_44 Tf.pl_44 (l := [(_, _), (_, _)]) (zs := [_, _]) (cs := [_, _]) rfl rfl rfl ?_
      refine Flow.callY1 rfl (hr) (v1 := .agg _) rfl ?_
      refine RoundIn.mono hR ?_
      rintro x w3 ⟨v, rfl, hv⟩
      refine ⟨v, rfl, ?_⟩
      rcases hv with ⟨rfl, hJ3⟩ | ⟨rfl, hJx⟩
      · refine Flow.not rfl ?_
        refine hK _ _ _ ?_
        clear hK K
        refine W.cond (t := false) rfl (fun h => by simp at h) (fun _ => W.skip (hK5 _ _ _ ?_))
        refine W.region (by rfl) ?_
        refine Flow.move (v := .int _ _) rfl ?_
        refine Flow.add rfl rfl (by omega) (by omega) ?_
        refine Flow.assign (v := .int _ _) rfl ?_
        exact Flow.nil ⟨hi + 1, by omega, rfl, by omega, by omega, ⟨rfl, rfl, rfl, rfl, rfl, rfl, trivial⟩, by rw [hj']; exact hJ3⟩
      · refine Flow.not rfl ?_
        refine hK _ _ _ ?_
        clear hK K
        exact W.cond (t := true) rfl (fun _ => W.ret ⟨_, res0 rfl, .inr hJx⟩) (fun h => by simp at h)
    · have hge : hi = days := by simp at h; omega
      subst hge
      refine hK3 _ _ _ ?_
      refine W.region (by rfl) ?_
      refine Flow.add rfl rfl (by omega) (by omega) ?_
      refine Flow.move (v := .int _ _) rfl ?_
      refine Flow.nil ⟨lo + 1, by omega, rfl, by omega, by omega, ⟨rfl, rfl, rfl, rfl, trivial⟩, ?_⟩
      rw [hm']
      simpa [rowF] using hJ2
  · have hge : lo = days := by simp at h; omega
    subst hge
    refine ⟨_, res0 rfl, .inl ?_⟩
    simpa [spansF] using hJ

theorem spans_ok (w : World) (t : Tour) (ac af : Option Addr) (cc cf : Nat) :
    Ret Tryz.prog 100 #[.agg #[.int .i64 t.days, .slice ac t.closed.length cc, .slice af t.flaws.length cf]] w fun v w' => Chg [] w w' ∧ w'.heap.size = w.heap.size + 1 ∧ v = .func (.func 142) #[] #[.pointer (some ⟨w.heap.size, 0, none⟩)] ∧ Blk w' w.heap.size [.int .i64 t.days, .slice ac t.closed.length cc, .slice af t.flaws.length cf] 25 := by
  refine Ret.of_W (n := 4) Tryz.func100 rfl rfl (Nat.le_of_ble_eq_true rfl) ?_
  refine W.seq fun K hK => ?_
  refine W.region (by rfl) ?_
  refine Flow.box rfl (cs := [_, _, _]) rfl fun w1 c1 s1 b1 => ?_
  refine Flow.assignC ?_
  refine hK _ _ _ ?_
  clear hK K
  refine W.seq fun K hK => ?_
  refine W.region (by rfl) ?_
  refine Flow.makeFunc1 rfl ?_
  refine Flow.assign (v := .func _ _ _) rfl ?_
  refine hK _ _ _ ?_
  clear hK K
  refine W.ret ⟨_, res1 rfl (v := .func _ _ _) rfl, c1, s1, rfl, b1⟩

/-! ### full -/
def fullP (t : Tour) (on : List Int) (lo hi : Int) (i : Nat) : Prop := 0 ≤ on.getD i (-1) ∧ lo ≤ (flawAt t i).lo ∧ (flawAt t i).hi ≤ hi
instance (t : Tour) (on : List Int) (lo hi : Int) (i : Nat) : Decidable (fullP t on lo hi i) := inferInstanceAs (Decidable (_ ∧ _ ∧ _))

theorem fullS_of {t : Tour} {on : List Int} {lo hi merit : Int} : fullS t on lo hi merit = (((List.range on.length).all fun i => !(decide (fullP t on lo hi i)) || decide (merit ≤ (flawAt t i).merit)) &&
    decide (((List.range on.length).filter fun i => decide (fullP t on lo hi i)).length = roomS t lo hi)) := rfl

set_option maxHeartbeats 1000000 in
theorem full_ok (w : World) (t : Tour) (ac af : Option Addr) (cc cf : Nat) (ao : Option Addr) (co : Nat) (on : List Int) (lo hi merit : Int) (hC : IL w ac t.closed) (hF : FL w af t.flaws) (hs : Small t) (hO : IL w ao on) (hn : on.length ≤ t.flaws.length) (hb : -1000000 ≤ lo ∧ hi ≤ 1000000) :
    Ret Tryz.prog 146 #[.agg #[.int .i64 t.days, .slice ac t.closed.length cc, .slice af t.flaws.length cf], .slice ao on.length co, .agg #[.int .i64 lo, .int .i64 hi], .int .i64 merit] w fun v w' => v = .bool (fullS t on lo hi merit) ∧ Chg [] w w' := by
  have hcl := hs.cl
  have hfl := hs.fl
  refine Ret.of_W (n := 48) Tryz.func146 rfl rfl (Nat.le_of_ble_eq_true rfl) ?_
  refine W.seq fun K hK => ?_
  refine W.region (by rfl) ?_
  refine Flow.box rfl (cs := [_, _, _]) rfl fun w1 c1 s1 b1 => ?_
  refine Flow.box rfl (cs := [_, _]) rfl fun w2 c2 s2 b2 => ?_
  refine Flow.assignC ?_
  refine hK _ _ _ ?_
  clear hK K
  refine W.seq fun K hK => ?_
  refine W.region (by rfl) ?_
  refine Flow.assignC ?_
  refine hK _ _ _ ?_
  clear hK K
  have c12 := c1.then c2
  have b12 := b1.chg c2 (by simp)
  refine W.seq fun K1 hK1 => ?_
  refine W.seq fun K hK => ?_
  refine W.region (by rfl) ?_
  refine Flow.move (v := .slice _ _ _) rfl ?_
  refine Flow.len rfl Tf.us_22 rfl rfl ?_
  refine Flow.moveC ?_
  refine hK _ _ _ ?_
  clear hK K
  refine W.block ?_
  refine W.loop (ι := Nat × Nat) (fun k ds e w' => ds = [] ∧ k.1 ≤ on.length ∧ AllAt e [(1, .slice ao on.length co), (3, .int .i64 merit), (4, .pointer (some ⟨w.heap.size, 0, none⟩)), (6, .pointer (some ⟨w1.heap.size, 0, none⟩)), (9, .int .i64 k.2), (12, .slice ao on.length co), (13, .int .i64 on.length), (14, .int .i64 k.1)] ∧
      Chg [] w2 w' ∧ k.2 = ((List.range k.1).filter fun i => decide (fullP t on lo hi i)).length ∧ ((List.range k.1).all fun i => !(decide (fullP t on lo hi i)) || decide (merit ≤ (flawAt t i).merit)) = true)
    (fun k => on.length - k.1) (i0 := (0, 0)) ⟨rfl, by omega, ⟨rfl, rfl, rfl, rfl, rfl, rfl, rfl, rfl, trivial⟩, Chg.refl _ _, by simp, by simp⟩ ?_
  rintro ⟨k, n⟩ ds e w3 ⟨rfl, hk, hE, hc, hcnt, hall⟩
  obtain ⟨e, rfl⟩ : ∃ e0, e = putL e0 _ := ⟨e, putL_self hE⟩
  clear hE
  simp only at hk hcnt hall ⊢
  have hnk : n ≤ k := by
    have := List.length_filter_le (fun i => decide (fullP t on lo hi i)) (List.range k)
    simp at this; omega
  refine W.seq fun K hK => ?_
  refine W.region (by rfl) ?_
  refine Flow.lss rfl rfl ?_
  refine hK _ _ _ ?_
  clear hK K
  refine W.seq fun K2 hK2 => ?_
  refine W.cond rfl (fun h => W.skip (hK2 _ _ _ ?_)) (fun h => W.exit ?_)
  · have hlt : k < on.length := by simpa using h
    have c3 := c12.then hc
    obtain ⟨bo, oo, rfl, hcellO⟩ := (hO.ext c3).get hlt
    obtain ⟨bf, of_, rfl, hcellF⟩ := (hF.ext c3).get (i := k) (by omega)
    have hget : flawAt t k = t.flaws[k] := flawAt_get (by simp; omega)
    have hgetD : on.getD k (-1) = on[k] := by rw [List.getD_eq_getElem?_getD]; simp [hlt]
    refine W.seq fun K3 hK3 => ?_
    have hnext : ∀ (e : Env) (w4 : World) (n' : Nat), AllAt e [(1, .slice (some ⟨bo, oo, none⟩) on.length co), (3, .int .i64 merit), (4, .pointer (some ⟨w.heap.size, 0, none⟩)), (6, .pointer (some ⟨w1.heap.size, 0, none⟩)), (9, .int .i64 n'), (12, .slice (some ⟨bo, oo, none⟩) on.length co), (13, .int .i64 on.length), (14, .int .i64 k)] →
        Chg [] w2 w4 → n' = ((List.range (k + 1)).filter fun i => decide (fullP t on lo hi i)).length → (fullP t on lo hi k → merit ≤ (flawAt t k).merit) → K3 [] e w4 := by
      intro e w4 n' hE hc4 hn' hm'
      obtain ⟨e, rfl⟩ : ∃ e0, e = putL e0 _ := ⟨e, putL_self hE⟩
      clear hE
      refine hK3 _ _ _ ?_
      refine W.region (by rfl) ?_
      refine Flow.add rfl rfl (by omega) (by omega) ?_
      refine Flow.move (v := .int _ _) rfl ?_
      refine Flow.nil ⟨(k + 1, n'), by simp only; omega, rfl, by simp only; omega, ⟨rfl, rfl, rfl, rfl, rfl, rfl, rfl, rfl, trivial⟩, hc4, hn', ?_⟩
      rw [List.range_succ, List.all_append, hall, Bool.true_and, List.all_cons, List.all_nil, Bool.and_true]
      by_cases hp : fullP t on lo hi k
      · simp [hp, hm' hp]
      · simp [hp]
    have hsucc : ((List.range (k + 1)).filter fun i => decide (fullP t on lo hi i)).length = n + (if fullP t on lo hi k then 1 else 0) := by
      rw [List.range_succ, List.filter_append, List.length_append, ← hcnt]
      by_cases hp : fullP t on lo hi k <;> simp [hp]
    refine W.block ?_
    refine W.seq fun K hK => ?_
    refine W.region (by rfl) ?_
    refine Flow.move (v := .int _ _) rfl ?_
    refine Flow.indexAddr1 Tf.sl_22 rfl rfl (by omega) (by omega) ?_
    refine Flow.load1 Tf.ty_3 rfl (hcellO k hlt) ?_
    refine Flow.assign (v := .int _ _) rfl ?_
    refine Flow.assign (v := .int _ _) rfl ?_
    refine hK _ _ _ ?_
    clear hK K
    refine W.seq fun K4 hK4 => ?_
    by_cases h0 : on[k] < 0
    · have hp : ¬ fullP t on lo hi k := by unfold fullP; rw [hgetD]; omega
      refine W.seq fun K hK => ?_
      refine W.regionD [10] [] (by kernel_rfl) (by kernel_rfl) fun w4 c4 h4 => ?_
      refine FD.val (fun _ hw => Rn.move (v := .int _ _) rfl) ?_
      refine FD.val (fun _ hw => Rn.lssD (c := true) rfl rfl (decide_eq_true (by omega))) ?_
      refine FD.val (fun _ hw => Rn.move (v := .bool _) rfl) ?_
      refine FD.off (c := true) rfl rfl rfl ?_
      refine FD.off (c := true) rfl rfl rfl ?_
      refine FD.off (c := true) rfl rfl rfl ?_
      refine FD.off (c := true) rfl rfl rfl ?_
      refine FD.off (c := true) rfl rfl rfl ?_
      refine FD.off (c := true) rfl rfl rfl ?_
      refine FD.off (c := true) rfl rfl rfl ?_
      refine FD.off (c := true) rfl rfl rfl ?_
      refine FD.off (c := true) rfl rfl rfl ?_
      refine FD.val (fun _ hw => Rn.pickT rfl rfl) ?_
      refine FD.nil ?_
      refine hK _ _ _ ?_
      clear hK K
      refine W.cond (t := true) rfl (fun _ => W.exit (hnext _ _ n ⟨rfl, rfl, rfl, rfl, rfl, rfl, rfl, rfl, trivial⟩ (hc.then c4) (by rw [hsucc, if_neg hp]; rfl) (fun h => absurd h hp))) (fun h => by simp at h)
    · refine W.seq fun K hK => ?_
      refine W.regionD [10] [] (by kernel_rfl) (by kernel_rfl) fun w4 c4 h4 => ?_
      refine FD.val (fun _ hw => Rn.move (v := .int _ _) rfl) ?_
      refine FD.val (fun _ hw => Rn.lssD (c := false) rfl rfl (decide_eq_false (by omega))) ?_
      refine FD.val (fun _ hw => Rn.move (v := .bool _) rfl) ?_
      refine FD.on rfl rfl ?_
      refine FD.val (fun _ hw => Rn.fieldAddr Tf.fo_25_2 rfl) ?_
      refine FD.on rfl rfl ?_
      refine FD.val (fun _ hw => Rn.load1 Tf.ty_23 rfl ((b12.chg (hc.then c4) (by simp)).cell 2) (hw rfl rfl)) ?_
      refine FD.on rfl rfl ?_
      refine FD.val (fun _ hw => Rn.move (v := .int _ _) rfl) ?_
      refine FD.on rfl rfl ?_
      refine FD.val (fun _ hw => Rn.indexAddr Tf.sl_23 rfl rfl (by omega) (by omega)) ?_
      refine FD.on rfl rfl ?_
      refine FD.val (fun _ hw => Rn.fieldAddr Tf.fo_81_1 rfl) ?_
      refine FD.on rfl rfl ?_
      refine FD.val (fun _ hw => Rn.loadA Tf.ty_44 rfl rfl (show Cells _ bf (of_ + k * 4 + 1) [.int .i64 t.flaws[k].lo, .int .i64 t.flaws[k].hi] from ⟨(Cells.chg c4 (by simp) (hcellF k (by omega))).2.1, (Cells.chg c4 (by simp) (hcellF k (by omega))).2.2.1, trivial⟩) (hw rfl rfl)) ?_
      refine FD.on rfl rfl ?_
      refine FD.val (fun _ hw => Rn.loadA Tf.ty_44 rfl rfl ((b2.chg (hc.then c4) (by simp)).cells0) (hw rfl rfl)) ?_
      refine FD.on rfl rfl ?_
      refine FD.eff (by rfl) (Chg.refl _ _) ?_
      refine Flow.call2 Tf.hb_143 (v1 := .agg _) rfl (v2 := .agg _) rfl ?_
      refine Ret.mono (in_ok _ _ _ _ _) ?_
      rintro _ w5 ⟨rfl, c5⟩
      refine Flow.nil ⟨c5, ?_⟩
      refine FD.on rfl rfl ?_
      refine FD.val (fun _ hw => Rn.not rfl) ?_
      refine FD.val (fun _ hw => Rn.pickF rfl rfl) ?_
      refine FD.nil ?_
      refine hK _ _ _ ?_
      clear hK K
      have c45 := c4.then c5
      refine W.cond rfl (fun h => W.exit ?_) (fun h => W.skip (hK4 _ _ _ ?_))
      · have hp : ¬ fullP t on lo hi k := by unfold fullP; rw [hget]; simp at h; omega
        exact hnext _ _ n ⟨rfl, rfl, rfl, rfl, rfl, rfl, rfl, rfl, trivial⟩ (hc.then c45) (by rw [hsucc, if_neg hp]; rfl) (fun h => absurd h hp)
      · have hp : fullP t on lo hi k := by unfold fullP; rw [hgetD, hget]; simp at h; omega
        refine W.seq fun K6 hK6 => ?_
        refine W.seq fun K hK => ?_
        refine W.region (by rfl) ?_
        refine Flow.fieldAddr Tf.fo_25_2 rfl ?_
        refine Flow.load1 Tf.ty_23 rfl ((b12.chg (hc.then c45) (by simp)).cell 2) ?_
        refine Flow.move (v := .int _ _) rfl ?_
        refine Flow.indexAddr Tf.sl_23 rfl rfl (by omega) (by omega) ?_
        refine Flow.fieldAddr Tf.fo_81_2 rfl ?_
        refine Flow.load1 Tf.ty_3 rfl ((Cells.chg c45 (by simp) (hcellF k (by omega))).2.2.2.1) ?_
        refine Flow.move (v := .int _ _) rfl ?_
        refine Flow.lss rfl rfl ?_
        refine hK _ _ _ ?_
        clear hK K
        refine W.cond rfl (fun h => ?_) (fun h => W.skip (hK6 _ _ _ ?_))
        · refine W.seq fun K hK => ?_
          refine W.region (by rfl) ?_
          refine Flow.assignC ?_
          refine hK _ _ _ ?_
          clear hK K
          refine W.ret ⟨_, res1 rfl (v := .bool _) rfl, ?_, c12.then (hc.then c45)⟩
          have hlm : t.flaws[k].merit < merit := by simpa using h
          have : ((List.range on.length).all fun i => !(decide (fullP t on lo hi i)) || decide (merit ≤ (flawAt t i).merit)) = false := by
            rw [List.all_eq_false]
            exact ⟨k, List.mem_range.2 hlt, by simp [hp, hget]; omega⟩
          rw [fullS_of, this, Bool.false_and]
        · have hlm : merit ≤ t.flaws[k].merit := by simp at h; omega
          refine W.region (by rfl) ?_
          refine Flow.move (v := .int _ _) rfl ?_
          refine Flow.add rfl rfl (by omega) (by omega) ?_
          refine Flow.assign (v := .int _ _) rfl ?_
          exact Flow.nil (hnext _ _ (n + 1) ⟨rfl, rfl, rfl, rfl, rfl, rfl, rfl, rfl, trivial⟩ (hc.then c45) (by rw [hsucc, if_pos hp]) (fun _ => by rw [hget]; exact hlm))
  · have hge : k = on.length := by simp at h; omega
    subst hge
    refine hK1 _ _ _ ?_
    refine W.seq fun K hK => ?_
    refine W.region (by rfl) ?_
    refine Flow.move (v := .int _ _) rfl ?_
    refine Flow.loadA Tf.ty_25 rfl rfl ((b12.chg hc (by simp)).cells0) ?_
    refine Flow.loadA Tf.ty_44 rfl rfl ((b2.chg hc (by simp)).cells0) ?_
    refine Flow.call2 Tf.hb_144 (v1 := .agg _) rfl (v2 := .agg _) rfl ?_
    refine Ret.mono (room_ok _ t ac af cc cf lo hi (hC.ext (c12.then hc)) (by omega) hb) ?_
    rintro _ w4 ⟨rfl, c4⟩
    refine Flow.eql rfl rfl ?_
    refine Flow.assign (v := .bool _) rfl ?_
    refine hK _ _ _ ?_
    clear hK K
    refine W.ret ⟨_, res1 rfl (v := .bool _) rfl, ?_, c12.then (hc.then c4)⟩
    rw [fullS_of, hall, Bool.true_and, ← hcnt, roomS]
    congr 1
    simp only [decide_eq_decide]
    omega

end Go.Proofs.YtkoejelglinmnaaGreat

/-
  Contracts: whole, Best.
-/
namespace Go.Proofs.YtkoejelglinmnaaGreat
open Sg
set_option maxRecDepth 100000

/-! ### deferred calls of rounds -/
structure DsOk (s : Nat) (w : World) (ds : List Nat) : Prop where
  nd : ds.Nodup
  ge : ∀ D ∈ ds, s ≤ D
  cell : ∀ D ∈ ds, w.heap[D]? = some (.deferred (some []))

theorem DsOk.nil (s : Nat) (w : World) : DsOk s w [] := ⟨List.nodup_nil, by simp, by simp⟩

theorem DsOk.chg {s : Nat} {w w' : World} {ds S : List Nat} (h : DsOk s w ds) (hc : Chg S w w') (hS : ∀ b ∈ S, b < s) : DsOk s w' ds :=
  ⟨h.nd, h.ge, fun D hD => by
    have h1 := h.cell D hD
    exact (hc.same D (Array.getElem?_eq_some_iff.1 h1).1 (fun hm => by have := hS D hm; have := h.ge D hD; omega)).trans h1⟩

theorem DsOk.cons {s : Nat} {w : World} {ds : List Nat} {D : Nat} (h : DsOk s w ds) (hD : s ≤ D) (hn : D ∉ ds) (hc : w.heap[D]? = some (.deferred (some []))) : DsOk s w (D :: ds) :=
  ⟨List.nodup_cons.2 ⟨hn, h.nd⟩, fun x hx => by rcases List.mem_cons.1 hx with rfl | hx; exact hD; exact h.ge x hx, fun x hx => by rcases List.mem_cons.1 hx with rfl | hx; exact hc; exact h.cell x hx⟩

theorem DsOk.lt {s : Nat} {w : World} {ds : List Nat} (h : DsOk s w ds) : ∀ D ∈ ds, D < w.heap.size := fun D hD => (Array.getElem?_eq_some_iff.1 (h.cell D hD)).1

theorem leave_all {P : Program} {fn : Func} {n : Nat} {R : Value → World → Prop} {e : Env} {s : Nat} : ∀ {ds : List Nat} {w : World}, DsOk s w ds → (∀ w', Chg ds w w' → w'.heap.size = w.heap.size → Leave P fn n R [] e w') → Leave P fn n R ds e w
  | [], w, _, h => h w (Chg.refl _ _) rfl
  | D :: ds, w, hd, h => by
    have hnd := List.nodup_cons.1 hd.nd
    refine ⟨hd.cell D (by simp), leave_all (s := s) (ds := ds) ⟨hnd.2, fun x hx => hd.ge x (List.mem_cons_of_mem _ hx), fun x hx => ?_⟩ fun w' hc hs => h w' ?_ (by rw [hs]; simp)⟩
    · exact (World.putObj_heap_other (by rintro rfl; exact hnd.1 hx)).trans (hd.cell x (List.mem_cons_of_mem _ hx))
    · exact ((Chg.putObj w D _).mono (fun b _ hb => by simp at hb; simp [hb])).trans (hc.mono (T := D :: ds) (fun b _ hb => List.mem_cons_of_mem _ hb)) (fun _ _ h => h)

/-! ### lists of spans -/
def spanC (l : List (Int × Int)) : List Value := l.flatMap fun p => [.int .i64 p.1, .int .i64 p.2]

theorem spanC_len (l : List (Int × Int)) : (spanC l).length = l.length * 2 := by
  induction l with
  | nil => rfl
  | cons p l ih => simp only [spanC, List.flatMap_cons, List.length_append, List.length_cons] at ih ⊢; rw [ih]; simp; omega

theorem spanC_append (l1 l2 : List (Int × Int)) : spanC (l1 ++ l2) = spanC l1 ++ spanC l2 := by simp [spanC]
theorem spanC_cons (p : Int × Int) (l : List (Int × Int)) : spanC (p :: l) = [.int .i64 p.1, .int .i64 p.2] ++ spanC l := by simp [spanC]

theorem spanC_zeros (n : Nat) : spanC (List.replicate n (0, 0)) = List.replicate (n * 2) (.int .i64 0) := by
  induction n with
  | zero => rfl
  | succ n ih =>
    rw [List.replicate_succ, spanC_cons, ih, show (n + 1) * 2 = n * 2 + 1 + 1 from by omega, List.replicate_succ, List.replicate_succ]; rfl

def fullAt (t : Tour) (on : List Int) (i : Nat) : Int × Int :=
  if 0 ≤ on.getD i (-1) then (0, 0) else ((spansL t).find? fun s => decide (s.1 ≤ (flawAt t i).lo ∧ (flawAt t i).hi ≤ s.2) && fullS t on s.1 s.2 (flawAt t i).merit).getD (0, 0)

def fullsS (t : Tour) (on : List Int) : List (Int × Int) := (List.range t.flaws.length).map (fullAt t on)

def fullsK (t : Tour) (on : List Int) (k : Nat) : List (Int × Int) := (List.range k).map (fullAt t on) ++ List.replicate (t.flaws.length - k) (0, 0)

theorem onF_len : ∀ (has : List Int) (out : List Int) (d : Nat), (onF out d has).length = out.length
  | [], _, _ => rfl
  | i :: has, out, d => by
    simp only [onF]
    rw [onF_len has]
    split <;> simp

theorem onOf_len (n : Nat) (has : List Int) : (onOf n has).length = n := by rw [onOf, onF_len, List.length_replicate]

theorem fullsK_succ {t : Tour} {on : List Int} {k : Nat} (hk : k < t.flaws.length) (p : Int × Int) (hp : fullAt t on k = p) :
    (spanC (fullsK t on k)).take (0 + k * 2) ++ [.int .i64 p.1, .int .i64 p.2] ++ (spanC (fullsK t on k)).drop (0 + k * 2 + 2) = spanC (fullsK t on (k + 1)) := by
  obtain ⟨m, hm⟩ : ∃ m, t.flaws.length - k = m + 1 := ⟨t.flaws.length - k - 1, by omega⟩
  have hm' : t.flaws.length - (k + 1) = m := by omega
  have hl : (spanC ((List.range k).map (fullAt t on))).length = 0 + k * 2 := by rw [spanC_len]; simp
  have e1 : spanC (fullsK t on k) = spanC ((List.range k).map (fullAt t on)) ++ ([.int .i64 0, .int .i64 0] ++ spanC (List.replicate m (0, 0))) := by
    rw [fullsK, hm, List.replicate_succ, spanC_append, spanC_cons]
  have e2 : spanC (fullsK t on (k + 1)) = spanC ((List.range k).map (fullAt t on)) ++ ([.int .i64 p.1, .int .i64 p.2] ++ spanC (List.replicate m (0, 0))) := by
    rw [fullsK, hm', List.range_succ, List.map_append, List.map_singleton, hp, List.append_assoc, List.singleton_append, spanC_append, spanC_cons]
  rw [e1, e2, List.take_left' hl, show 0 + k * 2 + 2 = (0 + k * 2) + 2 from rfl, ← List.drop_drop, List.drop_left' hl]
  simp

theorem fullsK_same {t : Tour} {on : List Int} {k : Nat} (hk : k < t.flaws.length) (hp : fullAt t on k = (0, 0)) : spanC (fullsK t on k) = spanC (fullsK t on (k + 1)) := by
  obtain ⟨m, hm⟩ : ∃ m, t.flaws.length - k = m + 1 := ⟨t.flaws.length - k - 1, by omega⟩
  have hm' : t.flaws.length - (k + 1) = m := by omega
  rw [fullsK, fullsK, hm, hm', List.range_succ, List.map_append, List.map_singleton, hp, List.replicate_succ, List.append_assoc, List.singleton_append]


/-! ### the region that makes the mending: its effects come in any order -/
structure WholeI (w0 : World) (pb rb : Nat) (af : Option Addr) (cf : Nat) (t : Tour) (pv : Value) (on : List Int) (mer : Int) (L : Nat → Bool) (e : Env) (w : World) : Prop where
  no : L 11 = false
  hc : Chg [] w0 w
  e1 : e 1 = .pointer (some ⟨pb, 0, none⟩)
  e2 : e 2 = .pointer (some ⟨rb, 0, none⟩)
  s0 : L 0 = true → e 7 = pv
  s1 : L 1 = true → ∃ go, e 8 = .slice (some ⟨go, 0, none⟩) t.flaws.length t.flaws.length ∧ w0.heap.size ≤ go ∧ Blk w go (ints on) 3
  s2 : L 2 = true → e 9 = pv
  s3 : L 3 = true → e 10 = .int .i64 mer
  s4 : L 4 = true → e 11 = .pointer (some ⟨pb, 0, none⟩)
  s5 : L 5 = true → e 12 = .pointer (some ⟨pb, 2, none⟩)
  s6 : L 6 = true → e 13 = .slice af t.flaws.length cf
  s7 : L 7 = true → e 14 = .int .i64 t.flaws.length
  s8 : L 8 = true → ∃ gf, e 15 = .slice (some ⟨gf, 0, none⟩) t.flaws.length t.flaws.length ∧ w0.heap.size ≤ gf ∧ Blk w gf (spanC (fullsK t on 0)) 44
  s9 : L 9 = true → ∃ go gf, e 16 = .agg #[.slice (some ⟨go, 0, none⟩) t.flaws.length t.flaws.length, .int .i64 mer, .slice (some ⟨gf, 0, none⟩) t.flaws.length t.flaws.length] ∧ w0.heap.size ≤ go ∧ w0.heap.size ≤ gf ∧ Blk w go (ints on) 3 ∧ Blk w gf (spanC (fullsK t on 0)) 44
  s10 : L 10 = true → ∃ gm, e 3 = .pointer (some ⟨gm, 0, none⟩) ∧ w0.heap.size ≤ gm ∧ Blk w gm [.slice none 0 0, .int .i64 0, .slice none 0 0] 51

theorem WholeI.mono {w0 w w' : World} {pb rb : Nat} {af : Option Addr} {cf : Nat} {t : Tour} {pv : Value} {on : List Int} {mer : Int} {L : Nat → Bool} {e : Env} (h : WholeI w0 pb rb af cf t pv on mer L e w) (c : Chg [] w w') :
    WholeI w0 pb rb af cf t pv on mer L e w' :=
  ⟨h.no, h.hc.then c, h.e1, h.e2, h.s0, fun hl => let ⟨go, a, b, d⟩ := h.s1 hl; ⟨go, a, b, d.chg c (by simp)⟩, h.s2, h.s3, h.s4, h.s5, h.s6, h.s7, fun hl => let ⟨gf, a, b, d⟩ := h.s8 hl; ⟨gf, a, b, d.chg c (by simp)⟩,
    fun hl => let ⟨go, gf, a, b, b', d, d'⟩ := h.s9 hl; ⟨go, gf, a, b, b', d.chg c (by simp), d'.chg c (by simp)⟩, fun hl => let ⟨gm, a, b, d⟩ := h.s10 hl; ⟨gm, a, b, d.chg c (by simp)⟩⟩

structure WholeF (w0 : World) (pb rb : Nat) (t : Tour) (on : List Int) (mer : Int) (L : Nat → Bool) (e : Env) (w : World) : Prop where
  all : ∀ j, j < 11 → L j = true
  hc : Chg [] w0 w
  e1 : e 1 = .pointer (some ⟨pb, 0, none⟩)
  e2 : e 2 = .pointer (some ⟨rb, 0, none⟩)
  ex : ∃ go gf gm, e 3 = .pointer (some ⟨gm, 0, none⟩) ∧ w0.heap.size ≤ go ∧ w0.heap.size ≤ gf ∧ w0.heap.size ≤ gm ∧ go ≠ gf ∧ go ≠ gm ∧ gf ≠ gm ∧ Blk w go (ints on) 3 ∧ Blk w gf (spanC (fullsK t on 0)) 44 ∧
    Blk w gm [.slice (some ⟨go, 0, none⟩) t.flaws.length t.flaws.length, .int .i64 mer, .slice (some ⟨gf, 0, none⟩) t.flaws.length t.flaws.length] 51

theorem blk_ne {w : World} {g g' : Nat} {cs cs' : List Value} {T T' : TypeId} (h : Blk w g cs T) (h' : Blk w g' cs' T') (hT : T ≠ T') : g ≠ g' := by
  rintro rfl
  unfold Blk at h h'
  rw [h] at h'
  simp at h'
  exact hT h'.2

set_option maxHeartbeats 2000000 in
theorem whole_ok (w : World) (t : Tour) (ac af : Option Addr) (cc cf : Nat) (g : Nat) (has : List Int) (hC : IL w ac t.closed) (hF : FL w af t.flaws) (hv : Valid t) (hg : Blk w g (ints has) 3) (hI' : GInv t.days.toNat t.flaws.length has []) :
    Ret Tryz.prog 102 #[.agg #[.int .i64 t.days, .slice ac t.closed.length cc, .slice af t.flaws.length cf, .slice (some ⟨g, 0, none⟩) t.days.toNat t.days.toNat]] w fun v w' => Chg [] w w' ∧ ∃ go gf, v = .agg #[.slice (some ⟨go, 0, none⟩) t.flaws.length t.flaws.length, .int .i64 (meritOf t has), .slice (some ⟨gf, 0, none⟩) t.flaws.length t.flaws.length] ∧
      w.heap.size ≤ go ∧ w.heap.size ≤ gf ∧ Blk w' go (ints (onOf t.flaws.length has)) 3 ∧ Blk w' gf (spanC (fullsS t (onOf t.flaws.length has))) 44 := by
  have hs := hv.small
  have hfl := hs.fl
  have hdl := hs.dl
  have hdh := hs.dh
  have hlen := hI'.len
  have hol := onOf_len t.flaws.length has
  obtain ⟨on, hon⟩ : ∃ on, on = onOf t.flaws.length has := ⟨_, rfl⟩
  rw [← hon] at hol ⊢
  refine Ret.of_W (n := 57) Tryz.func102 rfl rfl (Nat.le_of_ble_eq_true rfl) ?_
  refine W.seq fun K hK => ?_
  refine W.region (by rfl) ?_
  refine Flow.box rfl (cs := [_, _, _, _]) rfl fun w1 c1 s1 b1 => ?_
  refine Flow.alloc Tf.ty_51 (cs := [_, _, _]) rfl fun w2 c2 s2 b2 => ?_
  refine hK _ _ _ ?_
  clear hK K
  have hz : List.replicate (t.flaws.length * 2) (.int .i64 0) = spanC (fullsK t on 0) := by rw [fullsK, List.range_zero, List.map_nil, List.nil_append, Nat.sub_zero, spanC_zeros]
  obtain ⟨pv, hpv⟩ : ∃ pv : Value, pv = .agg #[.int .i64 t.days, .slice ac t.closed.length cc, .slice af t.flaws.length cf, .slice (some ⟨g, 0, none⟩) t.days.toNat t.days.toNat] := ⟨_, rfl⟩
  refine W.seq fun K0 hK0 => ?_
  refine W.regionI (fun L e w' => (L 11 = true ∧ WholeF w2 w.heap.size w1.heap.size t on (meritOf t has) L e w') ∨ WholeI w2 w.heap.size w1.heap.size af cf t pv on (meritOf t has) L e w') (by kernel_rfl) (by kernel_rfl)
    (fun w0 c0 h0 => .inr ⟨rfl, c0, rfl, rfl, fun h => by simp at h, fun h => by simp at h, fun h => by simp at h, fun h => by simp at h, fun h => by simp at h, fun h => by simp at h, fun h => by simp at h, fun h => by simp at h, fun h => by simp at h, fun h => by simp at h, fun h => by simp at h⟩) ?_ ?_
  · have b1 : Blk w2 w.heap.size _ _ := b1.chg c2 (by simp)
    have c12 := c1.then c2
    refine ⟨?_, ?_, ?_, ?_, ?_, ?_, ?_, ?_, ?_, ?_, ?_, ?_, trivial⟩
    · rintro L e w' hL hd (⟨_, hI⟩ | hI)
      · rw [hI.all 0 (by omega)] at hL; cases hL
      refine Flow.loadA Tf.ty_129 hI.e1 rfl ((b1.chg hI.hc (by simp)).cells0) ?_
      exact Flow.nil (.inr ⟨hI.no, hI.hc, hI.e1, hI.e2, fun _ => hpv.symm, hI.s1, hI.s2, hI.s3, hI.s4, hI.s5, hI.s6, hI.s7, hI.s8, hI.s9, hI.s10⟩)
    · rintro L e w' hL hd (⟨_, hI⟩ | hI)
      · rw [hI.all 1 (by omega)] at hL; cases hL
      have hd : (L 0 && true) = true := hd
      have h7 := hI.s0 (by simpa using hd)
      rw [hpv] at h7
      refine Flow.call1 Tf.hb_145 h7 ?_
      refine Ret.mono (on_ok _ t ac af cc cf hs _ _ _ has (b2il (hg.chg (c12.then hI.hc) (by simp))) hlen (by omega) hI'.ok) ?_
      rintro _ w3 ⟨c3, go, rfl, hgo, bo⟩
      have hJ := hI.mono c3
      rw [← hon] at bo
      exact Flow.nil (.inr ⟨hJ.no, hJ.hc, hJ.e1, hJ.e2, hJ.s0, fun _ => ⟨go, rfl, by have := hI.hc.size; omega, bo⟩, hJ.s2, hJ.s3, hJ.s4, hJ.s5, hJ.s6, hJ.s7, hJ.s8, hJ.s9, hJ.s10⟩)
    · rintro L e w' hL hd (⟨_, hI⟩ | hI)
      · rw [hI.all 2 (by omega)] at hL; cases hL
      refine Flow.loadA Tf.ty_129 hI.e1 rfl ((b1.chg hI.hc (by simp)).cells0) ?_
      exact Flow.nil (.inr ⟨hI.no, hI.hc, hI.e1, hI.e2, hI.s0, hI.s1, fun _ => hpv.symm, hI.s3, hI.s4, hI.s5, hI.s6, hI.s7, hI.s8, hI.s9, hI.s10⟩)
    · rintro L e w' hL hd (⟨_, hI⟩ | hI)
      · rw [hI.all 3 (by omega)] at hL; cases hL
      have hd : (L 2 && (L 1 && true)) = true := hd
      simp only [Bool.and_eq_true] at hd
      have h9 := hI.s2 hd.1
      rw [hpv] at h9
      refine Flow.call1 Tf.hb_128 h9 ?_
      refine Ret.mono (planMerit_ok _ t ac af cc cf hs _ _ _ has (hF.ext (c12.then hI.hc)) (b2il (hg.chg (c12.then hI.hc) (by simp))) hlen (by omega) hI'.ok) ?_
      rintro _ w3 ⟨rfl, c3⟩
      have hJ := hI.mono c3
      exact Flow.nil (.inr ⟨hJ.no, hJ.hc, hJ.e1, hJ.e2, hJ.s0, hJ.s1, hJ.s2, fun _ => rfl, hJ.s4, hJ.s5, hJ.s6, hJ.s7, hJ.s8, hJ.s9, hJ.s10⟩)
    · rintro L e w' hL hd (⟨_, hI⟩ | hI)
      · rw [hI.all 4 (by omega)] at hL; cases hL
      refine Flow.fieldAddr Tf.fo_129_0 hI.e1 ?_
      exact Flow.nil (.inr ⟨hI.no, hI.hc, hI.e1, hI.e2, hI.s0, hI.s1, hI.s2, hI.s3, fun _ => rfl, hI.s5, hI.s6, hI.s7, hI.s8, hI.s9, hI.s10⟩)
    · rintro L e w' hL hd (⟨_, hI⟩ | hI)
      · rw [hI.all 5 (by omega)] at hL; cases hL
      have hd : (L 4 && true) = true := hd
      refine Flow.fieldAddr Tf.fo_25_2 (hI.s4 (by simpa using hd)) ?_
      exact Flow.nil (.inr ⟨hI.no, hI.hc, hI.e1, hI.e2, hI.s0, hI.s1, hI.s2, hI.s3, hI.s4, fun _ => rfl, hI.s6, hI.s7, hI.s8, hI.s9, hI.s10⟩)
    · rintro L e w' hL hd (⟨_, hI⟩ | hI)
      · rw [hI.all 6 (by omega)] at hL; cases hL
      have hd : (L 5 && true) = true := hd
      refine Flow.load1 Tf.ty_23 (hI.s5 (by simpa using hd)) ((b1.chg hI.hc (by simp)).cell 2) ?_
      exact Flow.nil (.inr ⟨hI.no, hI.hc, hI.e1, hI.e2, hI.s0, hI.s1, hI.s2, hI.s3, hI.s4, hI.s5, fun _ => rfl, hI.s7, hI.s8, hI.s9, hI.s10⟩)
    · rintro L e w' hL hd (⟨_, hI⟩ | hI)
      · rw [hI.all 7 (by omega)] at hL; cases hL
      have hd : (L 6 && true) = true := hd
      refine Flow.len rfl Tf.us_23 rfl (hI.s6 (by simpa using hd)) ?_
      exact Flow.nil (.inr ⟨hI.no, hI.hc, hI.e1, hI.e2, hI.s0, hI.s1, hI.s2, hI.s3, hI.s4, hI.s5, hI.s6, fun _ => rfl, hI.s8, hI.s9, hI.s10⟩)
    · rintro L e w' hL hd (⟨_, hI⟩ | hI)
      · rw [hI.all 8 (by omega)] at hL; cases hL
      have hd : (L 7 && (L 7 && true)) = true := hd
      simp only [Bool.and_eq_true] at hd
      refine Flow.makeSlice Tf.sl_49 Tf.us_49 (c0 := .int .i64 0) rfl (by decide) (hI.s7 hd.1) (hI.s7 hd.1) (by omega) (by omega) fun w3 c3 s3 b3 => ?_
      have hJ := hI.mono c3
      rw [hz] at b3
      exact Flow.nil (.inr ⟨hJ.no, hJ.hc, hJ.e1, hJ.e2, hJ.s0, hJ.s1, hJ.s2, hJ.s3, hJ.s4, hJ.s5, hJ.s6, hJ.s7, fun _ => ⟨_, rfl, hI.hc.size, b3⟩, hJ.s9, hJ.s10⟩)
    · rintro L e w' hL hd (⟨_, hI⟩ | hI)
      · rw [hI.all 9 (by omega)] at hL; cases hL
      have hd : (L 1 && (L 3 && (L 8 && true))) = true := hd
      simp only [Bool.and_eq_true] at hd
      obtain ⟨go, h8, hgo, bo⟩ := hI.s1 hd.1
      obtain ⟨gf, h15, hgf, bf⟩ := hI.s8 hd.2.2.1
      have h10 := hI.s3 hd.2.1
      refine Flow.buildL Tf.ty_51 Tf.pl_51 (l := [(_, _), (_, _), (_, _)]) (zs := [_, _, _]) (cs := [.slice (some ⟨go, 0, none⟩) t.flaws.length t.flaws.length, .int .i64 (meritOf t has), .slice (some ⟨gf, 0, none⟩) t.flaws.length t.flaws.length]) rfl rfl ?_ ?_
      · show fillL _ _ [(0, e 8), (1, e 10), (2, e 15)] = _
        rw [h8, h10, h15]; rfl
      exact Flow.nil (.inr ⟨hI.no, hI.hc, hI.e1, hI.e2, hI.s0, hI.s1, hI.s2, hI.s3, hI.s4, hI.s5, hI.s6, hI.s7, hI.s8, fun _ => ⟨go, gf, rfl, hgo, hgf, bo, bf⟩, hI.s10⟩)
    · rintro L e w' hL hd (⟨_, hI⟩ | hI)
      · rw [hI.all 10 (by omega)] at hL; cases hL
      refine Flow.alloc Tf.ty_51 (cs := [_, _, _]) rfl fun w3 c3 s3 b3 => ?_
      have hJ := hI.mono c3
      exact Flow.nil (.inr ⟨hJ.no, hJ.hc, hJ.e1, hJ.e2, hJ.s0, hJ.s1, hJ.s2, hJ.s3, hJ.s4, hJ.s5, hJ.s6, hJ.s7, hJ.s8, hJ.s9, fun _ => ⟨_, rfl, hI.hc.size, b3⟩⟩)
    · rintro L e w' hL hd (⟨h11, hI⟩ | hI)
      · rw [h11] at hL; cases hL
      have hd : (L 10 && (L 9 && (L 3 && (L 0 && (L 1 && (L 2 && (L 3 && (L 4 && (L 5 && (L 6 && (L 7 && (L 8 && (L 9 && (L 10 && true)))))))))))))) = true := hd
      simp only [Bool.and_eq_true] at hd
      obtain ⟨d10, d9, d3, d0, d1, d2, _, d4, d5, d6, d7, d8, _⟩ := hd
      obtain ⟨go, gf, h16, hgo, hgf, bo, bf⟩ := hI.s9 d9
      obtain ⟨gm, h3, hgm, bm⟩ := hI.s10 d10
      have n1 : go ≠ gf := blk_ne bo bf (by decide)
      have n2 : go ≠ gm := blk_ne bo bm (by decide)
      have n3 : gf ≠ gm := blk_ne bf bm (by decide)
      refine Flow.store Tf.ty_51 h3 h16 bm (vs := [_, _, _]) rfl rfl (by simp) rfl fun w3 c3 s3 b3 => ?_
      refine Flow.nil (.inl ⟨rfl, ⟨fun j hj => ?_, hI.hc.step c3 (by simpa using hgm), hI.e1, hI.e2, go, gf, gm, h3, hgo, hgf, hgm, n1, n2, n3, bo.chg c3 (by simpa using n2), bf.chg c3 (by simpa using n3), b3⟩⟩)
      show (j == 11 || L j) = true
      simp only [Bool.or_eq_true]
      right
      match j, hj with
      | 0, _ => exact d0
      | 1, _ => exact d1
      | 2, _ => exact d2
      | 3, _ => exact d3
      | 4, _ => exact d4
      | 5, _ => exact d5
      | 6, _ => exact d6
      | 7, _ => exact d7
      | 8, _ => exact d8
      | 9, _ => exact d9
      | 10, _ => exact d10
  rintro L e w7 hL (⟨_, hI⟩ | hI)
  case inr => exact absurd (hL 11 (by decide)) (by rw [hI.no]; simp)
  obtain ⟨_, c27, he1, he2, go, gf, gm, he3, hgo, hgf, hgm, n1, n2, n3, bo7, b57, b7⟩ := hI
  have b17 := ((b1.chg c2 (by simp)).chg c27 (by simp))
  have b27 := b2.chg c27 (by simp)
  have cw7 : Chg [] w w7 := c1.then (c2.then c27)
  have l17 := b17.lt
  have l27 := b27.lt
  have lo7 := bo7.lt
  have l57 := b57.lt
  have l77 := b7.lt
  have hoff : Off ac t.closed [gf] := hC.off (by simp; omega)
  have hoffF : Off af t.flaws [gf] := hF.off (by simp; omega)
  obtain ⟨e, rfl⟩ : ∃ e0, e = putL e0 [(1, .pointer (some ⟨w.heap.size, 0, none⟩)), (2, .pointer (some ⟨w1.heap.size, 0, none⟩)), (3, .pointer (some ⟨gm, 0, none⟩))] := ⟨e, putL_self ⟨he1, he2, he3, trivial⟩⟩
  clear he1 he2 he3
  refine hK0 _ _ _ ?_
  clear hK0 K0
  refine W.seq fun K1 hK1 => ?_
  refine W.seq fun K hK => ?_
  refine W.region (by rfl) ?_
  refine Flow.fieldAddr Tf.fo_129_0 rfl ?_
  refine Flow.fieldAddr Tf.fo_25_2 rfl ?_
  refine Flow.load1 Tf.ty_23 rfl (b17.cell 2) ?_
  refine Flow.len rfl Tf.us_23 rfl rfl ?_
  refine Flow.moveC ?_
  refine hK _ _ _ ?_
  clear hK K
  refine W.block ?_
  refine W.loop (ι := Nat) (fun k ds e w' => DsOk w7.heap.size w' ds ∧ k ≤ t.flaws.length ∧ AllAt e [(1, .pointer (some ⟨w.heap.size, 0, none⟩)), (2, .pointer (some ⟨w1.heap.size, 0, none⟩)), (3, .pointer (some ⟨gm, 0, none⟩)), (19, .slice af t.flaws.length cf), (20, .int .i64 t.flaws.length), (21, .int .i64 k)] ∧
      Chg [gf] w7 w' ∧ Blk w' gf (spanC (fullsK t on k)) 44)
    (fun k => t.flaws.length - k) (i0 := 0) ⟨DsOk.nil _ _, by omega, ⟨rfl, rfl, rfl, rfl, rfl, rfl, trivial⟩, Chg.refl _ _, b57⟩ ?_
  rintro k ds e w8 ⟨hds, hk, hE, hc8, hb8⟩
  obtain ⟨e, rfl⟩ : ∃ e0, e = putL e0 _ := ⟨e, putL_self hE⟩
  clear hE
  refine W.seq fun K hK => ?_
  refine W.region (by rfl) ?_
  refine Flow.lss rfl rfl ?_
  refine hK _ _ _ ?_
  clear hK K
  refine W.seq fun K2 hK2 => ?_
  refine W.cond rfl (fun h => W.skip (hK2 _ _ _ ?_)) (fun h => W.exit ?_)
  · have hlt : k < t.flaws.length := by simpa using h
    have hs8 := hc8.size
    have hC8 := (hC.ext cw7).chg hc8 hoff
    have hF8 := (hF.ext cw7).chg hc8 hoffF
    obtain ⟨bf, of_, haf, hcellF⟩ := hF8.get hlt
    have hget : flawAt t k = t.flaws[k] := flawAt_get (by simpa using hlt)
    have hsp := hv.fs _ (List.getElem_mem hlt)
    have hkon : k < on.length := by omega
    have hgetD : on.getD k (-1) = on[k] := by rw [List.getD_eq_getElem?_getD]; simp [hkon]
    have hx7 : ([w.heap.size, w1.heap.size, go, gm] : List Nat).all (fun b => !decide (b = gf)) = true := by simp; omega
    simp at hx7
    obtain ⟨x1, x2, x3, x4⟩ := hx7
    have b18 := b17.chg hc8 (by simp; omega)
    have bo8 := bo7.chg hc8 (by simp; omega)
    have b78 := b7.chg hc8 (by simp; omega)
    refine W.seq fun K3 hK3 => ?_
    have hnext : ∀ (ds : List Nat) (e : Env) (w9 : World), DsOk w7.heap.size w9 ds → AllAt e [(1, .pointer (some ⟨w.heap.size, 0, none⟩)), (2, .pointer (some ⟨w1.heap.size, 0, none⟩)), (3, .pointer (some ⟨gm, 0, none⟩)), (19, .slice af t.flaws.length cf), (20, .int .i64 t.flaws.length), (21, .int .i64 k)] →
        Chg [gf] w7 w9 → Blk w9 gf (spanC (fullsK t on (k + 1))) 44 → K3 ds e w9 := by
      intro ds e w9 hds9 hE hc9 hb9
      obtain ⟨e, rfl⟩ : ∃ e0, e = putL e0 _ := ⟨e, putL_self hE⟩
      clear hE
      refine hK3 _ _ _ ?_
      refine W.region (by rfl) ?_
      refine Flow.add rfl rfl (by omega) (by omega) ?_
      refine Flow.move (v := .int _ _) rfl ?_
      exact Flow.nil ⟨k + 1, by omega, hds9, by omega, ⟨rfl, rfl, rfl, rfl, rfl, rfl, trivial⟩, hc9, hb9⟩
    refine W.block ?_
    subst haf
    refine W.seq fun K hK => ?_
    refine W.region (by rfl) ?_
    refine Flow.move (v := .int _ _) rfl ?_
    refine Flow.indexAddr Tf.sl_23 rfl rfl (by omega) (by omega) ?_
    refine Flow.loadA Tf.ty_81 rfl rfl (hcellF k hlt) ?_
    refine Flow.alloc Tf.ty_3 (cs := [_]) rfl fun w9 c9 s9 b9 => ?_
    refine Flow.alloc Tf.ty_81 (cs := [_, _, _, _]) rfl fun w10 c10 s10 b10 => ?_
    refine Flow.store1 Tf.ty_3 rfl (v := .int _ _) rfl (b9.chg c10 (by simp)) (by simp) rfl fun w11 c11 s11 b11 => ?_
    refine Flow.store Tf.ty_81 rfl rfl (b10.chg c11 (by simp; omega)) (vs := [_, _, _, _]) rfl rfl (by simp) rfl fun w12 c12 s12 b12 => ?_
    refine hK _ _ _ ?_
    clear hK K
    have b1112 := b11.chg c12 (by simp; omega)
    have c812 : Chg [] w8 w12 := ((c9.then c10).step c11 (by simp)).step c12 (by simp; omega)
    have hs12 := c812.size
    have b1c := b18.chg c812 (by simp)
    have boc := bo8.chg c812 (by simp)
    have b7c := b78.chg c812 (by simp)
    have hbc := hb8.chg c812 (by simp)
    have hdc := hds.chg c812 (by simp)
    have hc712 : Chg [gf] w7 w12 := hc8.trans c812 (fun _ _ h => by simp at h)
    refine W.scope ?_
    refine W.seq fun K5 hK5 => ?_
    refine W.seq fun K hK => ?_
    refine W.region (by rfl) ?_
    refine Flow.fieldAddr Tf.fo_51_0 rfl ?_
    refine Flow.load1 Tf.ty_22 rfl (b7c.cell 0) ?_
    refine Flow.load1 Tf.ty_3 rfl (b1112.cell 0) ?_
    refine Flow.indexAddr1 Tf.sl_22 rfl rfl (by omega) (by omega) ?_
    refine Flow.load1 Tf.ty_3 rfl ((b2il boc).get (i := k) (by omega) |> fun _ => (show w12.cell? ⟨go, 0 + k, none⟩ = some (.int .i64 on[k]) from by rw [boc.cell, Nat.zero_add]; simp [ints, hkon])) ?_
    refine Flow.geq rfl rfl ?_
    refine hK _ _ _ ?_
    clear hK K
    refine W.cond rfl (fun h => W.exit (hnext _ _ _ hdc ⟨rfl, rfl, rfl, rfl, rfl, rfl, trivial⟩ hc712 ?_)) (fun h => W.skip (hK5 _ _ _ ?_))
    · have h0 : 0 ≤ on[k] := by simpa using h
      rw [← fullsK_same hlt (by rw [fullAt, hgetD, if_pos h0])]
      exact hbc
    · have h0 : ¬ 0 ≤ on[k] := by simpa using h
      have hfa : fullAt t on k = ((spansL t).find? fun s => decide (s.1 ≤ t.flaws[k].lo ∧ t.flaws[k].hi ≤ s.2) && fullS t on s.1 s.2 t.flaws[k].merit).getD (0, 0) := by
        rw [fullAt, hgetD, if_neg h0, hget]
      refine W.seq fun K6 hK6 => W.label (hK6 _ _ _ ?_)
      refine W.seq fun K hK => ?_
      refine W.region (by rfl) ?_
      refine Flow.fieldAddr Tf.fo_129_0 rfl ?_
      refine Flow.loadA Tf.ty_25 rfl rfl (show Cells _ w.heap.size 0 [_, _, _] from ⟨b1c.cells0.1, b1c.cells0.2.1, b1c.cells0.2.2.1, trivial⟩) ?_
      refine Flow.call1 Tf.hb_100 (v1 := .agg _) rfl ?_
      refine Ret.mono (spans_ok _ t ac _ cc cf) ?_
      rintro _ w13 ⟨c13, s13, rfl, b13⟩
      refine hK _ _ _ ?_
      clear hK K
      have c813 := c812.then c13
      have b1d := b1c.chg c13 (by simp)
      have bod := boc.chg c13 (by simp)
      have b7d := b7c.chg c13 (by simp)
      have b11d := b1112.chg c13 (by simp)
      have b12d := b12.chg c13 (by simp)
      have hbd := hbc.chg c13 (by simp)
      have hdd := hdc.chg c13 (by simp)
      have hs13 := c813.size
      have l11 := b1112.lt
      have l12 := b12.lt
      have hcl := hs.cl
      have hCd := hC8.ext c813
      have hFd := hF8.ext c813
      have hc713 : Chg [gf] w7 w13 := hc712.trans c13 (fun _ _ h => by simp at h)
      refine W.block ?_
      refine W.range_it (S := [gf]) rfl Tf.hb_142 (spans_iter w12.heap.size t.days (by omega)) (fun w1 hc => (b13.chg hc (by simp; omega)).cell 0) (by simp; omega)
        (fun rest w' => Blk w' gf (spanC (fullsK t on k)) 44 ∧ ((spansL t).find? fun s => decide (s.1 ≤ t.flaws[k].lo ∧ t.flaws[k].hi ≤ s.2) && fullS t on s.1 s.2 t.flaws[k].merit) = rest.find? fun s => decide (s.1 ≤ t.flaws[k].lo ∧ t.flaws[k].hi ≤ s.2) && fullS t on s.1 s.2 t.flaws[k].merit)
        (fun _ => False) (fun i w' => i = 2 ∧ Blk w' gf (spanC (fullsK t on (k + 1))) 44)
        (fun x rest e' w' => ∃ gb, w13.heap.size + 2 ≤ gb ∧ AllAt e' [(1, .pointer (some ⟨w.heap.size, 0, none⟩)), (3, .pointer (some ⟨gm, 0, none⟩)), (4, .pointer (some ⟨w8.heap.size, 0, none⟩)), (5, .pointer (some ⟨w9.heap.size, 0, none⟩)), (6, .pointer (some ⟨gb, 0, none⟩))] ∧ Blk w' gb [.int .i64 x.1, .int .i64 x.2] 44 ∧
          Blk w' gf (spanC (fullsK t on k)) 44 ∧ ((spansL t).find? fun s => decide (s.1 ≤ t.flaws[k].lo ∧ t.flaws[k].hi ≤ s.2) && fullS t on s.1 s.2 t.flaws[k].merit) = (x :: rest).find? fun s => decide (s.1 ≤ t.flaws[k].lo ∧ t.flaws[k].hi ≤ s.2) && fullS t on s.1 s.2 t.flaws[k].merit)
        ?_ (fun _ _ _ h _ _ => h) ?_ ?_ ⟨hbd, rfl⟩ ?_ ?_ ?_ (fun _ _ _ _ h => h.elim) ?_
      · rintro rest T wa wb ⟨h1, h2⟩ hT hTb
        exact ⟨h1.chg hT (fun hm => by have := hTb _ hm; omega), h2⟩
      · rintro i T wa wb ⟨h1, h2⟩ hT hTb
        exact ⟨h1, h2.chg hT (fun hm => by have := hTb _ hm; omega)⟩
      · rintro x rest e' wa wb ⟨gb, hgb, hE, h1, h2, h3⟩ hT
        exact ⟨gb, hgb, hE, h1.chg hT (by simp; omega), h2.chg hT (by simp; omega), h3⟩
      · rintro ⟨slo, shi⟩ rest wa hsz hc ⟨hI1, hI2⟩ hx
        refine W.region (by rfl) ?_
        refine Flow.alloc Tf.ty_44 (cs := [_, _]) rfl fun w14 c14 s14 b14 => ?_
        refine Flow.store Tf.ty_44 rfl rfl (b14) (vs := [_, _]) rfl rfl (by simp) rfl fun w15 c15 s15 b15 => ?_
        have c1415 : Chg [] wa w15 := c14.step c15 (by simp)
        exact Flow.nil ⟨Chg2.ext c1415, wa.heap.size, hsz, ⟨rfl, rfl, rfl, rfl, rfl, trivial⟩, b15, hI1.chg c1415 (by simp), hI2⟩
      · rintro ⟨slo, shi⟩ rest wa ds' e' hsz hc ⟨gb, hgb, hE, bgb, hI1, hI2⟩ hx
        simp only at hx bgb
        obtain ⟨e', rfl⟩ : ∃ e0, e' = putL e0 _ := ⟨e', putL_self hE⟩
        clear hE
        have b1a := b1d.chg hc (by simp; omega)
        have boa := bod.chg hc (by simp; omega)
        have b7a := b7d.chg hc (by simp; omega)
        have b11a := b11d.chg hc (by simp; omega)
        have b12a := b12d.chg hc (by simp; omega)
        have hCa := hCd.chg hc hoff
        have hFa := hFd.chg hc hoffF
        refine W.block ?_
        refine W.seq fun K hK => ?_
        refine W.region (by rfl) ?_
        refine Flow.fieldAddr Tf.fo_81_1 rfl ?_
        refine Flow.loadA Tf.ty_44 rfl rfl (show Cells _ w9.heap.size 1 [_, _] from ⟨b12a.cells0.2.1, b12a.cells0.2.2.1, trivial⟩) ?_
        refine Flow.loadA Tf.ty_44 rfl rfl (bgb.cells0) ?_
        refine Flow.call2 Tf.hb_143 (v1 := .agg _) rfl (v2 := .agg _) rfl ?_
        refine Ret.mono (in_ok _ _ _ _ _) ?_
        rintro _ w16 ⟨rfl, c16⟩
        rw [List.find?_cons] at hI2
        by_cases hin : slo ≤ t.flaws[k].lo ∧ t.flaws[k].hi ≤ shi
        · rw [decide_eq_true hin]
          rw [decide_eq_true hin, Bool.true_and] at hI2
          have b1b := b1a.chg c16 (by simp)
          refine Flow.move (v := .bool _) rfl ?_
          refine Flow.on rfl rfl ?_
          refine Flow.fieldAddr Tf.fo_129_0 rfl ?_
          refine Flow.on rfl rfl ?_
          refine Flow.loadA Tf.ty_25 rfl rfl (show Cells _ w.heap.size 0 [_, _, _] from ⟨b1b.cells0.1, b1b.cells0.2.1, b1b.cells0.2.2.1, trivial⟩) ?_
          refine Flow.on rfl rfl ?_
          refine Flow.fieldAddr Tf.fo_51_0 rfl ?_
          refine Flow.on rfl rfl ?_
          refine Flow.load1 Tf.ty_22 rfl ((b7a.chg c16 (by simp)).cell 0) ?_
          refine Flow.on rfl rfl ?_
          refine Flow.loadA Tf.ty_44 rfl rfl ((bgb.chg c16 (by simp)).cells0) ?_
          refine Flow.on rfl rfl ?_
          refine Flow.fieldAddr Tf.fo_81_2 rfl ?_
          refine Flow.on rfl rfl ?_
          refine Flow.load1 Tf.ty_3 rfl ((b12a.chg c16 (by simp)).cell 3) ?_
          refine Flow.on rfl rfl ?_
          refine Flow.call4 Tf.hb_146 (v1 := .agg _) rfl (v2 := .slice _ _ _) rfl (v3 := .agg _) rfl (v4 := .int _ _) rfl ?_
          refine Ret.mono (hol ▸ full_ok _ t ac _ cc cf (some ⟨go, 0, none⟩) t.flaws.length on slo shi t.flaws[k].merit (hCa.ext c16) (hFa.ext c16) hs (b2il (boa.chg c16 (by simp))) (by omega) (by omega)) ?_
          rintro _ w17 ⟨rfl, c17⟩
          refine Flow.pickT rfl rfl ?_
          refine hK _ _ _ ?_
          clear hK K
          have c1617 := c16.then c17
          have hI1' := hI1.chg c1617 (by simp)
          refine W.cond rfl (fun h => ?_) (fun h => W.skip ?_)
          · rw [h] at hI2
            refine W.seq fun K hK => ?_
            refine W.region (by rfl) ?_
            refine Flow.fieldAddr Tf.fo_51_2 rfl ?_
            refine Flow.load1 Tf.ty_49 rfl ((b7a.chg c1617 (by simp)).cell 2) ?_
            refine Flow.load1 Tf.ty_3 rfl ((b11a.chg c1617 (by simp)).cell 0) ?_
            refine Flow.loadA Tf.ty_44 rfl rfl ((bgb.chg c1617 (by simp)).cells0) ?_
            refine Flow.indexAddr Tf.sl_49 rfl rfl (by omega) (by omega) ?_
            refine Flow.store Tf.ty_44 rfl rfl (hI1') (vs := [_, _]) rfl rfl (by rw [spanC_len, fullsK]; simp; omega) rfl fun w18 c18 s18 b18 => ?_
            refine hK _ _ _ ?_
            clear hK K
            refine W.exit ⟨(Chg2.ext c1617).trans (Chg2.of c18), rfl, ?_⟩
            rw [← fullsK_succ hlt (slo, shi) (by rw [hfa, hI2]; rfl)]
            exact b18
          · rw [h] at hI2
            exact ⟨Chg2.ext c1617, hI1', hI2⟩
        · rw [decide_eq_false hin]
          rw [decide_eq_false hin, Bool.false_and] at hI2
          refine Flow.move (v := .bool _) rfl ?_
          refine Flow.off (c := false) rfl rfl rfl ?_
          refine Flow.off (c := false) rfl rfl rfl ?_
          refine Flow.off (c := false) rfl rfl rfl ?_
          refine Flow.off (c := false) rfl rfl rfl ?_
          refine Flow.off (c := false) rfl rfl rfl ?_
          refine Flow.off (c := false) rfl rfl rfl ?_
          refine Flow.off (c := false) rfl rfl rfl ?_
          refine Flow.off (c := false) rfl rfl rfl ?_
          refine Flow.pickF rfl rfl ?_
          refine hK _ _ _ ?_
          clear hK K
          refine W.cond (t := false) rfl (fun h => by simp at h) (fun _ => W.skip ⟨Chg2.ext c16, hI1.chg c16 (by simp), hI2⟩)
      · rintro w14 hc hsz hD ⟨hI1, hI2⟩
        have hs14 := hc.size
        refine hnext _ _ _ ((hdd.chg hc (by simp; omega)).cons (by omega) (fun hm => by have := hdd.lt _ hm; omega) hD) ⟨rfl, rfl, rfl, rfl, rfl, rfl, trivial⟩ (hc713.trans hc (fun _ _ h => h)) ?_
        rw [← fullsK_same hlt (by rw [hfa, hI2]; rfl)]
        exact hI1
      · rintro i w14 hc hsz hD ⟨rfl, hI1⟩
        refine hnext _ _ _ ((hdd.chg hc (by simp; omega)).cons (by omega) (fun hm => by have := hdd.lt _ hm; omega) hD) ⟨rfl, rfl, rfl, rfl, rfl, rfl, trivial⟩ (hc713.trans hc (fun _ _ h => h)) hI1
  · have hge : k = t.flaws.length := by simp at h; omega
    subst hge
    refine hK1 _ _ _ ?_
    have hs8 := hc8.size
    have b78 := b7.chg hc8 (by simp; omega)
    have b28 := b27.chg hc8 (by simp; omega)
    have bo8 := bo7.chg hc8 (by simp; omega)
    refine W.seq fun K hK => ?_
    refine W.region (by rfl) ?_
    refine Flow.loadA Tf.ty_51 rfl rfl (b78.cells0) ?_
    refine Flow.store Tf.ty_51 rfl rfl (b28) (vs := [_, _, _]) rfl rfl (by simp) rfl fun w9 c9 s9 b9 => ?_
    refine hK _ _ _ ?_
    clear hK K
    refine W.ret ?_
    have hd9 : DsOk w7.heap.size w9 ds := hds.chg c9 (by simp; omega)
    have bo9 := bo8.chg c9 (by simp; omega)
    have hb9 := hb8.chg c9 (by simp; omega)
    refine leave_all hd9 fun w10 c10 s10 => ?_
    have hn : ∀ b, b < w7.heap.size → b ∉ ds := fun b hb hm => by have := hd9.ge b hm; omega
    have b10 := b9.chg c10 (hn _ (by omega))
    refine ⟨_, resG1 rfl (OneR.cellA Tf.ty_51 rfl (l := [_, _, _]) rfl b10.cells0), ?_, go, gf, rfl, by omega, by omega, bo9.chg c10 (hn _ (by omega)), ?_⟩
    · exact ((cw7.step hc8 (by simp; omega)).step c9 (by simp; omega)).step c10 (fun b hb => by have := hd9.ge b hb; omega)
    · have hK : fullsK t on t.flaws.length = fullsS t on := by simp [fullsK, fullsS]
      rw [← hK]
      exact hb9.chg c10 (hn _ (by omega))

end Go.Proofs.YtkoejelglinmnaaGreat
