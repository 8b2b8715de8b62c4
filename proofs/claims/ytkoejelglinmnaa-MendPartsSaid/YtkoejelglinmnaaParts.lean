/-
  pecialaw06.MendParts answers true, and its arguments read as before: for every tour with Closed and Flaws of whatever length, every list of IDs and every turn.
-/
import Derived.Test.YtkoejelglinmnaaK6
import Derived.Test.YtkoejelglinmnaaK5
/-
  Plain laws: the best worth of a list of flaws, in whatever order; parts of the flaws.
-/
namespace Go.Proofs.Ytkoejelglinmnaa
open Mm

def adjF (c : List Int) (f : Flaw) (d : Int) : Prop := f.lo ≤ d ∧ d ≤ f.hi ∧ d ∉ c
def wF (f : Flaw) : Nat := f.merit.toNat

structure OptF (c : List Int) (fs : List Flaw) (n : Nat) : Prop where
  ex : ∃ A, Ind (adjF c) A ∧ (∀ x ∈ A, x ∈ fs) ∧ sumw wF A = n
  le : ∀ A, Ind (adjF c) A → (∀ x ∈ A, x ∈ fs) → sumw wF A ≤ n

theorem ind_map {F G : Type} {adj : F → Int → Prop} {adj' : G → Int → Prop} (g : F → G) {A : List F} (h : Ind adj A) (hg : ∀ x ∈ A, ∀ y ∈ A, g x = g y → x = y) (ha : ∀ x ∈ A, ∀ d, adj x d → adj' (g x) d) : Ind adj' (A.map g) := by
  obtain ⟨M, hM⟩ := h
  classical
  let N : G → Int := fun y => if h : ∃ x, x ∈ A ∧ g x = y then M (Classical.choose h) else 0
  have hN : ∀ x ∈ A, N (g x) = M x := by
    intro x hx
    have h : ∃ x', x' ∈ A ∧ g x' = g x := ⟨x, hx, rfl⟩
    have e : N (g x) = M (Classical.choose h) := dif_pos h
    have hc := Classical.choose_spec h
    rw [e, hg _ hc.1 x hx hc.2]
  have hnd : (A.map g).Nodup := by
    have : ∀ (l : List F), l.Nodup → (∀ x ∈ l, x ∈ A) → (l.map g).Nodup := by
      intro l
      induction l with
      | nil => intro _ _; simp
      | cons a l ih =>
        intro hn hs
        have hn' := List.nodup_cons.1 hn
        rw [List.map_cons, List.nodup_cons]
        refine ⟨fun hm => ?_, ih hn'.2 fun x hx => hs x (List.mem_cons_of_mem _ hx)⟩
        obtain ⟨y, hy, e⟩ := List.mem_map.1 hm
        have := hg y (hs y (List.mem_cons_of_mem _ hy)) a (hs a (by simp)) e
        exact hn'.1 (this ▸ hy)
    exact this A hM.nd fun _ h => h
  refine ⟨N, hnd, fun y hy => ?_, fun y hy z hz e => ?_⟩
  · obtain ⟨x, hx, rfl⟩ := List.mem_map.1 hy
    rw [hN x hx]
    exact ha x hx _ (hM.ok x hx)
  · obtain ⟨x, hx, rfl⟩ := List.mem_map.1 hy
    obtain ⟨x', hx', rfl⟩ := List.mem_map.1 hz
    rw [hN x hx, hN x' hx'] at e
    rw [hM.inj x hx x' hx' e]

theorem sumw_map {F G : Type} (w : G → Nat) (g : F → G) (A : List F) : sumw w (A.map g) = sumw (fun x => w (g x)) A := by
  induction A with
  | nil => rfl
  | cons a A ih => simp only [List.map_cons, sumw, ih]

theorem flawAt_inj {t : Tour} (hnd : (t.flaws.map (·.id)).Nodup) {x y : Int} (hx : 0 ≤ x ∧ x < t.flaws.length) (hy : 0 ≤ y ∧ y < t.flaws.length) (h : flawAt t x = flawAt t y) : x = y := by
  obtain ⟨a, rfl⟩ := Int.eq_ofNat_of_zero_le hx.1
  obtain ⟨b, rfl⟩ := Int.eq_ofNat_of_zero_le hy.1
  have ha : a < t.flaws.length := by omega
  have hb : b < t.flaws.length := by omega
  rw [flawAt_nat ha, flawAt_nat hb] at h
  have h1 := findS_at hnd ha
  have h2 := findS_at hnd hb
  rw [h] at h1
  rw [h1] at h2
  exact h2

theorem optF_of {t : Tour} (hnd : (t.flaws.map (·.id)).Nodup) {n : Nat} (h2 : OptI (adjT t) (wI t) t.flaws.length n) : OptF t.closed t.flaws n := by
  constructor
  · obtain ⟨A, a1, a2, a3⟩ := h2.ex
    refine ⟨A.map (flawAt t), ind_map (flawAt t) a1 (fun x hx y hy e => flawAt_inj hnd (a2 x hx) (a2 y hy) e) (fun x hx d hd => mem_adjT.1 hd), fun f hf => ?_, ?_⟩
    · obtain ⟨x, hx, rfl⟩ := List.mem_map.1 hf
      exact flawAt_mem (a2 x hx)
    · rw [sumw_map]; exact a3
  · intro A hA hm
    have hidx : ∀ f ∈ t.flaws, (0 ≤ findS f.id 0 t.flaws ∧ findS f.id 0 t.flaws < t.flaws.length) ∧ flawAt t (findS f.id 0 t.flaws) = f := by
      intro f hf
      obtain ⟨k, hk, rfl⟩ := List.mem_iff_getElem.1 hf
      rw [findS_at hnd hk]
      exact ⟨⟨by omega, by omega⟩, flawAt_nat hk⟩
    have := h2.le (A.map fun f => findS f.id 0 t.flaws) (ind_map _ hA (fun x hx y hy e => by rw [← (hidx x (hm x hx)).2, e, (hidx y (hm y hy)).2]) (fun x hx d hd => mem_adjT.2 (by rw [(hidx x (hm x hx)).2]; exact hd))) (fun x hx => by
      obtain ⟨f, hf, rfl⟩ := List.mem_map.1 hx
      exact (hidx f (hm f hf)).1)
    rw [sumw_map] at this
    rwa [sumw_congr (v := wF) fun f hf => by unfold wI wF; rw [(hidx f (hm f hf)).2]] at this

theorem valid_optF {t : Tour} (h : Valid t) : ∃ n : Nat, meritS t = n ∧ OptF t.closed t.flaws n := by
  obtain ⟨n, h1, h2⟩ := valid_opt h
  exact ⟨n, h1, optF_of h.nd h2⟩

theorem OptF.mono {c : List Int} {fs gs : List Flaw} {n m : Nat} (h : OptF c fs n) (h' : OptF c gs m) (hs : ∀ f ∈ fs, f ∈ gs) : n ≤ m := by
  obtain ⟨A, a1, a2, a3⟩ := h.ex
  have := h'.le A a1 fun x hx => hs x (a2 x hx)
  omega

theorem OptF.add {c : List Int} {fs gs ks : List Flaw} {n m k : Nat} (h : OptF c fs n) (h1 : OptF c gs m) (h2 : OptF c ks k) (hs : ∀ f ∈ fs, f ∈ gs ∨ f ∈ ks) : n ≤ m + k := by
  obtain ⟨A, a1, a2, a3⟩ := h.ex
  have key : ∀ (p : Flaw → Bool) (l : List Flaw), sumw wF l = sumw wF (l.filter p) + sumw wF (l.filter fun x => !p x) := by
    intro p l
    induction l with
    | nil => rfl
    | cons a l ih => cases h : p a <;> simp [h, sumw] <;> omega
  have hk := key (fun f => decide (f ∈ gs)) A
  have nd := a1.choose_spec.nd
  have e1 := h1.le (A.filter fun f => decide (f ∈ gs)) (a1.sub (nd.filter _) fun x hx => (List.mem_filter.1 hx).1) (fun x hx => by simpa using (List.mem_filter.1 hx).2)
  have e2 := h2.le (A.filter fun f => !decide (f ∈ gs)) (a1.sub (nd.filter _) fun x hx => (List.mem_filter.1 hx).1) (fun x hx => by
    obtain ⟨p, q⟩ := List.mem_filter.1 hx
    have hq : x ∉ gs := by simpa using q
    exact (hs x (a2 x p)).resolve_left hq)
  omega

theorem Valid.sub {t : Tour} (hv : Valid t) {l : List Flaw} (hl : l.length ≤ t.flaws.length) (hn : (l.map (·.id)).Nodup) (hs : ∀ f ∈ l, f ∈ t.flaws) : Valid { t with flaws := l } :=
  ⟨hv.d1, hv.d2, hv.cr, hv.cs, by have := hv.fn; exact Nat.le_trans hl this, fun f hf => hv.fi f (hs f hf), fun f hf => hv.fs f (hs f hf), fun f hf => hv.fm f (hs f hf), hn⟩

theorem plL_mem {t : Tour} {ids : List Int} {i : Int} (hi : i ∈ plL t ids) : ∃ (k : Nat) (h : k < t.flaws.length), i = k ∧ t.flaws[k].id ∈ ids := by
  have key : ∀ (ids : List Int) (p : Option Int) (l : List Int), listedS t.flaws p ids = some l → ∀ i ∈ l, ∃ (k : Nat) (h : k < t.flaws.length), i = k ∧ t.flaws[k].id ∈ ids := by
    intro ids
    induction ids with
    | nil => intro p l h; rw [listedS_nil] at h; obtain rfl := Option.some.inj h; simp
    | cons id ids ih =>
      intro p l h
      obtain ⟨hno, _, l', hl', rfl⟩ := listedS_some h
      intro i hi
      rcases List.mem_cons.1 hi with rfl | hi
      · rcases findS_ge id t.flaws with h | h
        · omega
        · obtain ⟨k, hk⟩ := Int.eq_ofNat_of_zero_le h.1
          have hkl : k < t.flaws.length := by omega
          exact ⟨k, hkl, hk, by rw [findS_id hkl hk]; simp⟩
      · obtain ⟨k, h1, h2, h3⟩ := ih _ l' hl' i hi
        exact ⟨k, h1, h2, List.mem_cons_of_mem _ h3⟩
  unfold plL at hi
  cases h : listedS t.flaws none ids with
  | none => rw [h] at hi; simp at hi
  | some l => rw [h] at hi; exact key ids none l h i (by simpa using hi)

theorem without_subl (t : Tour) (l : List Int) : (withoutS t l).flaws.Sublist t.flaws := by
  conv => rhs; rw [flaws_eq t]
  exact List.Sublist.map _ List.filter_sublist

theorem mem_without {t : Tour} {l : List Int} {f : Flaw} : f ∈ (withoutS t l).flaws ↔ ∃ (k : Nat) (h : k < t.flaws.length), (k : Int) ∉ l ∧ t.flaws[k] = f := by
  unfold withoutS
  simp only [List.mem_map, List.mem_filter, List.mem_range]
  constructor
  · rintro ⟨k, ⟨h1, h2⟩, rfl⟩
    exact ⟨k, h1, by simpa using h2, (flawAt_nat h1).symm⟩
  · rintro ⟨k, h1, h2, rfl⟩
    exact ⟨k, ⟨h1, by simpa using h2⟩, flawAt_nat h1⟩

theorem without_valid {t : Tour} (hv : Valid t) (l : List Int) : Valid (withoutS t l) := by
  have hs := without_subl t l
  exact hv.sub hs.length_le (hv.nd.sublist (hs.map _)) fun f hf => hs.subset hf

/-- The flaws from another one on, then the others. -/
def turned (l : List Flaw) (k n : Nat) : List Flaw := (List.range n).map fun j => l.getD ((j + k) % l.length) ⟨0, 0, 0, 0⟩

theorem turned_facts {l : List Flaw} (hnd : (l.map (·.id)).Nodup) (k : Nat) : ((turned l k l.length).map (·.id)).Nodup ∧ (turned l k l.length).length = l.length ∧ ∀ f, f ∈ turned l k l.length ↔ f ∈ l := by
  rcases Nat.eq_zero_or_pos l.length with h0 | hpos
  · have : l = [] := List.eq_nil_of_length_eq_zero h0
    subst this
    exact ⟨by simp [turned], by simp [turned], by simp [turned]⟩
  have hlt : ∀ j, (j + k) % l.length < l.length := fun j => Nat.mod_lt _ hpos
  have hget : ∀ j, l.getD ((j + k) % l.length) ⟨0, 0, 0, 0⟩ = l[(j + k) % l.length]'(hlt j) := fun j => by
    rw [List.getD_eq_getElem?_getD, List.getElem?_eq_getElem (hlt j)]; rfl
  have hlen : (turned l k l.length).length = l.length := by simp [turned]
  have hsub : ∀ f ∈ turned l k l.length, f ∈ l := by
    intro f hf
    obtain ⟨j, _, rfl⟩ := List.mem_map.1 hf
    rw [hget]; exact List.getElem_mem _
  have hmod : ∀ i j, i < l.length → j < l.length → (i + k) % l.length = (j + k) % l.length → i = j := by
    intro i j hi hj h
    have hr : k % l.length < l.length := Nat.mod_lt _ hpos
    have e : ∀ i, i < l.length → (i + k) % l.length = if i + k % l.length < l.length then i + k % l.length else i + k % l.length - l.length := by
      intro i hi
      rw [Nat.add_mod, Nat.mod_eq_of_lt hi]
      split
      · next h => exact Nat.mod_eq_of_lt h
      · next h => rw [Nat.mod_eq_sub_mod (by omega), Nat.mod_eq_of_lt (by omega)]
    rw [e i hi, e j hj] at h
    split at h <;> split at h <;> omega
  have hnd2 : ((turned l k l.length).map (·.id)).Nodup := by
    rw [turned, List.map_map]
    refine nodup_map List.nodup_range fun i hi j hj h => ?_
    simp only [Function.comp, hget] at h
    have hi' := List.mem_range.1 hi
    have hj' := List.mem_range.1 hj
    have h1 := findS_at hnd (hlt i)
    have h2 := findS_at hnd (hlt j)
    rw [h] at h1
    rw [h1] at h2
    exact hmod i j hi' hj' (by omega)
  have hnd3 : (turned l k l.length).Nodup := by
    have : ∀ (m : List Flaw), (m.map (·.id)).Nodup → m.Nodup := by
      intro m
      induction m with
      | nil => intro _; exact List.nodup_nil
      | cons a m ih =>
        intro h
        rw [List.map_cons, List.nodup_cons] at h
        exact List.nodup_cons.2 ⟨fun hm => h.1 (List.mem_map.2 ⟨a, hm, rfl⟩), ih h.2⟩
    exact this _ hnd2
  exact ⟨hnd2, hlen, fun f => ⟨hsub f, full_sub hnd3 hsub (by omega) f⟩⟩

/-- What MendParts asks for. -/
theorem parts_law {t : Tour} (hv : Valid t) (ids : List Int) (k : Nat) :
    chk { t with flaws := t.flaws.filter fun f => decide (f.id ∈ ids) } = 0 ∧ chk (withoutS t (plL t ids)) = 0 ∧ chk { t with flaws := turned t.flaws k t.flaws.length } = 0 ∧
      meritS t ≤ meritS { t with flaws := t.flaws.filter fun f => decide (f.id ∈ ids) } + meritS (withoutS t (plL t ids)) ∧
      meritS { t with flaws := t.flaws.filter fun f => decide (f.id ∈ ids) } ≤ meritS t ∧ meritS (withoutS t (plL t ids)) ≤ meritS t ∧
      meritS { t with flaws := turned t.flaws k t.flaws.length } = meritS t := by
  have hsb : (t.flaws.filter fun f => decide (f.id ∈ ids)).Sublist t.flaws := List.filter_sublist
  have v1 := hv.sub hsb.length_le (hv.nd.sublist (hsb.map _)) fun f hf => hsb.subset hf
  have v2 := without_valid hv (plL t ids)
  obtain ⟨r1, r2, r3⟩ := turned_facts hv.nd k
  have v3 := hv.sub (l := turned t.flaws k t.flaws.length) (by omega) r1 fun f hf => (r3 f).1 hf
  obtain ⟨n, e0, o0⟩ := valid_optF hv
  obtain ⟨a, e1, o1⟩ := valid_optF v1
  obtain ⟨b, e2, o2⟩ := valid_optF v2
  obtain ⟨c, e3, o3⟩ := valid_optF v3
  have hw := without_subl t (plL t ids)
  have g1 : n ≤ a + b := OptF.add o0 o1 o2 fun f hf => by
    obtain ⟨k, hk, rfl⟩ := List.mem_iff_getElem.1 hf
    by_cases h : (k : Int) ∈ plL t ids
    · obtain ⟨k', hk', e, h2⟩ := plL_mem h
      obtain rfl : k = k' := by omega
      exact .inl (List.mem_filter.2 ⟨hf, by simpa using h2⟩)
    · exact .inr (mem_without.2 ⟨k, hk, h, rfl⟩)
  have g2 : a ≤ n := o1.mono o0 fun f hf => hsb.subset hf
  have g3 : b ≤ n := OptF.mono o2 o0 fun f hf => hw.subset hf
  have g4 : c ≤ n := o3.mono o0 fun f hf => (r3 f).1 hf
  have g5 : n ≤ c := o0.mono o3 fun f hf => (r3 f).2 hf
  refine ⟨valid_chk v1, valid_chk v2, valid_chk v3, ?_, ?_, ?_, ?_⟩ <;> omega

end Go.Proofs.Ytkoejelglinmnaa

/-
  The walk of the law MendParts: a part of the flaws, the others, and all of them turned.
-/
namespace Go.Proofs.Ytkoejelglinmnaa
open Sg Mm
set_option maxRecDepth 100000

def partS (t : Tour) (ids : List Int) (k : Nat) : List Flaw := (t.flaws.take k).filter fun f => decide (f.id ∈ ids)

theorem partS_succ {t : Tour} {ids : List Int} {k : Nat} (h : k < t.flaws.length) : partS t ids (k + 1) = if t.flaws[k].id ∈ ids then partS t ids k ++ [t.flaws[k]] else partS t ids k := by
  unfold partS
  rw [List.take_add_one, List.getElem?_eq_getElem h, List.filter_append]
  by_cases hm : t.flaws[k].id ∈ ids
  · rw [if_pos hm]; simp [hm]
  · rw [if_neg hm]; simp [hm]

theorem partS_len (t : Tour) (ids : List Int) (k : Nat) : (partS t ids k).length ≤ t.flaws.length :=
  Nat.le_trans List.filter_sublist.length_le (by rw [List.length_take]; omega)

theorem turned_succ (l : List Flaw) (m k : Nat) : turned l m (k + 1) = turned l m k ++ [l.getD ((k + m) % l.length) ⟨0, 0, 0, 0⟩] := by
  simp [turned, List.range_succ]

theorem own_new {w : World} {a a' ap : Option Addr} (h : ∀ b ∈ ownB a, b ∉ ownB ap) (hd : a' = a ∨ ∃ g, a' = some ⟨g, 0, none⟩ ∧ w.heap.size ≤ g) (hp : ∀ b ∈ ownB ap, b < w.heap.size) : ∀ b ∈ ownB a', b ∉ ownB ap := by
  rcases hd with rfl | ⟨g, rfl, hg⟩
  · exact h
  · intro b hb hb'
    have := hp b hb'
    simp [ownB] at hb
    omega

theorem turned_len (l : List Flaw) (m k : Nat) : (turned l m k).length = k := by simp [turned]

set_option maxHeartbeats 2000000 in
theorem mendParts_ok (w : World) (t : Tour) (ac af : Option Addr) (cc cf : Nat) (ai : Option Addr) (ci : Nat) (ids : List Int) (turn : Int) (h1 : 0 ≤ turn ∧ turn ≤ 255) (hC : IL w ac t.closed) (hF : FL w af t.flaws) (hI : IL w ai ids) :
    Ret Try.prog 5 #[.agg #[.int .i64 t.days, .slice ac t.closed.length cc, .slice af t.flaws.length cf], .slice ai ids.length ci, .int .u8 turn] w fun v w' => v = .bool true ∧ Chg [] w w' := by
  refine Ret.of_W (n := 149) Try.func5 rfl rfl (Nat.le_of_ble_eq_true rfl) ?_
  refine W.seq fun K hK => ?_
  refine W.region (by rfl) ?_
  refine Flow.box rfl (cs := [_, _, _]) rfl fun w1 c1 s1 b1 => ?_
  refine Flow.assignC ?_
  refine hK _ _ _ ?_
  clear hK K
  refine W.seq fun K hK => ?_
  refine W.region (by rfl) ?_
  refine Flow.call0 Tf.hb_8  ?_
  refine Ret.mono (head_ok _) ?_
  rintro _ w2 ⟨rfl, c2⟩
  refine Flow.assign (v := .bool _) rfl ?_
  refine hK _ _ _ ?_
  clear hK K
  have c12 := c1.then c2
  refine W.seq fun K2 hK2 => ?_
  refine W.seq fun K hK => ?_
  refine W.region (by rfl) ?_
  refine Flow.loadA Tf.ty_25 rfl rfl ((b1.chg c2 (by simp)).cells0) ?_
  refine Flow.call1 Tf.hb_9 (v1 := .agg _) rfl ?_
  refine Ret.mono (few_ok _ t ac af cc cf) ?_
  rintro _ w3 ⟨rfl, c3⟩
  have c13 := c12.then c3
  have b13 := b1.chg (c2.then c3) (by simp)
  cases hfew : fewB t with
  | false =>
    refine Flow.not rfl ?_
    refine Flow.move (v := .bool _) rfl ?_
    refine Flow.off (c := true) rfl rfl rfl ?_
    refine Flow.off (c := true) rfl rfl rfl ?_
    refine Flow.off (c := true) rfl rfl rfl ?_
    refine Flow.pickT rfl rfl ?_
    refine hK _ _ _ ?_
    clear hK K
    refine W.cond (t := true) rfl (fun _ => ?_) (fun h => by simp at h)
    refine W.seq fun K hK => ?_
    refine W.region (by rfl) ?_
    refine Flow.move (v := .bool _) rfl ?_
    refine Flow.assign (v := .bool _) rfl ?_
    refine hK _ _ _ ?_
    clear hK K
    exact W.ret ⟨_, res1 rfl (v := .bool _) rfl, rfl, c13⟩
  | true =>
  obtain ⟨hcl, hfl, hx8⟩ := few_facts hfew
  have hx : chk t = 0 → t.flaws.length < 20 := fun h => by have := hx8 h; omega
  refine Flow.not rfl ?_
  refine Flow.move (v := .bool _) rfl ?_
  refine Flow.on rfl rfl ?_
  refine Flow.move (v := .slice _ _ _) rfl ?_
  refine Flow.on rfl rfl ?_
  refine Flow.len rfl Tf.us_22 rfl rfl ?_
  refine Flow.on rfl rfl ?_
  refine Flow.gtr rfl rfl ?_
  refine Flow.pickF rfl rfl ?_
  refine hK _ _ _ ?_
  clear hK K
  refine W.cond rfl (fun h => ?_) (fun h => W.skip (hK2 _ _ _ ?_))
  · refine W.seq fun K hK => ?_
    refine W.region (by rfl) ?_
    refine Flow.move (v := .bool _) rfl ?_
    refine Flow.assign (v := .bool _) rfl ?_
    refine hK _ _ _ ?_
    clear hK K
    exact W.ret ⟨_, res1 rfl (v := .bool _) rfl, rfl, c13⟩
  have hlen : ids.length ≤ 60 := by simp at h; omega
  refine W.seq fun K hK => ?_
  refine W.region (by rfl) ?_
  refine Flow.loadA Tf.ty_25 rfl rfl (b13.cells0) ?_
  refine Flow.move (v := .slice _ _ _) rfl ?_
  refine Flow.call2 Tf.hb_18 (v1 := .agg _) rfl (v2 := .slice _ _ _) rfl ?_
  refine Ret.mono (Without_ok _ t ac af cc cf ai ci ids (hC.ext c13) (hF.ext c13) hcl hfl (hI.ext c13) (by omega)) ?_
  rintro _ w4 ⟨c4, _, rfl, a6, k6, a7, k7, rfl, hC4, hF4⟩
  refine Flow.move (v := .tuple _) rfl ?_
  refine Flow.extract (v := .agg _) rfl rfl ?_
  refine Flow.extract (v := .int _ _) rfl rfl ?_
  refine Flow.alloc Tf.ty_25 (cs := [_, _, _]) rfl fun w5 c5 s5 b5 => ?_
  refine Flow.store Tf.ty_25 rfl rfl (b5) (vs := [_, _, _]) rfl rfl (by simp) rfl fun w6 c6 s6 b6 => ?_
  refine Flow.assign (v := .int _ _) rfl ?_
  refine hK _ _ _ ?_
  clear hK K
  have hs4 := (c13.then c4).size
  have hl3 := b13.lt
  have hs34 := c4.size
  have c46 : Chg [] w4 w6 := c5.step c6 (by simp)
  have c16 := (c13.then c4).then c46
  have b16 := b13.chg (c4.then c46) (by simp)
  refine W.seq fun K hK => ?_
  refine W.region (by rfl) ?_
  refine Flow.loadA Tf.ty_25 rfl rfl (b16.cells0) ?_
  refine Flow.call1 Tf.hb_19 (v1 := .agg _) rfl ?_
  refine Ret.mono (Merit_ok _ t ac af cc cf (hC.ext c16) (hF.ext c16) hcl hfl hx) ?_
  rintro _ w7 ⟨rfl, c7⟩
  refine Flow.move (v := .tuple _) rfl ?_
  refine Flow.extract (v := .int _ _) rfl rfl ?_
  refine Flow.extract (v := .int _ _) rfl rfl ?_
  refine Flow.assign (v := .int _ _) rfl ?_
  refine Flow.assign (v := .int _ _) rfl ?_
  refine hK _ _ _ ?_
  clear hK K
  have c17 := c16.then c7
  have b17 := b16.chg c7 (by simp)
  have b67 := b6.chg c7 (by simp)
  refine W.seq fun K6 hK6 => ?_
  by_cases he : flawsE t ids = 0
  · have hck : chk t = 0 := by
      unfold flawsE at he
      split at he
      · assumption
      · exact he
    have hv := chk_valid hck
    have hwr : withoutR t ids = withoutS t (plL t ids) := by rw [withoutR, if_pos he]
    have hmr : meritR t = meritS t := by rw [meritR, if_pos hck]
    rw [hwr] at hC4 hF4 b67 ⊢
    rw [he, hck, hmr]
    refine W.seq fun K hK => ?_
    refine W.region (by rfl) ?_
    refine Flow.move (v := .int _ _) rfl ?_
    refine Flow.neqD (c := false) rfl rfl (decide_eq_false (by omega)) ?_
    refine Flow.move (v := .bool _) rfl ?_
    refine Flow.on rfl rfl ?_
    refine Flow.move (v := .int _ _) rfl ?_
    refine Flow.on rfl rfl ?_
    refine Flow.neq rfl rfl ?_
    refine Flow.pickF rfl rfl ?_
    refine hK _ _ _ ?_
    clear hK K
    refine W.cond (t := false) rfl (fun h => by simp at h) (fun _ => W.skip (hK6 _ _ _ ?_))
    have hs7 := c17.size
    have hl7 := b17.lt
    have hl67 := b67.lt
    have hs47 := (c46.then c7).size
    refine W.seq fun K hK => ?_
    refine W.region (by rfl) ?_
    refine Flow.loadA Tf.ty_25 rfl rfl (b17.cells0) ?_
    refine Flow.alloc Tf.ty_25 (cs := [_, _, _]) rfl fun w8 c8 s8 b8 => ?_
    refine Flow.store Tf.ty_25 rfl rfl (b8) (vs := [_, _, _]) rfl rfl (by simp) rfl fun w9 c9 s9 b9 => ?_
    refine hK _ _ _ ?_
    clear hK K
    refine W.seq fun K hK => ?_
    refine W.region (by rfl) ?_
    refine Flow.fieldAddr Tf.fo_25_2 rfl ?_
    refine Flow.store1 Tf.ty_23 rfl (v := .slice _ _ _) rfl (b9) (by simp) rfl fun w10 c10 s10 b10 => ?_
    refine hK _ _ _ ?_
    clear hK K
    have c710 : Chg [] w7 w10 := (c8.step c9 (by simp)).step c10 (by simp)
    have b110 := b17.chg c710 (by simp)
    refine W.seq fun K hK => ?_
    refine W.region (by rfl) ?_
    refine Flow.loadA Tf.ty_25 rfl rfl (b110.cells0) ?_
    refine Flow.alloc Tf.ty_25 (cs := [_, _, _]) rfl fun w11 c11 s11 b11 => ?_
    refine Flow.store Tf.ty_25 rfl rfl (b11) (vs := [_, _, _]) rfl rfl (by simp) rfl fun w12 c12' s12 b12 => ?_
    refine hK _ _ _ ?_
    clear hK K
    refine W.seq fun K hK => ?_
    refine W.region (by rfl) ?_
    refine Flow.fieldAddr Tf.fo_25_2 rfl ?_
    refine Flow.store1 Tf.ty_23 rfl (v := .slice _ _ _) rfl (b12) (by simp) rfl fun w13 c13' s13 b13' => ?_
    refine hK _ _ _ ?_
    clear hK K
    have c1013 : Chg [] w10 w13 := (c11.step c12' (by simp)).step c13' (by simp)
    have c713 := c710.then c1013
    have b1013 := b10.chg c1013 (by simp)
    have hs13 : w13.heap.size = w7.heap.size + 2 := by omega
    have hid : w10.heap.size = w7.heap.size + 1 := by omega
    rw [hid] at b13' ⊢
    obtain ⟨tn, rfl⟩ := Int.eq_ofNat_of_zero_le h1.1
    refine W.forget [(1, .slice ai ids.length ci), (2, .int .u8 tn), (3, .pointer (some ⟨w.heap.size, 0, none⟩)), (7, .bool true), (8, .pointer (some ⟨w4.heap.size, 0, none⟩)), (10, .int .i64 (meritS t)), (12, .pointer (some ⟨w7.heap.size, 0, none⟩)), (13, .pointer (some ⟨w7.heap.size + 1, 0, none⟩))] ⟨rfl, rfl, rfl, rfl, rfl, rfl, rfl, rfl, trivial⟩ fun e => ?_
    refine W.seq fun K12 hK12 => ?_
    refine W.seq fun K hK => ?_
    refine W.region (by rfl) ?_
    refine Flow.assignC ?_
    refine hK _ _ _ ?_
    clear hK K
    refine W.block ?_
    refine W.loop (ι := Nat × (Option Addr × Nat) × (Option Addr × Nat)) (fun k ds e w' => ds = [] ∧ k.1 ≤ t.flaws.length ∧ AllAt e [(1, .slice ai ids.length ci), (2, .int .u8 tn), (3, .pointer (some ⟨w.heap.size, 0, none⟩)), (7, .bool true), (8, .pointer (some ⟨w4.heap.size, 0, none⟩)), (10, .int .i64 (meritS t)), (12, .pointer (some ⟨w7.heap.size, 0, none⟩)), (13, .pointer (some ⟨w7.heap.size + 1, 0, none⟩)), (14, .int .i64 k.1)] ∧
        Chg [] w7 w' ∧ w13.heap.size ≤ w'.heap.size ∧ MineF w13.heap.size w' k.2.1.1 k.2.1.2 (partS t ids k.1) ∧ MineF w13.heap.size w' k.2.2.1 k.2.2.2 (turned t.flaws tn k.1) ∧ (∀ b ∈ ownB k.2.1.1, b ∉ ownB k.2.2.1) ∧
        Blk w' w7.heap.size [.int .i64 t.days, .slice ac t.closed.length cc, .slice k.2.1.1 (partS t ids k.1).length k.2.1.2] 25 ∧ Blk w' (w7.heap.size + 1) [.int .i64 t.days, .slice ac t.closed.length cc, .slice k.2.2.1 (turned t.flaws tn k.1).length k.2.2.2] 25)
      (fun k => t.flaws.length - k.1) (i0 := (0, (none, 0), (none, 0))) ⟨rfl, by omega, ⟨rfl, rfl, rfl, rfl, rfl, rfl, rfl, rfl, rfl, trivial⟩, c713, Nat.le_refl _, MineF.nil _ _, MineF.nil _ _, by simp [ownB], b1013, b13'⟩ ?_
    rintro ⟨k, ⟨ao, co⟩, ⟨ap, cp⟩⟩ ds e w14 ⟨rfl, hk, hE, hc, hsz, hmo, hmp, hdj, hbo, hbp⟩
    obtain ⟨e, rfl⟩ : ∃ e0, e = putL e0 _ := ⟨e, putL_self hE⟩
    clear hE
    simp only at hk hsz hmo hmp hdj hbo hbp ⊢
    have c114 := c17.then hc
    have b114 := b17.chg hc (by simp)
    refine W.seq fun K13 hK13 => ?_
    refine W.seq fun K hK => ?_
    refine W.region (by rfl) ?_
    refine Flow.move (v := .int _ _) rfl ?_
    refine Flow.fieldAddr Tf.fo_25_2 rfl ?_
    refine Flow.load1 Tf.ty_23 rfl (b114.cell 2) ?_
    refine Flow.len rfl Tf.us_23 rfl rfl ?_
    refine Flow.lss rfl rfl ?_
    refine hK _ _ _ ?_
    clear hK K
    refine W.cond rfl (fun h => W.skip (hK13 _ _ _ ?_)) (fun h => W.exit ?_)
    · have hlt : k < t.flaws.length := by simpa using h
      obtain ⟨bf, of_, rfl, hflaw⟩ := (hF.ext c114).get hlt
      refine W.seq fun K14 hK14 => ?_
      refine W.block ?_
      refine W.seq fun K15 hK15 => ?_
      refine W.seq fun K hK => ?_
      refine W.region (by rfl) ?_
      refine Flow.move (v := .slice _ _ _) rfl ?_
      refine Flow.fieldAddr Tf.fo_25_2 rfl ?_
      refine Flow.load1 Tf.ty_23 rfl (b114.cell 2) ?_
      refine Flow.move (v := .int _ _) rfl ?_
      refine Flow.indexAddr Tf.sl_23 rfl rfl (by omega) (by omega) ?_
      refine Flow.fieldAddr Tf.fo_48_0 rfl ?_
      refine Flow.load1 Tf.ty_3 rfl ((hflaw k hlt).1) ?_
      refine Flow.call2 Tf.hb_12 (v1 := .slice _ _ _) rfl (v2 := .int _ _) rfl ?_
      refine Ret.mono (has_ok _ _ _ ids _ (hI.ext c114) (by omega)) ?_
      rintro _ w15 ⟨rfl, c15⟩
      refine hK _ _ _ ?_
      clear hK K
      have hgo : ∀ (ao : Option Addr) (co : Nat) (e : Env) (w' : World), AllAt e [(1, .slice ai ids.length ci), (2, .int .u8 tn), (3, .pointer (some ⟨w.heap.size, 0, none⟩)), (7, .bool true), (8, .pointer (some ⟨w4.heap.size, 0, none⟩)), (10, .int .i64 (meritS t)), (12, .pointer (some ⟨w7.heap.size, 0, none⟩)), (13, .pointer (some ⟨w7.heap.size + 1, 0, none⟩)), (14, .int .i64 k)] →
          Chg [] w7 w' → w13.heap.size ≤ w'.heap.size → MineF w13.heap.size w' ao co (partS t ids (k + 1)) → MineF w13.heap.size w' ap cp (turned t.flaws tn k) → (∀ b ∈ ownB ao, b ∉ ownB ap) →
          Blk w' w7.heap.size [.int .i64 t.days, .slice ac t.closed.length cc, .slice ao (partS t ids (k + 1)).length co] 25 → Blk w' (w7.heap.size + 1) [.int .i64 t.days, .slice ac t.closed.length cc, .slice ap (turned t.flaws tn k).length cp] 25 → K15 [] e w' := by
        clear hmo hmp hdj hbo hbp hc hsz c114 b114 hflaw c15
        intro ao co e w16 hE hc hsz hmo hmp hdj hbo hbp
        refine hK15 _ _ _ ?_
        obtain ⟨e, rfl⟩ : ∃ e0, e = putL e0 _ := ⟨e, putL_self hE⟩
        clear hE
        have c116 := c17.then hc
        have b116 := b17.chg hc (by simp)
        refine W.regionD [14, 15, 17] [15, 17] (by kernel_rfl) (by kernel_rfl) fun w17 c17' h17 => ?_
        refine FD.val (fun _ hw => Rn.fieldAddr Tf.fo_25_2 rfl) ?_
        refine FD.val (fun _ hw => Rn.load1 Tf.ty_23 rfl ((hbp.chg c17' (by simp)).cell 2) (hw rfl rfl)) ?_
        refine FD.val (fun _ hw => Rn.fieldAddr Tf.fo_25_2 rfl) ?_
        refine FD.val (fun _ hw => Rn.load1 Tf.ty_23 rfl ((b116.chg c17' (by simp)).cell 2) (hw rfl rfl)) ?_
        refine FD.val (fun _ hw => Rn.move (v := .int _ _) rfl) ?_
        refine FD.val (fun _ hw => Rn.move (v := .int _ _) rfl) ?_
        refine FD.val (fun _ hw => Rn.convert (k' := .i64) (by kernel_rfl) (by kernel_rfl) rfl (by rw [IntKind.wrap_i64]; omega)) ?_
        refine FD.val (fun _ hw => Rn.add rfl rfl (by omega) (by omega)) ?_
        refine FD.val (fun _ hw => Rn.fieldAddr Tf.fo_25_2 rfl) ?_
        refine FD.val (fun _ hw => Rn.load1 Tf.ty_23 rfl ((b116.chg c17' (by simp)).cell 2) (hw rfl rfl)) ?_
        refine FD.val (fun _ hw => Rn.len rfl Tf.us_23 rfl rfl) ?_
        refine FD.val (fun _ hw => Rn.rem rfl rfl (by omega)) ?_
        have hmod : (k + tn) % t.flaws.length < t.flaws.length := Nat.mod_lt _ (by omega)
        have htm : ((k : Int) + (tn : Int)).tmod (t.flaws.length : Int) = (((k + tn) % t.flaws.length : Nat) : Int) := by rw [← Int.natCast_add]; rfl
        rw [htm]
        have hgd : t.flaws.getD ((k + tn) % t.flaws.length) ⟨0, 0, 0, 0⟩ = t.flaws[(k + tn) % t.flaws.length] := by
          rw [List.getD_eq_getElem?_getD, List.getElem?_eq_getElem hmod]; rfl
        have htl := turned_len t.flaws tn k
        have hts := turned_succ t.flaws tn k
        rw [hgd] at hts
        obtain ⟨bf', of', he', hflaw⟩ := (hF.ext (c116.then c17')).get hmod
        obtain ⟨rfl, rfl⟩ : bf = bf' ∧ of_ = of' := by simpa using he'
        have hs17 := c17'.size
        have hnp := hmp.2
        refine FD.val (fun _ hw => Rn.indexAddr Tf.sl_23 rfl rfl (by omega) (by omega)) ?_
        refine FD.val (fun _ hw => Rn.loadA Tf.ty_48 rfl rfl (hflaw _ hmod) (hw rfl rfl)) ?_
        refine FD.eff (by rfl) (Chg.refl _ _) ?_
        refine Flow.buildSlice1 Tf.sl_23 Tf.us_23 rfl (by decide) (by decide) rfl (cs := [_, _, _, _]) rfl rfl fun w18 c18 s18 b18 => ?_
        refine Flow.nil ⟨c18, ?_⟩
        refine FD.hardE (by rfl) (by rfl) ?_
        refine Flow.append Tf.sl_23 Tf.us_23 rfl (by decide) rfl rfl ((hmp.ext (c17'.then c18)).1) (b18.cells0) rfl rfl (by omega) (by omega) fun a5 cap5 w19 o5 c19 hd5 hn5 => ?_
        refine Flow.nil ?_
        refine FD.val (fun _ hw => Rn.fieldAddr Tf.fo_25_2 rfl) ?_
        refine FD.hardE (by rfl) (by rfl) ?_
        refine Flow.store1 Tf.ty_23 rfl (v := .slice _ _ _) rfl ((hbp.chg (c17'.then c18) (by simp)).chg c19 (fun h => by have := hnp _ h; omega)) (by simp) rfl fun w20 c20 s20 b20 => ?_
        refine Flow.nil ?_
        refine FD.nil ?_
        have hmp19 : MineF w13.heap.size w19 a5 cap5 (turned t.flaws tn k ++ [t.flaws[(k + tn) % t.flaws.length]]) := (hmp.ext (c17'.then c18)).app (by omega) o5 hd5
        have hmo18 := hmo.ext (c17'.then c18)
        have hmo19 := hmo18.chg c19 hdj
        have hs19 := c19.size
        refine hK14 _ _ _ ?_
        refine W.region (by rfl) ?_
        refine Flow.move (v := .int _ _) rfl ?_
        refine Flow.add rfl rfl (by omega) (by omega) ?_
        refine Flow.assign (v := .int _ _) rfl ?_
        refine Flow.nil ⟨(k + 1, (ao, co), (a5, cap5)), by omega, rfl, by omega, ⟨rfl, rfl, rfl, rfl, rfl, rfl, rfl, rfl, rfl, trivial⟩, ((hc.then (c17'.then c18)).step c19 (fun b hb => by have := hnp b hb; omega)).step c20 (by simp), by omega, hmo19.chg c20 (fun b hb h => by have := hmo19.2 b hb; simp at h; omega), ?_, ?_, ?_, ?_⟩
        · rw [hts]; exact hmp19.chg c20 (fun b hb h => by have := hmp19.2 b hb; simp at h; omega)
        · have h5 : ∀ b ∈ ownB a5, b ∉ ownB ao := own_new (fun b hb hb' => hdj b hb' hb) hd5 (fun b hb => hmo18.1.lt b hb)
          exact fun b hb hb' => h5 b hb' hb
        · exact (((hbo.chg (c17'.then c18) (by simp)).chg c19 (fun h => by have := hnp _ h; omega)).chg c20 (by simp))
        · rw [hts]; simpa using b20
      have hsu := partS_succ (t := t) (ids := ids) hlt
      have c715 := hc.then c15
      have hs15 := c15.size
      have b115 := b17.chg c715 (by simp)
      have hmo15 := hmo.ext c15
      have hmp15 := hmp.ext c15
      have hbo15 := hbo.chg c15 (by simp)
      have hbp15 := hbp.chg c15 (by simp)
      refine W.cond rfl (fun h => ?_) (fun h => W.skip (hgo ao co _ w15 ⟨rfl, rfl, rfl, rfl, rfl, rfl, rfl, rfl, rfl, trivial⟩ c715 (by omega) ?_ hmp15 hdj ?_ hbp15))
      · have hin : t.flaws[k].id ∈ ids := by simpa using h
        rw [if_pos hin] at hsu
        have hno := hmo.2
        have hpl := partS_len t ids k
        refine W.regionD [7, 8, 10] [8, 10] (by kernel_rfl) (by kernel_rfl) fun w16 c16' h16 => ?_
        refine FD.val (fun _ hw => Rn.fieldAddr Tf.fo_25_2 rfl) ?_
        refine FD.val (fun _ hw => Rn.load1 Tf.ty_23 rfl ((hbo15.chg c16' (by simp)).cell 2) (hw rfl rfl)) ?_
        refine FD.val (fun _ hw => Rn.fieldAddr Tf.fo_25_2 rfl) ?_
        refine FD.val (fun _ hw => Rn.load1 Tf.ty_23 rfl ((b115.chg c16' (by simp)).cell 2) (hw rfl rfl)) ?_
        refine FD.val (fun _ hw => Rn.move (v := .int _ _) rfl) ?_
        refine FD.val (fun _ hw => Rn.indexAddr Tf.sl_23 rfl rfl (by omega) (by omega)) ?_
        refine FD.val (fun _ hw => Rn.loadA Tf.ty_48 rfl rfl (Cells.chg (c15.then c16') (by simp) (hflaw k hlt)) (hw rfl rfl)) ?_
        refine FD.eff (by rfl) (Chg.refl _ _) ?_
        refine Flow.buildSlice1 Tf.sl_23 Tf.us_23 rfl (by decide) (by decide) rfl (cs := [_, _, _, _]) rfl rfl fun w17 c17' s17 b17' => ?_
        refine Flow.nil ⟨c17', ?_⟩
        refine FD.hardE (by rfl) (by rfl) ?_
        refine Flow.append Tf.sl_23 Tf.us_23 rfl (by decide) rfl rfl ((hmo15.ext (c16'.then c17')).1) (b17'.cells0) rfl rfl (by omega) (by omega) fun a5 cap5 w18 o5 c18 hd5 hn5 => ?_
        refine Flow.nil ?_
        refine FD.val (fun _ hw => Rn.fieldAddr Tf.fo_25_2 rfl) ?_
        refine FD.hardE (by rfl) (by rfl) ?_
        refine Flow.store1 Tf.ty_23 rfl (v := .slice _ _ _) rfl ((hbo15.chg (c16'.then c17') (by simp)).chg c18 (fun h => by have := hno _ h; omega)) (by simp) rfl fun w19 c19 s19 b19 => ?_
        refine Flow.nil ?_
        refine FD.nil ?_
        have hs16 := c16'.size
        have hs18 := c18.size
        have hmo18 : MineF w13.heap.size w18 a5 cap5 (partS t ids k ++ [t.flaws[k]]) := (hmo15.ext (c16'.then c17')).app (by omega) o5 hd5
        have hmp17 := hmp15.ext (c16'.then c17')
        have hmp18 := hmp17.chg c18 (fun b hb h => hdj b h hb)
        refine hgo a5 cap5 _ w19 ⟨rfl, rfl, rfl, rfl, rfl, rfl, rfl, rfl, rfl, trivial⟩ (((c715.then (c16'.then c17')).step c18 (fun b hb => by have := hno b hb; omega)).step c19 (by simp)) (by omega) ?_ (hmp18.chg c19 (fun b hb h => by have := hmp18.2 b hb; simp at h; omega)) (own_new hdj hd5 (fun b hb => hmp17.1.lt b hb)) ?_ ?_
        · rw [hsu]; exact hmo18.chg c19 (fun b hb h => by have := hmo18.2 b hb; simp at h; omega)
        · rw [hsu]; simpa using b19
        · exact ((hbp15.chg (c16'.then c17') (by simp)).chg c18 (fun h => by have := hno _ h; omega)).chg c19 (by simp)
      · have hin : t.flaws[k].id ∉ ids := by simpa using h
        rw [if_neg hin] at hsu
        rw [hsu]; exact hmo15
      · have hin : t.flaws[k].id ∉ ids := by simpa using h
        rw [if_neg hin] at hsu
        rw [hsu]; exact hbo15
    have hge : k = t.flaws.length := by simp at h; omega
    subst hge
    have hpf : partS t ids t.flaws.length = t.flaws.filter fun f => decide (f.id ∈ ids) := by rw [partS, List.take_length]
    have htl := turned_len t.flaws tn t.flaws.length
    have hpl := partS_len t ids t.flaws.length
    have hwl := (without_subl t (plL t ids)).length_le
    obtain ⟨q1, q2, q3, q4, q5, q6, q7⟩ := parts_law hv ids tn
    rw [← hpf] at q1 q4 q5
    refine hK12 _ _ _ ?_
    have h8 := hx8 hck
    refine W.seq fun K hK => ?_
    refine W.region (by rfl) ?_
    refine Flow.loadA Tf.ty_25 rfl rfl (hbo.cells0) ?_
    refine Flow.call1 Tf.hb_19 (v1 := .agg _) rfl ?_
    refine Ret.mono (Merit_ok _ { t with flaws := partS t ids t.flaws.length } ac ao cc co (hC.ext c114) hmo.fl hcl (by simp only; omega) (fun _ => by simp only; omega)) ?_
    rintro _ w15 ⟨rfl, c15⟩
    refine Flow.move (v := .tuple _) rfl ?_
    refine Flow.extract (v := .int _ _) rfl rfl ?_
    refine Flow.extract (v := .int _ _) rfl rfl ?_
    refine Flow.assign (v := .int _ _) rfl ?_
    refine Flow.assign (v := .int _ _) rfl ?_
    refine hK _ _ _ ?_
    clear hK K
    have c415 : Chg [] w4 w15 := ((c46.then c7).then hc).then c15
    refine W.seq fun K hK => ?_
    refine W.region (by rfl) ?_
    refine Flow.loadA Tf.ty_25 rfl rfl ((b67.chg (hc.then c15) (by simp)).cells0) ?_
    refine Flow.call1 Tf.hb_19 (v1 := .agg _) rfl ?_
    refine Ret.mono (Merit_ok _ (withoutS t (plL t ids)) a6 a7 k6 k7 (hC4.ext c415) (hF4.ext c415) hcl (by omega) (fun _ => by omega)) ?_
    rintro _ w16 ⟨rfl, c16'⟩
    refine Flow.move (v := .tuple _) rfl ?_
    refine Flow.extract (v := .int _ _) rfl rfl ?_
    refine Flow.extract (v := .int _ _) rfl rfl ?_
    refine Flow.assign (v := .int _ _) rfl ?_
    refine Flow.assign (v := .int _ _) rfl ?_
    refine hK _ _ _ ?_
    clear hK K
    refine W.seq fun K hK => ?_
    refine W.region (by rfl) ?_
    refine Flow.loadA Tf.ty_25 rfl rfl ((hbp.chg (c15.then c16') (by simp)).cells0) ?_
    refine Flow.call1 Tf.hb_19 (v1 := .agg _) rfl ?_
    refine Ret.mono (Merit_ok _ { t with flaws := turned t.flaws tn t.flaws.length } ac ap cc cp (hC.ext (c114.then (c15.then c16'))) (hmp.fl.ext (c15.then c16')) hcl (by simp only; omega) (fun _ => by simp only; omega)) ?_
    rintro _ w17 ⟨rfl, c17'⟩
    refine Flow.move (v := .tuple _) rfl ?_
    refine Flow.extract (v := .int _ _) rfl rfl ?_
    refine Flow.extract (v := .int _ _) rfl rfl ?_
    refine Flow.assign (v := .int _ _) rfl ?_
    refine Flow.assign (v := .int _ _) rfl ?_
    refine hK _ _ _ ?_
    clear hK K
    have m1 : meritR { t with flaws := partS t ids t.flaws.length } = meritS { t with flaws := partS t ids t.flaws.length } := by rw [meritR, if_pos q1]
    have m2 : meritR (withoutS t (plL t ids)) = meritS (withoutS t (plL t ids)) := by rw [meritR, if_pos q2]
    have m3 : meritR { t with flaws := turned t.flaws tn t.flaws.length } = meritS t := by rw [meritR, if_pos q3, q7]
    rw [q1, q2, q3, m1, m2, m3]
    have hbd := merit_bd hv.small
    have hbd2 := merit_bd (chk_valid q1).small
    have hbd3 := merit_bd (chk_valid q2).small
    refine W.seq fun K hK => ?_
    refine W.region (by rfl) ?_
    refine Flow.move (v := .bool _) rfl ?_
    refine Flow.move (v := .bool _) rfl ?_
    refine Flow.on rfl rfl ?_
    refine Flow.move (v := .int _ _) rfl ?_
    refine Flow.on rfl rfl ?_
    refine Flow.eqlD (c := true) rfl rfl (decide_eq_true (by omega)) ?_
    refine Flow.pickT rfl rfl ?_
    refine Flow.move (v := .bool _) rfl ?_
    refine Flow.on rfl rfl ?_
    refine Flow.move (v := .int _ _) rfl ?_
    refine Flow.on rfl rfl ?_
    refine Flow.eqlD (c := true) rfl rfl (decide_eq_true (by omega)) ?_
    refine Flow.pickT rfl rfl ?_
    refine Flow.move (v := .bool _) rfl ?_
    refine Flow.on rfl rfl ?_
    refine Flow.move (v := .int _ _) rfl ?_
    refine Flow.on rfl rfl ?_
    refine Flow.eqlD (c := true) rfl rfl (decide_eq_true (by omega)) ?_
    refine Flow.pickT rfl rfl ?_
    refine Flow.move (v := .bool _) rfl ?_
    refine Flow.on rfl rfl ?_
    refine Flow.move (v := .int _ _) rfl ?_
    refine Flow.on rfl rfl ?_
    refine Flow.move (v := .int _ _) rfl ?_
    refine Flow.on rfl rfl ?_
    refine Flow.add rfl rfl (by omega) (by omega) ?_
    refine Flow.on rfl rfl ?_
    refine Flow.move (v := .int _ _) rfl ?_
    refine Flow.on rfl rfl ?_
    refine Flow.geqD (c := true) rfl rfl (decide_eq_true (by omega)) ?_
    refine Flow.pickT rfl rfl ?_
    refine Flow.move (v := .bool _) rfl ?_
    refine Flow.on rfl rfl ?_
    refine Flow.move (v := .int _ _) rfl ?_
    refine Flow.on rfl rfl ?_
    refine Flow.move (v := .int _ _) rfl ?_
    refine Flow.on rfl rfl ?_
    refine Flow.leqD (c := true) rfl rfl (decide_eq_true (by omega)) ?_
    refine Flow.pickT rfl rfl ?_
    refine Flow.move (v := .bool _) rfl ?_
    refine Flow.on rfl rfl ?_
    refine Flow.move (v := .int _ _) rfl ?_
    refine Flow.on rfl rfl ?_
    refine Flow.move (v := .int _ _) rfl ?_
    refine Flow.on rfl rfl ?_
    refine Flow.leqD (c := true) rfl rfl (decide_eq_true (by omega)) ?_
    refine Flow.pickT rfl rfl ?_
    refine Flow.move (v := .bool _) rfl ?_
    refine Flow.on rfl rfl ?_
    refine Flow.move (v := .int _ _) rfl ?_
    refine Flow.on rfl rfl ?_
    refine Flow.move (v := .int _ _) rfl ?_
    refine Flow.on rfl rfl ?_
    refine Flow.eqlD (c := true) rfl rfl (decide_eq_true (by omega)) ?_
    refine Flow.pickT rfl rfl ?_
    refine Flow.assign (v := .bool _) rfl ?_
    refine hK _ _ _ ?_
    clear hK K
    exact W.ret ⟨_, res1 rfl (v := .bool _) rfl, rfl, c114.then (c15.then (c16'.then c17'))⟩
  · refine W.seq fun K hK => ?_
    refine W.region (by rfl) ?_
    refine Flow.move (v := .int _ _) rfl ?_
    refine Flow.neqD (c := true) rfl rfl (decide_eq_true (by omega)) ?_
    refine Flow.move (v := .bool _) rfl ?_
    refine Flow.off (c := true) rfl rfl rfl ?_
    refine Flow.off (c := true) rfl rfl rfl ?_
    refine Flow.pickT rfl rfl ?_
    refine hK _ _ _ ?_
    clear hK K
    refine W.cond (t := true) rfl (fun _ => ?_) (fun h => by simp at h)
    refine W.seq fun K hK => ?_
    refine W.region (by rfl) ?_
    refine Flow.move (v := .bool _) rfl ?_
    refine Flow.move (v := .bool _) rfl ?_
    refine Flow.on rfl rfl ?_
    refine Flow.move (v := .int _ _) rfl ?_
    refine Flow.on rfl rfl ?_
    refine Flow.neq rfl rfl ?_
    refine Flow.pickT rfl rfl ?_
    refine Flow.assign (v := .bool _) rfl ?_
    refine hK _ _ _ ?_
    clear hK K
    exact W.ret ⟨_, res1 rfl (v := .bool _) rfl, by simp [he], c17⟩

end Go.Proofs.Ytkoejelglinmnaa

namespace Go.Proofs.Ytkoejelglinmnaa.mendPartsClaim
open Sg Go.ChangeShapes Go.WideShapes Go.ChangeAt Go.RowKit Go.Joins Go.Deep
set_option linter.unusedVariables false

set_option maxRecDepth 100000 in
theorem lifted (os : Os) (started : os.Started) (H : Type) (enc : TypeId × Value → H) :
    ReturnsInHanded {} Try.checked os 5 .any (Rows.mendPartsSpec.pre6 enc Try.prog Try.f5 Rows.mendPartsRow.domain false) (Rows.mendPartsSpec.post enc Try.prog Try.f5 false true false false) := by
  refine returnsInHanded_of_change (C := Try.checked) own started (by kernel_rfl) Try.func5
    (ChangeSpec.witness6 (enc := enc) (C := Try.checked) false ⟨#[], #[.agg #[.int .i64 0, .slice none 0 0, .slice none 0 0], .slice none 0 0, .int .u8 0], []⟩ 8 (by kernel_rfl) (by kernel_rfl) (by kernel_rfl) (by kernel_rfl)) ?_
  intro W base args ds gs before hval0 hW hcnd _
  have hval : ∀ (j : Nat) t v, Try.f5.params[j]? = some t → args[j]? = some v → Value.okWide Try.prog W .any base t v := hval0
  have hW' := hW
  obtain ⟨p, q, hA0, hV, rfl, hfz, hnd⟩ := hW
  have hA : DataW.TrodAll enc Try.prog W 0 (fun _ => true) true Try.f5.params.toList args.toList ds p := hA0
  rw [Try.params5] at hA hval
  obtain ⟨v0, vs0, d0, ds0, p0, q0, hargs, rfl, rfl, h0, r0⟩ := trodAll_cons hA
  obtain ⟨v1, vs1, d1, ds1, p1, q1, rfl, rfl, rfl, h1, r1⟩ := trodAll_cons r0
  obtain ⟨v2, vs2, d2, ds2, p2, q2, rfl, rfl, rfl, h2, r2⟩ := trodAll_cons r1
  obtain ⟨rfl, rfl, rfl⟩ := trodAll_nil r2
  obtain rfl : args = #[v0, v1, v2] := by cases args; simp_all
  obtain ⟨rfl, rfl⟩ := trodVars_none hV
  have k0 := h0
  have lt0 : ∀ x ∈ p0, x.block < W.heap.size := by obtain ⟨m, hm⟩ := k0; exact DataW.trod_lt m _ _ _ hm
  have k1 := h1
  have lt1 : ∀ x ∈ p1, x.block < W.heap.size := by obtain ⟨m, hm⟩ := k1; exact DataW.trod_lt m _ _ _ hm
  obtain ⟨t0, ac0, af0, cc0, cf0, rfl, hC0, hF0⟩ := read_tour (hval 0 _ v0 rfl rfl) h0
  obtain ⟨ai1, ci1, ids1, rfl, hI1⟩ := read_list (hval 1 _ v1 rfl rfl) h1
  obtain ⟨a2, rfl, rfl, rfl, w2⟩ := open_int u_u8 (hval 2 _ v2 rfl rfl) h2
  clear hA0 hval0
  refine Calls.mono (mendParts_ok W t0 ac0 af0 cc0 cf0 ai1 ci1 ids1 a2 (bounds_u8 w2) hC0 hF0 hI1) ?_
  rintro e W' ⟨v, rfl, rfl, hc⟩
  have bel := chg_below hc
  exact ⟨_, rfl, _, _, _, [], _, [], hW', trodAll_mk1 (shut_bool u_bool _), (trodAll_cons_mk (Below.trod laidOut (by kernel_rfl) (of_decide_eq_true (by kernel_rfl)) k0 bel lt0) (trodAll_cons_mk (Below.trod laidOut (by kernel_rfl) (of_decide_eq_true (by kernel_rfl)) k1 bel lt1) (trodAll_cons_mk (shut_int u_u8 w2) trodAll_mk0))), rfl, bel.frame _, fun h => by cases h⟩

theorem over : Rows.mendPartsRow.holds Try.pinned (OpenSpec.ofChange Rows.mendPartsSpec) :=
  OpenClaim.holds_of_wide 5 Try.f5 rfl rfl rfl rfl rfl rfl rfl ⟨rfl, rfl, rfl, rfl, rfl⟩ rfl rfl rfl rfl rfl (by kernel_rfl) Try.func5 (by kernel_rfl)
    (of_decide_eq_true (by kernel_rfl)) (by unfold Func.isWrapper; first | (rw [if_pos (by decide +kernel)]; kernel_rfl) | (rw [if_neg (by decide +kernel)]; exact ⟨rfl, rfl⟩))
    (fun os started H enc _ => lifted os started H enc)

theorem proved : Rows.MendPartsSaid := over
#print axioms proved

end Go.Proofs.Ytkoejelglinmnaa.mendPartsClaim
