/-
  pecialaw06.MendExchange answers true, and its arguments read as before: for every tour with Closed and Flaws of whatever length and both lists of IDs.
-/
import Derived.Test.YtkoejelglinmnaaK6
import Derived.Test.YtkoejelglinmnaaK5
/-
  Plain laws: the best worth of a list of flaws, in whatever order; parts of the flaws.
-/
namespace Go.Proofs.Ytkoejelglinmnaa
open Mm

def adjF (c : List Int) (f : Flaw) (d : Int) : Prop := f.lo ≤ d ∧ d ≤ f.hi ∧ d ∉ c
def wF (f : Flaw) : Nat := f.merit.toNat

structure OptF (c : List Int) (fs : List Flaw) (n : Nat) : Prop where
  ex : ∃ A, Ind (adjF c) A ∧ (∀ x ∈ A, x ∈ fs) ∧ sumw wF A = n
  le : ∀ A, Ind (adjF c) A → (∀ x ∈ A, x ∈ fs) → sumw wF A ≤ n

theorem ind_map {F G : Type} {adj : F → Int → Prop} {adj' : G → Int → Prop} (g : F → G) {A : List F} (h : Ind adj A) (hg : ∀ x ∈ A, ∀ y ∈ A, g x = g y → x = y) (ha : ∀ x ∈ A, ∀ d, adj x d → adj' (g x) d) : Ind adj' (A.map g) := by
  obtain ⟨M, hM⟩ := h
  classical
  let N : G → Int := fun y => if h : ∃ x, x ∈ A ∧ g x = y then M (Classical.choose h) else 0
  have hN : ∀ x ∈ A, N (g x) = M x := by
    intro x hx
    have h : ∃ x', x' ∈ A ∧ g x' = g x := ⟨x, hx, rfl⟩
    have e : N (g x) = M (Classical.choose h) := dif_pos h
    have hc := Classical.choose_spec h
    rw [e, hg _ hc.1 x hx hc.2]
  have hnd : (A.map g).Nodup := by
    have : ∀ (l : List F), l.Nodup → (∀ x ∈ l, x ∈ A) → (l.map g).Nodup := by
      intro l
      induction l with
      | nil => intro _ _; simp
      | cons a l ih =>
        intro hn hs
        have hn' := List.nodup_cons.1 hn
        rw [List.map_cons, List.nodup_cons]
        refine ⟨fun hm => ?_, ih hn'.2 fun x hx => hs x (List.mem_cons_of_mem _ hx)⟩
        obtain ⟨y, hy, e⟩ := List.mem_map.1 hm
        have := hg y (hs y (List.mem_cons_of_mem _ hy)) a (hs a (by simp)) e
        exact hn'.1 (this ▸ hy)
    exact this A hM.nd fun _ h => h
  refine ⟨N, hnd, fun y hy => ?_, fun y hy z hz e => ?_⟩
  · obtain ⟨x, hx, rfl⟩ := List.mem_map.1 hy
    rw [hN x hx]
    exact ha x hx _ (hM.ok x hx)
  · obtain ⟨x, hx, rfl⟩ := List.mem_map.1 hy
    obtain ⟨x', hx', rfl⟩ := List.mem_map.1 hz
    rw [hN x hx, hN x' hx'] at e
    rw [hM.inj x hx x' hx' e]

theorem sumw_map {F G : Type} (w : G → Nat) (g : F → G) (A : List F) : sumw w (A.map g) = sumw (fun x => w (g x)) A := by
  induction A with
  | nil => rfl
  | cons a A ih => simp only [List.map_cons, sumw, ih]

theorem flawAt_inj {t : Tour} (hnd : (t.flaws.map (·.id)).Nodup) {x y : Int} (hx : 0 ≤ x ∧ x < t.flaws.length) (hy : 0 ≤ y ∧ y < t.flaws.length) (h : flawAt t x = flawAt t y) : x = y := by
  obtain ⟨a, rfl⟩ := Int.eq_ofNat_of_zero_le hx.1
  obtain ⟨b, rfl⟩ := Int.eq_ofNat_of_zero_le hy.1
  have ha : a < t.flaws.length := by omega
  have hb : b < t.flaws.length := by omega
  rw [flawAt_nat ha, flawAt_nat hb] at h
  have h1 := findS_at hnd ha
  have h2 := findS_at hnd hb
  rw [h] at h1
  rw [h1] at h2
  exact h2

theorem optF_of {t : Tour} (hnd : (t.flaws.map (·.id)).Nodup) {n : Nat} (h2 : OptI (adjT t) (wI t) t.flaws.length n) : OptF t.closed t.flaws n := by
  constructor
  · obtain ⟨A, a1, a2, a3⟩ := h2.ex
    refine ⟨A.map (flawAt t), ind_map (flawAt t) a1 (fun x hx y hy e => flawAt_inj hnd (a2 x hx) (a2 y hy) e) (fun x hx d hd => mem_adjT.1 hd), fun f hf => ?_, ?_⟩
    · obtain ⟨x, hx, rfl⟩ := List.mem_map.1 hf
      exact flawAt_mem (a2 x hx)
    · rw [sumw_map]; exact a3
  · intro A hA hm
    have hidx : ∀ f ∈ t.flaws, (0 ≤ findS f.id 0 t.flaws ∧ findS f.id 0 t.flaws < t.flaws.length) ∧ flawAt t (findS f.id 0 t.flaws) = f := by
      intro f hf
      obtain ⟨k, hk, rfl⟩ := List.mem_iff_getElem.1 hf
      rw [findS_at hnd hk]
      exact ⟨⟨by omega, by omega⟩, flawAt_nat hk⟩
    have := h2.le (A.map fun f => findS f.id 0 t.flaws) (ind_map _ hA (fun x hx y hy e => by rw [← (hidx x (hm x hx)).2, e, (hidx y (hm y hy)).2]) (fun x hx d hd => mem_adjT.2 (by rw [(hidx x (hm x hx)).2]; exact hd))) (fun x hx => by
      obtain ⟨f, hf, rfl⟩ := List.mem_map.1 hx
      exact (hidx f (hm f hf)).1)
    rw [sumw_map] at this
    rwa [sumw_congr (v := wF) fun f hf => by unfold wI wF; rw [(hidx f (hm f hf)).2]] at this

theorem valid_optF {t : Tour} (h : Valid t) : ∃ n : Nat, meritS t = n ∧ OptF t.closed t.flaws n := by
  obtain ⟨n, h1, h2⟩ := valid_opt h
  exact ⟨n, h1, optF_of h.nd h2⟩

theorem OptF.mono {c : List Int} {fs gs : List Flaw} {n m : Nat} (h : OptF c fs n) (h' : OptF c gs m) (hs : ∀ f ∈ fs, f ∈ gs) : n ≤ m := by
  obtain ⟨A, a1, a2, a3⟩ := h.ex
  have := h'.le A a1 fun x hx => hs x (a2 x hx)
  omega

theorem OptF.add {c : List Int} {fs gs ks : List Flaw} {n m k : Nat} (h : OptF c fs n) (h1 : OptF c gs m) (h2 : OptF c ks k) (hs : ∀ f ∈ fs, f ∈ gs ∨ f ∈ ks) : n ≤ m + k := by
  obtain ⟨A, a1, a2, a3⟩ := h.ex
  have key : ∀ (p : Flaw → Bool) (l : List Flaw), sumw wF l = sumw wF (l.filter p) + sumw wF (l.filter fun x => !p x) := by
    intro p l
    induction l with
    | nil => rfl
    | cons a l ih => cases h : p a <;> simp [h, sumw] <;> omega
  have hk := key (fun f => decide (f ∈ gs)) A
  have nd := a1.choose_spec.nd
  have e1 := h1.le (A.filter fun f => decide (f ∈ gs)) (a1.sub (nd.filter _) fun x hx => (List.mem_filter.1 hx).1) (fun x hx => by simpa using (List.mem_filter.1 hx).2)
  have e2 := h2.le (A.filter fun f => !decide (f ∈ gs)) (a1.sub (nd.filter _) fun x hx => (List.mem_filter.1 hx).1) (fun x hx => by
    obtain ⟨p, q⟩ := List.mem_filter.1 hx
    have hq : x ∉ gs := by simpa using q
    exact (hs x (a2 x p)).resolve_left hq)
  omega

theorem Valid.sub {t : Tour} (hv : Valid t) {l : List Flaw} (hl : l.length ≤ t.flaws.length) (hn : (l.map (·.id)).Nodup) (hs : ∀ f ∈ l, f ∈ t.flaws) : Valid { t with flaws := l } :=
  ⟨hv.d1, hv.d2, hv.cr, hv.cs, by have := hv.fn; exact Nat.le_trans hl this, fun f hf => hv.fi f (hs f hf), fun f hf => hv.fs f (hs f hf), fun f hf => hv.fm f (hs f hf), hn⟩

theorem plL_mem {t : Tour} {ids : List Int} {i : Int} (hi : i ∈ plL t ids) : ∃ (k : Nat) (h : k < t.flaws.length), i = k ∧ t.flaws[k].id ∈ ids := by
  have key : ∀ (ids : List Int) (p : Option Int) (l : List Int), listedS t.flaws p ids = some l → ∀ i ∈ l, ∃ (k : Nat) (h : k < t.flaws.length), i = k ∧ t.flaws[k].id ∈ ids := by
    intro ids
    induction ids with
    | nil => intro p l h; rw [listedS_nil] at h; obtain rfl := Option.some.inj h; simp
    | cons id ids ih =>
      intro p l h
      obtain ⟨hno, _, l', hl', rfl⟩ := listedS_some h
      intro i hi
      rcases List.mem_cons.1 hi with rfl | hi
      · rcases findS_ge id t.flaws with h | h
        · omega
        · obtain ⟨k, hk⟩ := Int.eq_ofNat_of_zero_le h.1
          have hkl : k < t.flaws.length := by omega
          exact ⟨k, hkl, hk, by rw [findS_id hkl hk]; simp⟩
      · obtain ⟨k, h1, h2, h3⟩ := ih _ l' hl' i hi
        exact ⟨k, h1, h2, List.mem_cons_of_mem _ h3⟩
  unfold plL at hi
  cases h : listedS t.flaws none ids with
  | none => rw [h] at hi; simp at hi
  | some l => rw [h] at hi; exact key ids none l h i (by simpa using hi)

theorem without_subl (t : Tour) (l : List Int) : (withoutS t l).flaws.Sublist t.flaws := by
  conv => rhs; rw [flaws_eq t]
  exact List.Sublist.map _ List.filter_sublist

theorem mem_without {t : Tour} {l : List Int} {f : Flaw} : f ∈ (withoutS t l).flaws ↔ ∃ (k : Nat) (h : k < t.flaws.length), (k : Int) ∉ l ∧ t.flaws[k] = f := by
  unfold withoutS
  simp only [List.mem_map, List.mem_filter, List.mem_range]
  constructor
  · rintro ⟨k, ⟨h1, h2⟩, rfl⟩
    exact ⟨k, h1, by simpa using h2, (flawAt_nat h1).symm⟩
  · rintro ⟨k, h1, h2, rfl⟩
    exact ⟨k, ⟨h1, by simpa using h2⟩, flawAt_nat h1⟩

theorem without_valid {t : Tour} (hv : Valid t) (l : List Int) : Valid (withoutS t l) := by
  have hs := without_subl t l
  exact hv.sub hs.length_le (hv.nd.sublist (hs.map _)) fun f hf => hs.subset hf

/-- The flaws from another one on, then the others. -/
def turned (l : List Flaw) (k n : Nat) : List Flaw := (List.range n).map fun j => l.getD ((j + k) % l.length) ⟨0, 0, 0, 0⟩

theorem turned_facts {l : List Flaw} (hnd : (l.map (·.id)).Nodup) (k : Nat) : ((turned l k l.length).map (·.id)).Nodup ∧ (turned l k l.length).length = l.length ∧ ∀ f, f ∈ turned l k l.length ↔ f ∈ l := by
  rcases Nat.eq_zero_or_pos l.length with h0 | hpos
  · have : l = [] := List.eq_nil_of_length_eq_zero h0
    subst this
    exact ⟨by simp [turned], by simp [turned], by simp [turned]⟩
  have hlt : ∀ j, (j + k) % l.length < l.length := fun j => Nat.mod_lt _ hpos
  have hget : ∀ j, l.getD ((j + k) % l.length) ⟨0, 0, 0, 0⟩ = l[(j + k) % l.length]'(hlt j) := fun j => by
    rw [List.getD_eq_getElem?_getD, List.getElem?_eq_getElem (hlt j)]; rfl
  have hlen : (turned l k l.length).length = l.length := by simp [turned]
  have hsub : ∀ f ∈ turned l k l.length, f ∈ l := by
    intro f hf
    obtain ⟨j, _, rfl⟩ := List.mem_map.1 hf
    rw [hget]; exact List.getElem_mem _
  have hmod : ∀ i j, i < l.length → j < l.length → (i + k) % l.length = (j + k) % l.length → i = j := by
    intro i j hi hj h
    have hr : k % l.length < l.length := Nat.mod_lt _ hpos
    have e : ∀ i, i < l.length → (i + k) % l.length = if i + k % l.length < l.length then i + k % l.length else i + k % l.length - l.length := by
      intro i hi
      rw [Nat.add_mod, Nat.mod_eq_of_lt hi]
      split
      · next h => exact Nat.mod_eq_of_lt h
      · next h => rw [Nat.mod_eq_sub_mod (by omega), Nat.mod_eq_of_lt (by omega)]
    rw [e i hi, e j hj] at h
    split at h <;> split at h <;> omega
  have hnd2 : ((turned l k l.length).map (·.id)).Nodup := by
    rw [turned, List.map_map]
    refine nodup_map List.nodup_range fun i hi j hj h => ?_
    simp only [Function.comp, hget] at h
    have hi' := List.mem_range.1 hi
    have hj' := List.mem_range.1 hj
    have h1 := findS_at hnd (hlt i)
    have h2 := findS_at hnd (hlt j)
    rw [h] at h1
    rw [h1] at h2
    exact hmod i j hi' hj' (by omega)
  have hnd3 : (turned l k l.length).Nodup := by
    have : ∀ (m : List Flaw), (m.map (·.id)).Nodup → m.Nodup := by
      intro m
      induction m with
      | nil => intro _; exact List.nodup_nil
      | cons a m ih =>
        intro h
        rw [List.map_cons, List.nodup_cons] at h
        exact List.nodup_cons.2 ⟨fun hm => h.1 (List.mem_map.2 ⟨a, hm, rfl⟩), ih h.2⟩
    exact this _ hnd2
  exact ⟨hnd2, hlen, fun f => ⟨hsub f, full_sub hnd3 hsub (by omega) f⟩⟩

/-- What MendParts asks for. -/
theorem parts_law {t : Tour} (hv : Valid t) (ids : List Int) (k : Nat) :
    chk { t with flaws := t.flaws.filter fun f => decide (f.id ∈ ids) } = 0 ∧ chk (withoutS t (plL t ids)) = 0 ∧ chk { t with flaws := turned t.flaws k t.flaws.length } = 0 ∧
      meritS t ≤ meritS { t with flaws := t.flaws.filter fun f => decide (f.id ∈ ids) } + meritS (withoutS t (plL t ids)) ∧
      meritS { t with flaws := t.flaws.filter fun f => decide (f.id ∈ ids) } ≤ meritS t ∧ meritS (withoutS t (plL t ids)) ≤ meritS t ∧
      meritS { t with flaws := turned t.flaws k t.flaws.length } = meritS t := by
  have hsb : (t.flaws.filter fun f => decide (f.id ∈ ids)).Sublist t.flaws := List.filter_sublist
  have v1 := hv.sub hsb.length_le (hv.nd.sublist (hsb.map _)) fun f hf => hsb.subset hf
  have v2 := without_valid hv (plL t ids)
  obtain ⟨r1, r2, r3⟩ := turned_facts hv.nd k
  have v3 := hv.sub (l := turned t.flaws k t.flaws.length) (by omega) r1 fun f hf => (r3 f).1 hf
  obtain ⟨n, e0, o0⟩ := valid_optF hv
  obtain ⟨a, e1, o1⟩ := valid_optF v1
  obtain ⟨b, e2, o2⟩ := valid_optF v2
  obtain ⟨c, e3, o3⟩ := valid_optF v3
  have hw := without_subl t (plL t ids)
  have g1 : n ≤ a + b := OptF.add o0 o1 o2 fun f hf => by
    obtain ⟨k, hk, rfl⟩ := List.mem_iff_getElem.1 hf
    by_cases h : (k : Int) ∈ plL t ids
    · obtain ⟨k', hk', e, h2⟩ := plL_mem h
      obtain rfl : k = k' := by omega
      exact .inl (List.mem_filter.2 ⟨hf, by simpa using h2⟩)
    · exact .inr (mem_without.2 ⟨k, hk, h, rfl⟩)
  have g2 : a ≤ n := o1.mono o0 fun f hf => hsb.subset hf
  have g3 : b ≤ n := OptF.mono o2 o0 fun f hf => hw.subset hf
  have g4 : c ≤ n := o3.mono o0 fun f hf => (r3 f).1 hf
  have g5 : n ≤ c := o0.mono o3 fun f hf => (r3 f).2 hf
  refine ⟨valid_chk v1, valid_chk v2, valid_chk v3, ?_, ?_, ?_, ?_⟩ <;> omega

end Go.Proofs.Ytkoejelglinmnaa

/-
  Plain laws: which flaws can be mended together; one more of the longer list; how many a best mending mends.
-/
namespace Go.Proofs.Ytkoejelglinmnaa
open Mm

/-! ### the day of each flaw -/
theorem at_set' {l : List Int} {i j : Int} (hi : 0 ≤ i ∧ i < l.length) (hj : 0 ≤ j) (d : Int) : at' (l.set i.toNat d) j = if j = i then d else at' l j := by
  unfold at'
  rw [List.getD_eq_getElem?_getD, List.getD_eq_getElem?_getD, List.getElem?_set]
  by_cases h : j = i
  · subst h; rw [if_pos rfl, if_pos rfl, if_pos (by omega)]; rfl
  · rw [if_neg (by omega), if_neg h]

theorem onF_at {n : Nat} : ∀ (has out : List Int) (d : Nat), out.length = n → (∀ x ∈ has, x = -1 ∨ (0 ≤ x ∧ x < n)) → (∀ i i' (h : i < has.length) (h' : i' < has.length), has[i] = has[i'] → 0 ≤ has[i] → i = i') → ∀ j : Int, 0 ≤ j →
    (∀ i (h : i < has.length), has[i] = j → at' (onF out d has) j = (d + i : Nat)) ∧ (j ∉ has → at' (onF out d has) j = at' out j)
  | [], out, d, _, _, _, j, _ => ⟨fun i h => absurd h (by simp), fun _ => rfl⟩
  | x :: has, out, d, hl, hr, hi, j, hj => by
    have hr' : ∀ y ∈ has, y = -1 ∨ (0 ≤ y ∧ y < n) := fun y hy => hr y (List.mem_cons_of_mem _ hy)
    have hi' : ∀ i i' (h : i < has.length) (h' : i' < has.length), has[i] = has[i'] → 0 ≤ has[i] → i = i' := fun i i' h h' e h0 => by
      have := hi (i + 1) (i' + 1) (by simp; omega) (by simp; omega) (by simpa using e) (by simpa using h0)
      omega
    have hl' : (if 0 ≤ x then out.set x.toNat (d : Int) else out).length = n := by split <;> simp [hl]
    obtain ⟨h1, h2⟩ := onF_at has (if 0 ≤ x then out.set x.toNat (d : Int) else out) (d + 1) hl' hr' hi' j hj
    have hx := hr x (by simp)
    constructor
    · intro i h e
      cases i with
      | zero =>
        have e : x = j := by simpa using e
        subst e
        have hno : x ∉ has := fun hm => by
          obtain ⟨k, hk, e⟩ := List.mem_iff_getElem.1 hm
          have := hi 0 (k + 1) (by simp) (by simp; omega) (by simp [e]) (by simpa using hj)
          omega
        show at' (onF _ (d + 1) has) x = _
        rw [h2 hno, if_pos hj, at_set' (by omega) hj, if_pos rfl]; simp
      | succ k =>
        have hk : k < has.length := by simpa using h
        show at' (onF _ (d + 1) has) j = _
        rw [h1 k hk (by simpa using e)]
        simp only [Int.natCast_add]; omega
    · intro hno
      rw [List.mem_cons, not_or] at hno
      show at' (onF _ (d + 1) has) j = _
      rw [h2 hno.2]
      split
      · rw [at_set' (by omega) hj, if_neg hno.1]
      · rfl

theorem rep_at (n : Nat) (j : Int) : at' (List.replicate n (-1)) j = -1 := by
  unfold at'
  rw [List.getD_eq_getElem?_getD, List.getElem?_replicate]
  split <;> rfl

/-- Which day a flaw has, and which flaw has a day. -/
theorem onOf_at {n m : Nat} {adj : Int → List Int} {has : List Int} {S : Int → Prop} (hg : GInv n m has []) (hst : St adj n has [] S) {j : Int} (hj : 0 ≤ j ∧ j < m) :
    (j ∈ hadBy has → at' (onOf m has) j = dayIn has j) ∧ (j ∉ hadBy has → at' (onOf m has) j = -1) := by
  have hinj : ∀ i i' (h : i < has.length) (h' : i' < has.length), has[i] = has[i'] → 0 ≤ has[i] → i = i' := by
    intro i i' h h' e h0
    have hlen := hg.len
    have e1 := at_nat h
    have e2 := at_nat h'
    have := hst.inj i i' (by omega) (by omega) (by simp) (by simp) (by rw [e1, e2]; exact e) (by rw [e1]; exact h0)
    omega
  obtain ⟨h1, h2⟩ := onF_at has (List.replicate m (-1)) 0 (by simp) hg.ok hinj j hj.1
  constructor
  · intro hm
    have hm' : j ∈ has := (List.mem_filter.1 hm).1
    have hlt : has.idxOf j < has.length := List.idxOf_lt_length_of_mem hm'
    have := h1 (has.idxOf j) hlt (List.getElem_idxOf hlt)
    rw [onOf, this, dayIn]; simp
  · intro hno
    have : j ∉ has := fun hm => hno (List.mem_filter.2 ⟨hm, by simpa using hj.1⟩)
    rw [onOf, h2 this, rep_at]

theorem onOf_had {n m : Nat} {adj : Int → List Int} {has : List Int} {S : Int → Prop} (hg : GInv n m has []) (hst : St adj n has [] S) {j : Int} : j ∈ onA (onOf m has) ↔ j ∈ hadBy has := by
  rw [mem_onA, onOf_len]
  constructor
  · rintro ⟨h, h0⟩
    apply Classical.byContradiction
    intro hno
    rw [(onOf_at hg hst h).2 hno] at h0
    exact absurd h0 (by decide)
  · intro hm
    have hm' := List.mem_filter.1 hm
    have h0 : 0 ≤ j := by simpa using hm'.2
    have hr := (hg.ok j hm'.1).resolve_left (by omega)
    exact ⟨hr, by rw [(onOf_at hg hst hr).1 hm]; simp [dayIn]⟩

/-! ### some flaws together -/
theorem canAll_ind {n m : Nat} {adj : Int → List Int} (hadj : ∀ i : Int, 0 ≤ i ∧ i < m → ∀ d ∈ adj i, 0 ≤ d ∧ d < n) (hf : n < fuel) : ∀ (l pre has : List Int), GInv n m has [] → St adj n has [] (fun j => j ∈ hadBy has) →
    (∀ j, j ∈ hadBy has ↔ j ∈ pre) → (pre ++ l).Nodup → (∀ x ∈ l, 0 ≤ x ∧ x < m) → (canAll adj has l = true ↔ Ind (adjP adj) (pre ++ l))
  | [], pre, has, hg, hst, hp, hn, _ => by
    have hM := (hst.mat hg.len).1
    rw [List.append_nil] at hn ⊢
    exact ⟨fun _ => ⟨_, hM.sub hn fun x hx => (hp x).2 hx⟩, fun _ => rfl⟩
  | i :: l, pre, has, hg, hst, hp, hn, hr => by
    have hn' := List.nodup_append.1 hn
    have hiA : i ∉ hadBy has := fun hm => hn'.2.2 i ((hp i).1 hm) i (by simp) rfl
    have hi := hr i (by simp)
    have e : pre ++ i :: l = (pre ++ [i]) ++ l := by simp
    rw [canAll, addS_eq]
    by_cases ht : (give adj fuel i has []).1 = true
    · rw [if_pos ht]
      obtain ⟨g1, _⟩ := give_true hadj fuel i has [] _ hi hg hst hiA ht
      obtain ⟨k1, _⟩ := give_inv hadj fuel i has [] hi hg
      obtain ⟨hM', hS', _⟩ := g1.mat k1.len
      rw [e] at hn ⊢
      refine canAll_ind hadj hf l (pre ++ [i]) _ (GInv.nil k1.len k1.ok) (g1.had k1.len) (fun j => ?_) hn (fun x hx => hr x (List.mem_cons_of_mem _ hx))
      rw [← hS' j, hp j]; simp
    · have ht : (give adj fuel i has []).1 = false := by simpa using ht
      rw [if_neg (by rw [ht]; simp)]
      refine ⟨fun h => (Bool.false_ne_true h).elim, fun h => ?_⟩
      obtain ⟨T, h1, h2⟩ := give_tight hadj hf hi hg hst ht
      have hM := (hst.mat hg.len).1
      refine absurd (h.sub (B := i :: hadBy has) (List.nodup_cons.2 ⟨hiA, hM.nd⟩) fun x hx => ?_) (not_ind hM h1 hiA h2)
      rcases List.mem_cons.1 hx with rfl | hx
      · simp
      · exact List.mem_append.2 (.inl ((hp x).1 hx))

theorem adjV {t : Tour} (hv : Valid t) : ∀ i : Int, 0 ≤ i ∧ i < t.flaws.length → ∀ d ∈ adjT t i, 0 ≤ d ∧ d < t.days.toNat := fun i hi d hd => adjT_rg hv.small rfl hi d hd

theorem can_ind {t : Tour} (hv : Valid t) {l : List Int} (hn : l.Nodup) (hr : ∀ x ∈ l, 0 ≤ x ∧ x < t.flaws.length) : canAll (adjT t) (noDays t) l = true ↔ Ind (adjP (adjT t)) l := by
  have h := Greedy.none (adjT t) t.days.toNat t.flaws.length (fun _ => 0)
  have hno : hadBy (List.replicate t.days.toNat (-1)) = [] := List.filter_eq_nil_iff.2 fun x hx => by rw [(List.mem_replicate.1 hx).2]; decide
  have := hv.d2
  have := canAll_ind (adjV hv) (by show t.days.toNat < 130; omega) l [] (noDays t) h.inv h.st (fun j => by rw [noDays, hno]) (by simpa using hn) hr
  simpa using this

/-- One more of the longer list. -/
theorem exch {n m : Nat} {adj : Int → List Int} (hadj : ∀ i : Int, 0 ≤ i ∧ i < m → ∀ d ∈ adj i, 0 ≤ d ∧ d < n) {A B : List Int} (hA : Ind (adjP adj) A) (hB : Ind (adjP adj) B) (hrA : ∀ x ∈ A, 0 ≤ x ∧ x < (m : Int)) (hrB : ∀ x ∈ B, 0 ≤ x ∧ x < (m : Int))
    (hl : A.length < B.length) : ∃ x ∈ B, x ∉ A ∧ Ind (adjP adj) (x :: A) := by
  apply Classical.byContradiction
  intro hno
  obtain ⟨M, hM⟩ := hA
  obtain ⟨N, hN⟩ := hB
  have ht : ∀ x ∈ B, x ∉ A → ∃ T, Tight (adjP adj) A M T ∧ ∀ e, adjP adj x e → T e := fun x hx hxA =>
    (dich hadj hM hrA (hrB x hx) hxA).resolve_left fun h => hno ⟨x, hx, hxA, h⟩
  have := count hM (T := fun d => ∃ x ∈ B, x ∉ A ∧ ∃ T, Tight (adjP adj) A M T ∧ T d) (by
    rintro d ⟨x, hx, hxA, T, hT, hd⟩
    obtain ⟨j, h1, h2, h3⟩ := hT d hd
    exact ⟨j, h1, h2, fun e he => ⟨x, hx, hxA, T, hT, h3 e he⟩⟩) hN (by
    intro i hi hiA e he
    obtain ⟨T, hT, h⟩ := ht i hi hiA
    exact ⟨i, hi, hiA, T, hT, h e he⟩)
  omega

/-- No more flaws can be mended than a best mending mends. -/
theorem best_many {t : Tour} (hv : Valid t) {l : List Int} (hl : Ind (adjP (adjT t)) l) (hr : ∀ x ∈ l, 0 ≤ x ∧ x < t.flaws.length) : l.length ≤ (onA (onOf t.flaws.length (bestHas t))).length := by
  have g := best_greedy (t := t) (by have := hv.d1; omega) hv.d2 (fun f hf => ⟨(hv.fs f hf).1, (hv.fs f hf).2.2⟩)
  obtain ⟨hM, _, _⟩ := g.st.mat g.inv.len
  obtain ⟨N, hN⟩ := hl
  have h1 := count hM (T := fun d => ∃ T, Tight (adjP (adjT t)) (hadBy (bestHas t)) (dayIn (bestHas t)) T ∧ T d) (by
    rintro d ⟨T, hT, hd⟩
    obtain ⟨j, h1, h2, h3⟩ := hT d hd
    exact ⟨j, h1, h2, fun e he => ⟨T, hT, h3 e he⟩⟩) hN (by
    intro i hi hiA e he
    obtain ⟨T, hT, h, _⟩ := g.cert i (order_mem.2 (hr i hi)) hiA
    exact ⟨T, hT, h e he⟩)
  have h2 := nodup_len (l1 := hadBy (bestHas t)) (l2 := onA (onOf t.flaws.length (bestHas t))) hM.nd fun x hx => (onOf_had g.inv g.st).2 hx
  omega

/-! ### lists of IDs -/
theorem listedS_iff {fl : List Flaw} : ∀ (ids : List Int) (p : Option Int), (listedS fl p ids).isSome = true ↔ (∀ x ∈ ids, 0 ≤ findS x 0 fl) ∧ ids.Pairwise (· < ·) ∧ ∀ q, p = some q → ∀ x ∈ ids, q < x
  | [], p => by rw [listedS_nil]; simp
  | id :: ids, p => by
    constructor
    · intro h
      obtain ⟨l, hl⟩ := Option.isSome_iff_exists.1 h
      obtain ⟨h1, h2, l', h3, _⟩ := listedS_some hl
      obtain ⟨i1, i2, i3⟩ := (listedS_iff ids (some id)).1 (by rw [h3]; rfl)
      refine ⟨fun x hx => ?_, List.pairwise_cons.2 ⟨fun x hx => i3 id rfl x hx, i2⟩, fun q hq x hx => ?_⟩
      · rcases List.mem_cons.1 hx with rfl | hx
        · exact h1
        · exact i1 x hx
      · rcases List.mem_cons.1 hx with rfl | hx
        · exact h2 q hq
        · have := h2 q hq; have := i3 id rfl x hx; omega
    · rintro ⟨h1, h2, h3⟩
      have h2' := List.pairwise_cons.1 h2
      have ih := (listedS_iff ids (some id)).2 ⟨fun x hx => h1 x (List.mem_cons_of_mem _ hx), h2'.2, fun q hq x hx => by obtain rfl := Option.some.inj hq; exact h2'.1 x hx⟩
      rw [listedS_cons]
      have h0 := h1 id (by simp)
      cases p with
      | none =>
        rw [if_neg (by simp; omega)]
        simpa using ih
      | some q =>
        have := h3 q rfl id (by simp)
        rw [if_neg (by simp; omega)]
        simpa using ih

theorem okL_iff {t : Tour} {ids : List Int} : okL t ids = true ↔ (∀ x ∈ ids, 0 ≤ findS x 0 t.flaws) ∧ ids.Pairwise (· < ·) := by
  rw [okL, listedS_iff]; simp

theorem plL_map {t : Tour} {ids : List Int} (h : okL t ids = true) : plL t ids = ids.map fun x => findS x 0 t.flaws := by
  have key : ∀ (ids : List Int) (p : Option Int) (l : List Int), listedS t.flaws p ids = some l → l = ids.map fun x => findS x 0 t.flaws := by
    intro ids
    induction ids with
    | nil => intro p l h; rw [listedS_nil] at h; obtain rfl := Option.some.inj h; rfl
    | cons id ids ih =>
      intro p l h
      obtain ⟨_, _, l', hl', rfl⟩ := listedS_some h
      rw [List.map_cons, ih _ l' hl']
  obtain ⟨l, hl⟩ := Option.isSome_iff_exists.1 h
  rw [plL, hl, Option.getD_some]
  exact key ids none l hl

theorem find_inj {fl : List Flaw} {x y : Int} (hx : 0 ≤ findS x 0 fl) (h : findS x 0 fl = findS y 0 fl) : x = y := by
  obtain ⟨k, hk⟩ := Int.eq_ofNat_of_zero_le hx
  have hkl : k < fl.length := by rcases findS_ge x fl with h | h <;> omega
  exact (findS_id hkl hk).symm.trans (findS_id hkl (h ▸ hk))

theorem plL_nodup {t : Tour} {ids : List Int} (h : okL t ids = true) : (plL t ids).Nodup := by
  rw [plL_map h]
  obtain ⟨h1, h2⟩ := okL_iff.1 h
  exact nodup_map (h2.imp fun h e => by omega) fun x hx y _ e => find_inj (h1 x hx) e

theorem canS_ind {t : Tour} (hv : Valid t) {ids : List Int} (h : okL t ids = true) : canS t ids = true ↔ Ind (adjP (adjT t)) (plL t ids) := by
  have he : flawsE t ids = 0 := by rw [flawsE, if_pos (valid_chk hv), if_pos h]
  rw [canS, if_pos he]
  exact can_ind hv (plL_nodup h) (plL_rg t ids)

/-- A list with one more, where it stands. -/
def moreStep (x : Int) (s : List Int × Bool) (y : Int) : List Int × Bool := if s.2 = false ∧ y > x then (s.1 ++ [x, y], true) else (s.1 ++ [y], s.2)
def moreS (x : Int) (l : List Int) : List Int × Bool := l.foldl (moreStep x) ([], false)
def moreF (x : Int) (s : List Int × Bool) : List Int := if s.2 then s.1 else s.1 ++ [x]
def moreE (x : Int) (l : List Int) : List Int := moreF x (moreS x l)

theorem more_facts {x : Int} {l : List Int} (hs : l.Pairwise (· < ·)) (hx : x ∉ l) : (moreE x l).Pairwise (· < ·) ∧ ∀ y, y ∈ moreE x l ↔ y = x ∨ y ∈ l := by
  have key : ∀ (l acc : List Int) (b : Bool), acc.Pairwise (· < ·) → l.Pairwise (· < ·) → (∀ u ∈ acc, ∀ v ∈ l, u < v) → x ∉ l → (b = false → ∀ u ∈ acc, u < x) → (b = true → ∀ v ∈ l, x < v) →
      (moreF x (l.foldl (moreStep x) (acc, b))).Pairwise (· < ·) ∧ ∀ y, y ∈ moreF x (l.foldl (moreStep x) (acc, b)) ↔ y ∈ acc ∨ y ∈ l ∨ (b = false ∧ y = x) := by
    intro l
    induction l with
    | nil =>
      intro acc b h1 _ _ _ h5 _
      cases b with
      | false =>
        refine ⟨List.pairwise_append.2 ⟨h1, by simp, fun u hu v hv => ?_⟩, fun y => by simp [moreF]⟩
        obtain rfl : v = x := by simpa using hv
        exact h5 rfl u hu
      | true => exact ⟨h1, fun y => by simp [moreF]⟩
    | cons a l ih =>
      intro acc b h1 h2 h3 h4 h5 h6
      have h2' := List.pairwise_cons.1 h2
      rw [List.mem_cons, not_or] at h4
      rw [List.foldl_cons]
      by_cases hc : b = false ∧ a > x
      · obtain ⟨rfl, hax⟩ := hc
        rw [show moreStep x (acc, false) a = (acc ++ [x, a], true) from if_pos ⟨rfl, hax⟩]
        obtain ⟨r1, r2⟩ := ih (acc ++ [x, a]) true (List.pairwise_append.2 ⟨h1, by simp; omega, fun u hu v hv => by
            rcases List.mem_cons.1 hv with rfl | hv
            · exact h5 rfl u hu
            · obtain rfl : v = a := by simpa using hv
              exact h3 u hu _ (by simp)⟩) h2'.2 (fun u hu v hv => by
            rcases List.mem_append.1 hu with hu | hu
            · exact h3 u hu v (List.mem_cons_of_mem _ hv)
            · have := h2'.1 v hv
              rcases List.mem_cons.1 hu with rfl | hu
              · omega
              · obtain rfl : u = a := by simpa using hu
                exact this) h4.2 (fun h => by cases h) (fun _ v hv => by have := h2'.1 v hv; omega)
        refine ⟨r1, fun y => ?_⟩
        rw [r2 y]
        simp only [List.mem_append, List.mem_cons, List.not_mem_nil, or_false, Bool.true_eq_false, false_and, true_and]
        grind
      · rw [moreStep, if_neg hc]
        obtain ⟨r1, r2⟩ := ih (acc ++ [a]) b (List.pairwise_append.2 ⟨h1, by simp, fun u hu v hv => by
            obtain rfl : v = a := by simpa using hv
            exact h3 u hu _ (by simp)⟩) h2'.2 (fun u hu v hv => by
            rcases List.mem_append.1 hu with hu | hu
            · exact h3 u hu v (List.mem_cons_of_mem _ hv)
            · obtain rfl : u = a := by simpa using hu
              exact h2'.1 v hv) h4.2 (fun hb u hu => by
            rcases List.mem_append.1 hu with hu | hu
            · exact h5 hb u hu
            · obtain rfl : u = a := by simpa using hu
              have : ¬ u > x := fun h => hc ⟨hb, h⟩
              omega) (fun hb v hv => h6 hb v (List.mem_cons_of_mem _ hv))
        refine ⟨r1, fun y => ?_⟩
        rw [r2 y]
        simp only [List.mem_append, List.mem_cons, List.not_mem_nil, or_false]
        grind
  obtain ⟨r1, r2⟩ := key l [] false (by simp) hs (by simp) hx (by simp) (by simp)
  refine ⟨r1, fun y => ?_⟩
  rw [show (y ∈ moreE x l ↔ y ∈ ([] : List Int) ∨ y ∈ l ∨ (false = false ∧ y = x)) from r2 y]
  simp [or_comm]

/-- What MendExchange asks for. -/
theorem exch_law {t : Tour} (hv : Valid t) {a b : List Int} (ha : okL t a = true) (hb : okL t b = true) (ca : canS t a = true) (cb : canS t b = true) :
    a.length ≤ (onA (onOf t.flaws.length (bestHas t))).length ∧ b.length ≤ (onA (onOf t.flaws.length (bestHas t))).length ∧
      (∀ x ∈ b, x ∉ a → okL t (moreE x a) = true) ∧ (a.length < b.length → ∃ x ∈ b, x ∉ a ∧ canS t (moreE x a) = true) := by
  have ia := (canS_ind hv ha).1 ca
  have ib := (canS_ind hv hb).1 cb
  have la : (plL t a).length = a.length := by rw [plL_map ha, List.length_map]
  have lb : (plL t b).length = b.length := by rw [plL_map hb, List.length_map]
  obtain ⟨a1, a2⟩ := okL_iff.1 ha
  obtain ⟨b1, b2⟩ := okL_iff.1 hb
  have hok : ∀ x ∈ b, x ∉ a → okL t (moreE x a) = true := fun x hx hxa => by
    obtain ⟨m1, m2⟩ := more_facts a2 hxa
    exact okL_iff.2 ⟨fun y hy => by
      rcases (m2 y).1 hy with rfl | hy
      · exact b1 y hx
      · exact a1 y hy, m1⟩
  refine ⟨by rw [← la]; exact best_many hv ia (plL_rg t a), by rw [← lb]; exact best_many hv ib (plL_rg t b), hok, fun hlt => ?_⟩
  obtain ⟨p, hp, hpa, hi⟩ := exch (adjV hv) ia ib (plL_rg t a) (plL_rg t b) (by omega)
  rw [plL_map hb] at hp
  obtain ⟨x, hx, rfl⟩ := List.mem_map.1 hp
  have hxa : x ∉ a := fun h => hpa (by rw [plL_map ha]; exact List.mem_map.2 ⟨x, h, rfl⟩)
  obtain ⟨m1, m2⟩ := more_facts a2 hxa
  have hk := hok x hx hxa
  refine ⟨x, hx, hxa, (canS_ind hv hk).2 (hi.sub (plL_nodup hk) fun p hp => ?_)⟩
  rw [plL_map hk] at hp
  obtain ⟨y, hy, rfl⟩ := List.mem_map.1 hp
  rcases (m2 y).1 hy with rfl | hy
  · simp
  · exact List.mem_cons_of_mem _ (by rw [plL_map ha]; exact List.mem_map.2 ⟨y, hy, rfl⟩)

end Go.Proofs.Ytkoejelglinmnaa

/-
  The walk of the law MendExchange: one more flaw of the longer list; a best mending mends as many.
-/
namespace Go.Proofs.Ytkoejelglinmnaa
open Sg Mm
set_option maxRecDepth 100000

def moreK (x : Int) (l : List Int) (k : Nat) : List Int × Bool := (l.take k).foldl (moreStep x) ([], false)

theorem moreK_succ {x : Int} {l : List Int} {k : Nat} (h : k < l.length) : moreK x l (k + 1) = moreStep x (moreK x l k) l[k] := by
  unfold moreK
  rw [List.take_add_one, List.getElem?_eq_getElem h, List.foldl_append]
  rfl

theorem moreK_len (x : Int) (l : List Int) : ∀ k, (moreK x l k).1.length ≤ 2 * k
  | 0 => by simp [moreK]
  | k + 1 => by
    have ih := moreK_len x l k
    by_cases h : k < l.length
    · rw [moreK_succ h]
      unfold moreStep
      split
      · simp; omega
      · simp; omega
    · have : moreK x l (k + 1) = moreK x l k := by
        unfold moreK
        rw [List.take_of_length_le (by omega), List.take_of_length_le (by omega)]
      rw [this]; omega

def manyS (on : List Int) : Nat := (on.filter fun d => decide (0 ≤ d)).length

theorem manyS_succ {on : List Int} {k : Nat} (h : k < on.length) : manyS (on.take (k + 1)) = if 0 ≤ on[k] then manyS (on.take k) + 1 else manyS (on.take k) := by
  unfold manyS
  rw [List.take_add_one, List.getElem?_eq_getElem h, List.filter_append, List.length_append]
  by_cases hk : 0 ≤ on[k]
  · rw [if_pos hk]; simp [hk]
  · rw [if_neg hk]; simp [hk]

theorem manyS_onA (on : List Int) : manyS on = (onA on).length := by
  have h : on = (places on.length).map (at' on) := by
    refine List.ext_getElem (by simp [places]) fun i h1 h2 => ?_
    simp only [places, List.map_map, List.getElem_map, List.getElem_range, Function.comp]
    exact (at_nat h1).symm
  unfold manyS
  conv => lhs; rw [h]
  rw [List.filter_map, List.length_map]
  rfl

set_option maxHeartbeats 4000000 in
theorem mendExchange_ok (w : World) (t : Tour) (ac af : Option Addr) (cc cf : Nat) (ai : Option Addr) (ci : Nat) (a : List Int) (bi : Option Addr) (di : Nat) (b : List Int) (hC : IL w ac t.closed) (hF : FL w af t.flaws) (hA : IL w ai a) (hB : IL w bi b) :
    Ret Try.prog 6 #[.agg #[.int .i64 t.days, .slice ac t.closed.length cc, .slice af t.flaws.length cf], .slice ai a.length ci, .slice bi b.length di] w fun v w' => v = .bool true ∧ Chg [] w w' := by
  refine Ret.of_W (n := 175) Try.func6 rfl rfl (Nat.le_of_ble_eq_true rfl) ?_
  refine W.seq fun K hK => ?_
  refine W.region (by rfl) ?_
  refine Flow.box rfl (cs := [_, _, _]) rfl fun w1 c1 s1 b1 => ?_
  refine Flow.assignC ?_
  refine hK _ _ _ ?_
  clear hK K
  refine W.seq fun K hK => ?_
  refine W.region (by rfl) ?_
  refine Flow.call0 Tf.hb_8  ?_
  refine Ret.mono (head_ok _) ?_
  rintro _ w2 ⟨rfl, c2⟩
  refine Flow.assign (v := .bool _) rfl ?_
  refine hK _ _ _ ?_
  clear hK K
  have c12 := c1.then c2
  refine W.seq fun K2 hK2 => ?_
  refine W.seq fun K hK => ?_
  refine W.region (by rfl) ?_
  refine Flow.loadA Tf.ty_25 rfl rfl ((b1.chg c2 (by simp)).cells0) ?_
  refine Flow.call1 Tf.hb_9 (v1 := .agg _) rfl ?_
  refine Ret.mono (few_ok _ t ac af cc cf) ?_
  rintro _ w3 ⟨rfl, c3⟩
  have c13 := c12.then c3
  have b13 := b1.chg (c2.then c3) (by simp)
  cases hfew : fewB t with
  | false =>
    refine Flow.not rfl ?_
    refine Flow.move (v := .bool _) rfl ?_
    refine Flow.off (c := true) rfl rfl rfl ?_
    refine Flow.off (c := true) rfl rfl rfl ?_
    refine Flow.off (c := true) rfl rfl rfl ?_
    refine Flow.pickT rfl rfl ?_
    refine Flow.move (v := .bool _) rfl ?_
    refine Flow.off (c := true) rfl rfl rfl ?_
    refine Flow.off (c := true) rfl rfl rfl ?_
    refine Flow.off (c := true) rfl rfl rfl ?_
    refine Flow.pickT rfl rfl ?_
    refine hK _ _ _ ?_
    clear hK K
    refine W.cond (t := true) rfl (fun _ => ?_) (fun h => by simp at h)
    refine W.seq fun K hK => ?_
    refine W.region (by rfl) ?_
    refine Flow.move (v := .bool _) rfl ?_
    refine Flow.assign (v := .bool _) rfl ?_
    refine hK _ _ _ ?_
    clear hK K
    exact W.ret ⟨_, res1 rfl (v := .bool _) rfl, rfl, c13⟩
  | true =>
  obtain ⟨hcl, hfl, hx8⟩ := few_facts hfew
  have hx : chk t = 0 → t.flaws.length < 20 := fun h => by have := hx8 h; omega
  by_cases hla : (a.length : Int) > 60
  · refine Flow.not rfl ?_
    refine Flow.move (v := .bool _) rfl ?_
    refine Flow.on rfl rfl ?_
    refine Flow.move (v := .slice _ _ _) rfl ?_
    refine Flow.on rfl rfl ?_
    refine Flow.len rfl Tf.us_22 rfl rfl ?_
    refine Flow.on rfl rfl ?_
    refine Flow.gtrD (c := true) rfl rfl (decide_eq_true (by omega)) ?_
    refine Flow.pickF rfl rfl ?_
    refine Flow.move (v := .bool _) rfl ?_
    refine Flow.off (c := true) rfl rfl rfl ?_
    refine Flow.off (c := true) rfl rfl rfl ?_
    refine Flow.off (c := true) rfl rfl rfl ?_
    refine Flow.pickT rfl rfl ?_
    refine hK _ _ _ ?_
    clear hK K
    refine W.cond (t := true) rfl (fun _ => ?_) (fun h => by simp at h)
    refine W.seq fun K hK => ?_
    refine W.region (by rfl) ?_
    refine Flow.move (v := .bool _) rfl ?_
    refine Flow.assign (v := .bool _) rfl ?_
    refine hK _ _ _ ?_
    clear hK K
    exact W.ret ⟨_, res1 rfl (v := .bool _) rfl, rfl, c13⟩
  refine Flow.not rfl ?_
  refine Flow.move (v := .bool _) rfl ?_
  refine Flow.on rfl rfl ?_
  refine Flow.move (v := .slice _ _ _) rfl ?_
  refine Flow.on rfl rfl ?_
  refine Flow.len rfl Tf.us_22 rfl rfl ?_
  refine Flow.on rfl rfl ?_
  refine Flow.gtrD (c := false) rfl rfl (decide_eq_false (by omega)) ?_
  refine Flow.pickF rfl rfl ?_
  refine Flow.move (v := .bool _) rfl ?_
  refine Flow.on rfl rfl ?_
  refine Flow.move (v := .slice _ _ _) rfl ?_
  refine Flow.on rfl rfl ?_
  refine Flow.len rfl Tf.us_22 rfl rfl ?_
  refine Flow.on rfl rfl ?_
  refine Flow.gtr rfl rfl ?_
  refine Flow.pickF rfl rfl ?_
  refine hK _ _ _ ?_
  clear hK K
  refine W.cond rfl (fun h => ?_) (fun h => W.skip (hK2 _ _ _ ?_))
  · refine W.seq fun K hK => ?_
    refine W.region (by rfl) ?_
    refine Flow.move (v := .bool _) rfl ?_
    refine Flow.assign (v := .bool _) rfl ?_
    refine hK _ _ _ ?_
    clear hK K
    exact W.ret ⟨_, res1 rfl (v := .bool _) rfl, rfl, c13⟩
  have hlb : b.length ≤ 60 := by simp at h; omega
  have hla : a.length ≤ 60 := by omega
  refine W.seq fun K hK => ?_
  refine W.region (by rfl) ?_
  refine Flow.loadA Tf.ty_25 rfl rfl (b13.cells0) ?_
  refine Flow.move (v := .slice _ _ _) rfl ?_
  refine Flow.call2 Tf.hb_20 (v1 := .agg _) rfl (v2 := .slice _ _ _) rfl ?_
  refine Ret.mono (Can_ok _ t ac af cc cf ai ci a (hC.ext c13) (hF.ext c13) hcl hfl (hA.ext c13) (by omega)) ?_
  rintro _ w4 ⟨rfl, c4⟩
  refine Flow.move (v := .tuple _) rfl ?_
  refine Flow.extract (v := .bool _) rfl rfl ?_
  refine Flow.extract (v := .int _ _) rfl rfl ?_
  refine Flow.assign (v := .bool _) rfl ?_
  refine Flow.assign (v := .int _ _) rfl ?_
  refine hK _ _ _ ?_
  clear hK K
  have c14 := c13.then c4
  have b14 := b13.chg c4 (by simp)
  refine W.seq fun K hK => ?_
  refine W.region (by rfl) ?_
  refine Flow.loadA Tf.ty_25 rfl rfl (b14.cells0) ?_
  refine Flow.move (v := .slice _ _ _) rfl ?_
  refine Flow.call2 Tf.hb_20 (v1 := .agg _) rfl (v2 := .slice _ _ _) rfl ?_
  refine Ret.mono (Can_ok _ t ac af cc cf bi di b (hC.ext c14) (hF.ext c14) hcl hfl (hB.ext c14) (by omega)) ?_
  rintro _ w5 ⟨rfl, c5⟩
  refine Flow.move (v := .tuple _) rfl ?_
  refine Flow.extract (v := .bool _) rfl rfl ?_
  refine Flow.extract (v := .int _ _) rfl rfl ?_
  refine Flow.assign (v := .bool _) rfl ?_
  refine Flow.assign (v := .int _ _) rfl ?_
  refine hK _ _ _ ?_
  clear hK K
  have c15 := c14.then c5
  have b15 := b14.chg c5 (by simp)
  refine W.seq fun K6 hK6 => ?_
  by_cases hea : flawsE t a = 0
  rotate_left
  · refine W.seq fun K hK => ?_
    refine W.region (by rfl) ?_
    refine Flow.move (v := .int _ _) rfl ?_
    refine Flow.neqD (c := true) rfl rfl (decide_eq_true (by omega)) ?_
    refine Flow.move (v := .bool _) rfl ?_
    refine Flow.off (c := true) rfl rfl rfl ?_
    refine Flow.off (c := true) rfl rfl rfl ?_
    refine Flow.pickT rfl rfl ?_
    refine Flow.move (v := .bool _) rfl ?_
    refine Flow.off (c := true) rfl rfl rfl ?_
    refine Flow.off (c := true) rfl rfl rfl ?_
    refine Flow.pickT rfl rfl ?_
    refine Flow.move (v := .bool _) rfl ?_
    refine Flow.off (c := true) rfl rfl rfl ?_
    refine Flow.off (c := true) rfl rfl rfl ?_
    refine Flow.pickT rfl rfl ?_
    refine hK _ _ _ ?_
    clear hK K
    refine W.cond (t := true) rfl (fun _ => ?_) (fun h => by simp at h)
    refine W.seq fun K hK => ?_
    refine W.region (by rfl) ?_
    refine Flow.move (v := .bool _) rfl ?_
    refine Flow.assign (v := .bool _) rfl ?_
    refine hK _ _ _ ?_
    clear hK K
    exact W.ret ⟨_, res1 rfl (v := .bool _) rfl, rfl, c15⟩
  by_cases heb : flawsE t b = 0
  rotate_left
  · refine W.seq fun K hK => ?_
    refine W.region (by rfl) ?_
    refine Flow.move (v := .int _ _) rfl ?_
    refine Flow.neqD (c := false) rfl rfl (decide_eq_false (by omega)) ?_
    refine Flow.move (v := .bool _) rfl ?_
    refine Flow.on rfl rfl ?_
    refine Flow.move (v := .int _ _) rfl ?_
    refine Flow.on rfl rfl ?_
    refine Flow.neqD (c := true) rfl rfl (decide_eq_true (by omega)) ?_
    refine Flow.pickF rfl rfl ?_
    refine Flow.move (v := .bool _) rfl ?_
    refine Flow.off (c := true) rfl rfl rfl ?_
    refine Flow.off (c := true) rfl rfl rfl ?_
    refine Flow.pickT rfl rfl ?_
    refine Flow.move (v := .bool _) rfl ?_
    refine Flow.off (c := true) rfl rfl rfl ?_
    refine Flow.off (c := true) rfl rfl rfl ?_
    refine Flow.pickT rfl rfl ?_
    refine hK _ _ _ ?_
    clear hK K
    refine W.cond (t := true) rfl (fun _ => ?_) (fun h => by simp at h)
    refine W.seq fun K hK => ?_
    refine W.region (by rfl) ?_
    refine Flow.move (v := .bool _) rfl ?_
    refine Flow.assign (v := .bool _) rfl ?_
    refine hK _ _ _ ?_
    clear hK K
    exact W.ret ⟨_, res1 rfl (v := .bool _) rfl, rfl, c15⟩
  cases hca : canS t a with
  | false =>
    refine W.seq fun K hK => ?_
    refine W.region (by rfl) ?_
    refine Flow.move (v := .int _ _) rfl ?_
    refine Flow.neqD (c := false) rfl rfl (decide_eq_false (by omega)) ?_
    refine Flow.move (v := .bool _) rfl ?_
    refine Flow.on rfl rfl ?_
    refine Flow.move (v := .int _ _) rfl ?_
    refine Flow.on rfl rfl ?_
    refine Flow.neqD (c := false) rfl rfl (decide_eq_false (by omega)) ?_
    refine Flow.pickF rfl rfl ?_
    refine Flow.move (v := .bool _) rfl ?_
    refine Flow.on rfl rfl ?_
    refine Flow.move (v := .bool _) rfl ?_
    refine Flow.on rfl rfl ?_
    refine Flow.not rfl ?_
    refine Flow.pickF rfl rfl ?_
    refine Flow.move (v := .bool _) rfl ?_
    refine Flow.off (c := true) rfl rfl rfl ?_
    refine Flow.off (c := true) rfl rfl rfl ?_
    refine Flow.pickT rfl rfl ?_
    refine hK _ _ _ ?_
    clear hK K
    refine W.cond (t := true) rfl (fun _ => ?_) (fun h => by simp at h)
    refine W.seq fun K hK => ?_
    refine W.region (by rfl) ?_
    refine Flow.move (v := .bool _) rfl ?_
    refine Flow.assign (v := .bool _) rfl ?_
    refine hK _ _ _ ?_
    clear hK K
    exact W.ret ⟨_, res1 rfl (v := .bool _) rfl, rfl, c15⟩
  | true =>
  cases hcb : canS t b with
  | false =>
    refine W.seq fun K hK => ?_
    refine W.region (by rfl) ?_
    refine Flow.move (v := .int _ _) rfl ?_
    refine Flow.neqD (c := false) rfl rfl (decide_eq_false (by omega)) ?_
    refine Flow.move (v := .bool _) rfl ?_
    refine Flow.on rfl rfl ?_
    refine Flow.move (v := .int _ _) rfl ?_
    refine Flow.on rfl rfl ?_
    refine Flow.neqD (c := false) rfl rfl (decide_eq_false (by omega)) ?_
    refine Flow.pickF rfl rfl ?_
    refine Flow.move (v := .bool _) rfl ?_
    refine Flow.on rfl rfl ?_
    refine Flow.move (v := .bool _) rfl ?_
    refine Flow.on rfl rfl ?_
    refine Flow.not rfl ?_
    refine Flow.pickF rfl rfl ?_
    refine Flow.move (v := .bool _) rfl ?_
    refine Flow.on rfl rfl ?_
    refine Flow.move (v := .bool _) rfl ?_
    refine Flow.on rfl rfl ?_
    refine Flow.not rfl ?_
    refine Flow.pickF rfl rfl ?_
    refine hK _ _ _ ?_
    clear hK K
    refine W.cond (t := true) rfl (fun _ => ?_) (fun h => by simp at h)
    refine W.seq fun K hK => ?_
    refine W.region (by rfl) ?_
    refine Flow.move (v := .bool _) rfl ?_
    refine Flow.assign (v := .bool _) rfl ?_
    refine hK _ _ _ ?_
    clear hK K
    exact W.ret ⟨_, res1 rfl (v := .bool _) rfl, rfl, c15⟩
  | true =>
  refine W.seq fun K hK => ?_
  refine W.region (by rfl) ?_
  refine Flow.move (v := .int _ _) rfl ?_
  refine Flow.neqD (c := false) rfl rfl (decide_eq_false (by omega)) ?_
  refine Flow.move (v := .bool _) rfl ?_
  refine Flow.on rfl rfl ?_
  refine Flow.move (v := .int _ _) rfl ?_
  refine Flow.on rfl rfl ?_
  refine Flow.neqD (c := false) rfl rfl (decide_eq_false (by omega)) ?_
  refine Flow.pickF rfl rfl ?_
  refine Flow.move (v := .bool _) rfl ?_
  refine Flow.on rfl rfl ?_
  refine Flow.move (v := .bool _) rfl ?_
  refine Flow.on rfl rfl ?_
  refine Flow.not rfl ?_
  refine Flow.pickF rfl rfl ?_
  refine Flow.move (v := .bool _) rfl ?_
  refine Flow.on rfl rfl ?_
  refine Flow.move (v := .bool _) rfl ?_
  refine Flow.on rfl rfl ?_
  refine Flow.not rfl ?_
  refine Flow.pickF rfl rfl ?_
  refine hK _ _ _ ?_
  clear hK K
  refine W.cond (t := false) rfl (fun h => by simp at h) (fun _ => W.skip (hK6 _ _ _ ?_))
  have hck : chk t = 0 := by
    unfold flawsE at hea
    split at hea
    · assumption
    · exact hea
  have hoa : okL t a = true := by
    rw [flawsE, if_pos hck] at hea
    by_cases h : okL t a = true
    · exact h
    · rw [if_neg h] at hea; omega
  have hob : okL t b = true := by
    rw [flawsE, if_pos hck] at heb
    by_cases h : okL t b = true
    · exact h
    · rw [if_neg h] at heb; omega
  have hv := chk_valid hck
  have hol : (bestOn t).length = t.flaws.length := by rw [bestOn, if_pos hck, onOf_len]
  obtain ⟨q1, q2, q3, q4⟩ := exch_law hv hoa hob hca hcb
  have hbo : onOf t.flaws.length (bestHas t) = bestOn t := by rw [bestOn, if_pos hck]
  rw [hbo, ← manyS_onA] at q1 q2
  refine W.seq fun K hK => ?_
  refine W.region (by rfl) ?_
  refine Flow.loadA Tf.ty_25 rfl rfl (b15.cells0) ?_
  refine Flow.call1 Tf.hb_10 (v1 := .agg _) rfl ?_
  refine Ret.mono (Best_ok _ t ac af cc cf (hC.ext c15) (hF.ext c15) hcl hfl hx) ?_
  rintro _ w6 ⟨c6, _, rfl, ao, co, ar, cr, rfl, hO, _⟩
  refine Flow.move (v := .tuple _) rfl ?_
  refine Flow.extract (v := .agg _) rfl rfl ?_
  refine Flow.extract (v := .int _ _) rfl rfl ?_
  refine Flow.alloc Tf.ty_30 (cs := [_, _, _]) rfl fun w7 c7 s7 b7 => ?_
  refine Flow.store Tf.ty_30 rfl rfl (b7) (vs := [_, _, _]) rfl rfl (by simp) rfl fun w8 c8 s8 b8 => ?_
  refine Flow.assign (v := .int _ _) rfl ?_
  refine hK _ _ _ ?_
  clear hK K
  rw [hck]
  have c68 : Chg [] w6 w8 := c7.step c8 (by simp)
  have c18 := c15.then (c6.then c68)
  have b18 := b15.chg (c6.then c68) (by simp)
  refine W.seq fun K9 hK9 => ?_
  refine W.seq fun K hK => ?_
  refine W.region (by rfl) ?_
  refine Flow.move (v := .int _ _) rfl ?_
  refine Flow.neqD (c := false) rfl rfl (decide_eq_false (by omega)) ?_
  refine Flow.move (v := .bool _) rfl ?_
  refine Flow.on rfl rfl ?_
  refine Flow.fieldAddr Tf.fo_30_0 rfl ?_
  refine Flow.on rfl rfl ?_
  refine Flow.load1 Tf.ty_22 rfl (b8.cell 0) ?_
  refine Flow.on rfl rfl ?_
  refine Flow.len rfl Tf.us_22 rfl rfl ?_
  refine Flow.on rfl rfl ?_
  refine Flow.fieldAddr Tf.fo_25_2 rfl ?_
  refine Flow.on rfl rfl ?_
  refine Flow.load1 Tf.ty_23 rfl (b18.cell 2) ?_
  refine Flow.on rfl rfl ?_
  refine Flow.len rfl Tf.us_23 rfl rfl ?_
  refine Flow.on rfl rfl ?_
  refine Flow.neqD (c := false) rfl rfl (decide_eq_false (by omega)) ?_
  refine Flow.pickF rfl rfl ?_
  refine hK _ _ _ ?_
  clear hK K
  refine W.cond (t := false) rfl (fun h => by simp at h) (fun _ => W.skip (hK9 _ _ _ ?_))
  obtain ⟨on, hon⟩ : ∃ on, on = bestOn t := ⟨_, rfl⟩
  rw [← hon] at q1 q2 hol hO b8
  have hO8 := hO.ext c68
  have hon60 : on.length ≤ 1000 := by omega
  clear hon hbo
  refine W.forget [(1, .slice ai a.length ci), (2, .slice bi b.length di), (3, .pointer (some ⟨w.heap.size, 0, none⟩)), (7, .bool true), (12, .pointer (some ⟨w6.heap.size, 0, none⟩))] ⟨rfl, rfl, rfl, rfl, rfl, trivial⟩ fun e => ?_
  refine W.seq fun K hK => ?_
  refine W.region (by rfl) ?_
  refine Flow.assignC ?_
  refine hK _ _ _ ?_
  clear hK K
  refine W.seq fun K12 hK12 => ?_
  refine W.seq fun K hK => ?_
  refine W.region (by rfl) ?_
  refine Flow.assignC ?_
  refine hK _ _ _ ?_
  clear hK K
  refine W.block ?_
  refine W.loop (ι := Nat) (fun k ds e w' => ds = [] ∧ k ≤ on.length ∧ w' = w8 ∧ AllAt e [(1, .slice ai a.length ci), (2, .slice bi b.length di), (3, .pointer (some ⟨w.heap.size, 0, none⟩)), (7, .bool true), (12, .pointer (some ⟨w6.heap.size, 0, none⟩)), (14, .int .i64 (manyS (on.take k))), (15, .int .i64 k)]) (fun k => on.length - k) (i0 := 0) ⟨rfl, by omega, rfl, rfl, rfl, rfl, rfl, rfl, rfl, rfl, trivial⟩ ?_
  rintro k ds e w8 ⟨rfl, hk, rfl, hE⟩
  obtain ⟨e, rfl⟩ : ∃ e0, e = putL e0 _ := ⟨e, putL_self hE⟩
  clear hE
  refine W.seq fun K13 hK13 => ?_
  refine W.seq fun K hK => ?_
  refine W.region (by rfl) ?_
  refine Flow.move (v := .int _ _) rfl ?_
  refine Flow.fieldAddr Tf.fo_30_0 rfl ?_
  refine Flow.load1 Tf.ty_22 rfl (b8.cell 0) ?_
  refine Flow.len rfl Tf.us_22 rfl rfl ?_
  refine Flow.lss rfl rfl ?_
  refine hK _ _ _ ?_
  clear hK K
  refine W.cond rfl (fun h => W.skip (hK13 _ _ _ ?_)) (fun h => W.exit ?_)
  · have hlt : k < on.length := by simpa using h
    obtain ⟨bo, oo, rfl, hcO⟩ := hO8.get hlt
    refine W.seq fun K14 hK14 => ?_
    refine W.block ?_
    have hgo : ∀ e, AllAt e [(1, .slice ai a.length ci), (2, .slice bi b.length di), (3, .pointer (some ⟨w.heap.size, 0, none⟩)), (7, .bool true), (12, .pointer (some ⟨w6.heap.size, 0, none⟩)), (14, .int .i64 (manyS (on.take (k + 1)))), (15, .int .i64 k)] → K14 [] e w8 := by
      intro e hE
      refine hK14 _ _ _ ?_
      obtain ⟨e, rfl⟩ : ∃ e0, e = putL e0 _ := ⟨e, putL_self hE⟩
      clear hE
      refine W.region (by rfl) ?_
      refine Flow.move (v := .int _ _) rfl ?_
      refine Flow.add rfl rfl (by omega) (by omega) ?_
      refine Flow.assign (v := .int _ _) rfl ?_
      exact Flow.nil ⟨k + 1, by omega, rfl, by omega, rfl, rfl, rfl, rfl, rfl, rfl, rfl, rfl, trivial⟩
    have hsu := manyS_succ hlt
    have hmb : manyS (on.take k) ≤ 1000 := Nat.le_trans (List.length_filter_le _ _) (by rw [List.length_take]; omega)
    refine W.seq fun K hK => ?_
    refine W.region (by rfl) ?_
    refine Flow.fieldAddr Tf.fo_30_0 rfl ?_
    refine Flow.load1 Tf.ty_22 rfl (b8.cell 0) ?_
    refine Flow.move (v := .int _ _) rfl ?_
    refine Flow.indexAddr1 Tf.sl_22 rfl rfl (by omega) (by omega) ?_
    refine Flow.load1 Tf.ty_3 rfl (hcO k hlt) ?_
    refine Flow.geq rfl rfl ?_
    refine hK _ _ _ ?_
    clear hK K
    refine W.cond rfl (fun h => ?_) (fun h => W.skip (hgo _ ?_))
    · have h0 : 0 ≤ on[k] := by simpa using h
      rw [if_pos h0] at hsu
      refine W.region (by rfl) ?_
      refine Flow.move (v := .int _ _) rfl ?_
      refine Flow.add rfl rfl (by omega) (by omega) ?_
      refine Flow.assign (v := .int _ _) rfl ?_
      refine Flow.nil (hgo _ ?_)
      exact ⟨rfl, rfl, rfl, rfl, rfl, by rw [hsu]; rfl, rfl, trivial⟩
    · have h0 : ¬ 0 ≤ on[k] := by simpa using h
      rw [if_neg h0] at hsu
      exact ⟨rfl, rfl, rfl, rfl, rfl, by rw [hsu]; rfl, rfl, trivial⟩
  have hge : k = on.length := by simp at h; omega
  subst hge
  rw [List.take_length]
  refine hK12 _ _ _ ?_
  obtain ⟨many, hmany⟩ : ∃ m, m = manyS on := ⟨_, rfl⟩
  rw [← hmany] at q1 q2 ⊢
  refine W.seq fun K17 hK17 => ?_
  refine W.seq fun K hK => ?_
  refine W.region (by rfl) ?_
  refine Flow.move (v := .slice _ _ _) rfl ?_
  refine Flow.len rfl Tf.us_22 rfl rfl ?_
  refine Flow.move (v := .int _ _) rfl ?_
  refine Flow.gtrD (c := false) rfl rfl (decide_eq_false (by omega)) ?_
  refine Flow.move (v := .bool _) rfl ?_
  refine Flow.on rfl rfl ?_
  refine Flow.move (v := .slice _ _ _) rfl ?_
  refine Flow.on rfl rfl ?_
  refine Flow.len rfl Tf.us_22 rfl rfl ?_
  refine Flow.on rfl rfl ?_
  refine Flow.move (v := .int _ _) rfl ?_
  refine Flow.on rfl rfl ?_
  refine Flow.gtrD (c := false) rfl rfl (decide_eq_false (by omega)) ?_
  refine Flow.pickF rfl rfl ?_
  refine hK _ _ _ ?_
  clear hK K
  refine W.cond (t := false) rfl (fun h => by simp at h) (fun _ => W.skip (hK17 _ _ _ ?_))
  refine W.seq fun K19 hK19 => ?_
  refine W.seq fun K hK => ?_
  refine W.region (by rfl) ?_
  refine Flow.move (v := .slice _ _ _) rfl ?_
  refine Flow.len rfl Tf.us_22 rfl rfl ?_
  refine Flow.move (v := .slice _ _ _) rfl ?_
  refine Flow.len rfl Tf.us_22 rfl rfl ?_
  refine Flow.geq rfl rfl ?_
  refine hK _ _ _ ?_
  clear hK K
  refine W.cond rfl (fun h => ?_) (fun h => W.skip (hK19 _ _ _ ?_))
  · refine W.seq fun K hK => ?_
    refine W.region (by rfl) ?_
    refine Flow.move (v := .bool _) rfl ?_
    refine Flow.assign (v := .bool _) rfl ?_
    refine hK _ _ _ ?_
    clear hK K
    exact W.ret ⟨_, res1 rfl (v := .bool _) rfl, rfl, c18⟩
  have hlt : a.length < b.length := by simp at h; omega
  obtain ⟨xx, hxb, hxa, hxc⟩ := q4 hlt
  clear hK2 K2 hK6 K6 hK9 K9 hK12 K12 hK13 K13 hK17 K17 hK19 K19 h
  refine W.forget [(1, .slice ai a.length ci), (2, .slice bi b.length di), (3, .pointer (some ⟨w.heap.size, 0, none⟩)), (7, .bool true)] ⟨rfl, rfl, rfl, rfl, trivial⟩ fun e => ?_
  refine W.seq fun K21 hK21 => ?_
  refine W.seq fun K hK => ?_
  refine W.region (by rfl) ?_
  refine Flow.assignC ?_
  refine hK _ _ _ ?_
  clear hK K
  refine W.block ?_
  refine W.loop (ι := Nat) (fun k ds e w' => ds = [] ∧ k ≤ b.length ∧ AllAt e [(1, .slice ai a.length ci), (2, .slice bi b.length di), (3, .pointer (some ⟨w.heap.size, 0, none⟩)), (7, .bool true), (16, .int .i64 k)] ∧ Chg [] w8 w' ∧ ∀ j (h : j < b.length), j < k → b[j] ∉ a → canS t (moreE b[j] a) = false) (fun k => b.length - k) (i0 := 0)
    ⟨rfl, by omega, ⟨rfl, rfl, rfl, rfl, rfl, trivial⟩, Chg.refl _ _, fun j _ h => by omega⟩ ?_
  rintro k ds e w9 ⟨rfl, hk, hE, hc, hno⟩
  obtain ⟨e, rfl⟩ : ∃ e0, e = putL e0 _ := ⟨e, putL_self hE⟩
  clear hE
  refine W.seq fun K22 hK22 => ?_
  refine W.seq fun K hK => ?_
  refine W.region (by rfl) ?_
  refine Flow.move (v := .int _ _) rfl ?_
  refine Flow.move (v := .slice _ _ _) rfl ?_
  refine Flow.len rfl Tf.us_22 rfl rfl ?_
  refine Flow.lss rfl rfl ?_
  refine hK _ _ _ ?_
  clear hK K
  refine W.cond rfl (fun h => W.skip (hK22 _ _ _ ?_)) (fun h => W.exit ?_)
  rotate_left
  · have hge : k = b.length := by simp at h; omega
    obtain ⟨j, hj, rfl⟩ := List.mem_iff_getElem.1 hxb
    have := hno j hj (by omega) hxa
    rw [hxc] at this
    cases this
  have hlt : k < b.length := by simpa using h
  have c19 := c18.then hc
  obtain ⟨bb, ob, rfl, hcB⟩ := (hB.ext c19).get hlt
  refine W.seq fun K23 hK23 => ?_
  have hgo : ∀ (e : Env) (w' : World), AllAt e [(1, .slice ai a.length ci), (2, .slice (some ⟨bb, ob, none⟩) b.length di), (3, .pointer (some ⟨w.heap.size, 0, none⟩)), (7, .bool true), (16, .int .i64 k)] → Chg [] w8 w' → (b[k] ∉ a → canS t (moreE b[k] a) = false) → K23 [] e w' := by
    intro e w' hE hc' hn
    refine hK23 _ _ _ ?_
    obtain ⟨e, rfl⟩ : ∃ e0, e = putL e0 _ := ⟨e, putL_self hE⟩
    clear hE
    refine W.region (by rfl) ?_
    refine Flow.move (v := .int _ _) rfl ?_
    refine Flow.add rfl rfl (by omega) (by omega) ?_
    refine Flow.assign (v := .int _ _) rfl ?_
    refine Flow.nil ⟨k + 1, by omega, rfl, by omega, ⟨rfl, rfl, rfl, rfl, rfl, trivial⟩, hc', fun j hj hjk => ?_⟩
    by_cases hjk' : j = k
    · subst hjk'; exact hn
    · exact hno j hj (by omega)
  refine W.block ?_
  refine W.seq fun K24 hK24 => ?_
  refine W.seq fun K hK => ?_
  refine W.region (by rfl) ?_
  refine Flow.move (v := .slice _ _ _) rfl ?_
  refine Flow.move (v := .slice _ _ _) rfl ?_
  refine Flow.move (v := .int _ _) rfl ?_
  refine Flow.indexAddr1 Tf.sl_22 rfl rfl (by omega) (by omega) ?_
  refine Flow.load1 Tf.ty_3 rfl (hcB k hlt) ?_
  refine Flow.call2 Tf.hb_12 (v1 := .slice _ _ _) rfl (v2 := .int _ _) rfl ?_
  refine Ret.mono (has_ok _ _ _ a _ (hA.ext c19) (by omega)) ?_
  rintro _ w10 ⟨rfl, c10⟩
  refine hK _ _ _ ?_
  clear hK K
  refine W.cond rfl (fun h => W.exit ?_) (fun h => W.skip (hK24 _ _ _ ?_))
  · have hin : b[k] ∈ a := by simpa using h
    exact hgo _ _ ⟨rfl, rfl, rfl, rfl, rfl, trivial⟩ (hc.then c10) (fun h => absurd hin h)
  have hin : b[k] ∉ a := by simpa using h
  obtain ⟨x, hx⟩ : ∃ x, x = b[k] := ⟨_, rfl⟩
  have hok := q3 b[k] (List.getElem_mem hlt) hin
  have hcBx : ∀ w', Chg [] w9 w' → w'.cell? ⟨bb, ob + k, none⟩ = some (.int .i64 x) := fun w' h => by rw [hx]; exact cell_chg (hcB k hlt) h (by simp)
  rw [← hx] at hgo hok
  refine W.seq fun K hK => ?_
  refine W.region (by rfl) ?_
  refine Flow.assignC ?_
  refine hK _ _ _ ?_
  clear hK K
  refine W.seq fun K hK => ?_
  refine W.region (by rfl) ?_
  refine Flow.assignC ?_
  refine hK _ _ _ ?_
  clear hK K
  refine W.forget [(1, .slice ai a.length ci), (2, .slice (some ⟨bb, ob, none⟩) b.length di), (3, .pointer (some ⟨w.heap.size, 0, none⟩)), (7, .bool true), (16, .int .i64 k), (17, .slice none 0 0), (18, .bool false)] ⟨rfl, rfl, rfl, rfl, rfl, rfl, rfl, trivial⟩ fun e => ?_
  refine W.seq fun K27 hK27 => ?_
  refine W.seq fun K hK => ?_
  refine W.region (by rfl) ?_
  refine Flow.assignC ?_
  refine hK _ _ _ ?_
  clear hK K
  refine W.block ?_
  refine W.loop (ι := Nat × List Int × Bool × Option Addr × Nat) (fun s ds e w' => ds = [] ∧ s.1 ≤ a.length ∧ moreK x a s.1 = (s.2.1, s.2.2.1) ∧ AllAt e [(1, .slice ai a.length ci), (2, .slice (some ⟨bb, ob, none⟩) b.length di), (3, .pointer (some ⟨w.heap.size, 0, none⟩)), (7, .bool true), (16, .int .i64 k), (17, .slice s.2.2.2.1 s.2.1.length s.2.2.2.2), (18, .bool s.2.2.1), (19, .int .i64 s.1)] ∧
      Chg [] w9 w' ∧ w9.heap.size ≤ w'.heap.size ∧ Mine w9.heap.size w' s.2.2.2.1 s.2.2.2.2 s.2.1) (fun s => a.length - s.1) (i0 := (0, [], false, none, 0)) ⟨rfl, by omega, rfl, ⟨rfl, rfl, rfl, rfl, rfl, rfl, rfl, rfl, trivial⟩, c10, c10.size, Mine.nil _ _⟩ ?_
  rintro ⟨j, l, put, al, cl⟩ ds e w11 ⟨rfl, hj, hmk, hE, hc11, hsz, hm⟩
  obtain ⟨e, rfl⟩ : ∃ e0, e = putL e0 _ := ⟨e, putL_self hE⟩
  clear hE
  simp only at hj hmk hsz hm ⊢
  have hll : l.length ≤ 2 * j := by have := moreK_len x a j; rw [hmk] at this; exact this
  refine W.seq fun K28 hK28 => ?_
  refine W.seq fun K hK => ?_
  refine W.region (by rfl) ?_
  refine Flow.move (v := .int _ _) rfl ?_
  refine Flow.move (v := .slice _ _ _) rfl ?_
  refine Flow.len rfl Tf.us_22 rfl rfl ?_
  refine Flow.lss rfl rfl ?_
  refine hK _ _ _ ?_
  clear hK K
  refine W.cond rfl (fun h => W.skip (hK28 _ _ _ ?_)) (fun h => W.exit ?_)
  · have hjl : j < a.length := by simpa using h
    obtain ⟨ba, oa, rfl, hcA⟩ := (hA.ext (c19.then hc11)).get hjl
    have hsu := moreK_succ (x := x) hjl
    rw [hmk] at hsu
    refine W.seq fun K29 hK29 => ?_
    refine W.block ?_
    refine W.seq fun K30 hK30 => ?_
    have hgo2 : ∀ (e : Env) (w' : World) (l' : List Int) (put' : Bool) (al' : Option Addr) (cl' : Nat), moreStep x (l, put) a[j] = (l' ++ [a[j]], put') → l'.length ≤ 2 * j + 1 →
        AllAt e [(1, .slice (some ⟨ba, oa, none⟩) a.length ci), (2, .slice (some ⟨bb, ob, none⟩) b.length di), (3, .pointer (some ⟨w.heap.size, 0, none⟩)), (7, .bool true), (16, .int .i64 k), (17, .slice al' l'.length cl'), (18, .bool put'), (19, .int .i64 j)] → Chg [] w9 w' → Chg [] w9 w' → Mine w9.heap.size w' al' cl' l' → K30 [] e w' := by
      intro e w12 l' put' al' cl' hst hl' hE hc12 _ hm'
      refine hK30 _ _ _ ?_
      obtain ⟨e, rfl⟩ : ∃ e0, e = putL e0 _ := ⟨e, putL_self hE⟩
      clear hE
      have hs12 := hc12.size
      have hnm := hm'.2
      obtain ⟨ba', oa', he', hcA'⟩ := (hA.ext (c19.then hc12)).get hjl
      obtain ⟨rfl, rfl⟩ : ba = ba' ∧ oa = oa' := by simpa using he'
      refine W.region (by rfl) ?_
      refine Flow.move (v := .slice _ _ _) rfl ?_
      refine Flow.move (v := .slice _ _ _) rfl ?_
      refine Flow.move (v := .int _ _) rfl ?_
      refine Flow.indexAddr1 Tf.sl_22 rfl rfl (by omega) (by omega) ?_
      refine Flow.load1 Tf.ty_3 rfl (hcA' j hjl) ?_
      refine Flow.buildSlice1 Tf.sl_22 Tf.us_22 rfl (by decide) (by decide) rfl (cs := [_]) rfl rfl fun w13 c13' s13 b13' => ?_
      refine Flow.append Tf.sl_22 Tf.us_22 rfl (by decide) rfl rfl ((hm'.ext c13').1) (b13'.cells0) rfl rfl (by omega) (by omega) fun a5 cap5 w14 o5 c14' hd5 hn5 => ?_
      refine Flow.assign (v := .slice _ _ _) rfl ?_
      refine Flow.nil (hK29 _ _ _ ?_)
      refine W.region (by rfl) ?_
      refine Flow.move (v := .int _ _) rfl ?_
      refine Flow.add rfl rfl (by omega) (by omega) ?_
      refine Flow.assign (v := .int _ _) rfl ?_
      have hm14 : Mine w9.heap.size w14 a5 cap5 (l' ++ [a[j]]) := (hm'.ext c13').app (by have := c13'.size; omega) o5 hd5
      have hcc : Chg [] w9 w14 := (hc12.then c13').step c14' (fun b hb => by have := hnm b hb; omega)
      exact Flow.nil ⟨(j + 1, l' ++ [a[j]], put', a5, cap5), by simp only; omega, rfl, by simp only; omega, by rw [hsu, hst], ⟨rfl, rfl, rfl, rfl, rfl, slen, rfl, rfl, trivial⟩, hcc, hcc.size, hm14⟩
    have hskip : ¬ (put = false ∧ a[j] > x) → ∀ e, AllAt e [(1, .slice (some ⟨ba, oa, none⟩) a.length ci), (2, .slice (some ⟨bb, ob, none⟩) b.length di), (3, .pointer (some ⟨w.heap.size, 0, none⟩)), (7, .bool true), (16, .int .i64 k), (17, .slice al l.length cl), (18, .bool put), (19, .int .i64 j)] → ∀ w', Chg [] w11 w' → K30 [] e w' := fun hn e hE w' hc' =>
      hgo2 e w' l put al cl (by show moreStep x (l, put) a[j] = _; exact if_neg hn) (by omega) hE (hc11.then hc') (hc11.then hc') (hm.ext hc')
    cases put with
    | true =>
      refine W.seq fun K hK => ?_
      refine W.regionD [] [] (by kernel_rfl) (by kernel_rfl) fun w12 c12' h12 => ?_
      refine FD.val (fun _ hw => Rn.move (v := .bool _) rfl) ?_
      refine FD.val (fun _ hw => Rn.not rfl) ?_
      refine FD.val (fun _ hw => Rn.move (v := .bool _) rfl) ?_
      refine FD.off (c := false) rfl rfl rfl ?_
      refine FD.off (c := false) rfl rfl rfl ?_
      refine FD.off (c := false) rfl rfl rfl ?_
      refine FD.off (c := false) rfl rfl rfl ?_
      refine FD.off (c := false) rfl rfl rfl ?_
      refine FD.off (c := false) rfl rfl rfl ?_
      refine FD.off (c := false) rfl rfl rfl ?_
      refine FD.off (c := false) rfl rfl rfl ?_
      refine FD.off (c := false) rfl rfl rfl ?_
      refine FD.val (fun _ hw => Rn.pickF rfl rfl) ?_
      refine FD.nil ?_
      refine hK _ _ _ ?_
      clear hK K
      refine W.cond (t := false) rfl (fun h => by simp at h) (fun _ => W.skip (hskip (by simp) _ ⟨rfl, rfl, rfl, rfl, rfl, rfl, rfl, rfl, trivial⟩ _ c12'))
    | false =>
      refine W.seq fun K hK => ?_
      refine W.regionD [] [] (by kernel_rfl) (by kernel_rfl) fun w12 c12' h12 => ?_
      refine FD.val (fun _ hw => Rn.move (v := .bool _) rfl) ?_
      refine FD.val (fun _ hw => Rn.not rfl) ?_
      refine FD.val (fun _ hw => Rn.move (v := .bool _) rfl) ?_
      refine FD.on rfl rfl ?_
      refine FD.val (fun _ hw => Rn.move (v := .slice _ _ _) rfl) ?_
      refine FD.on rfl rfl ?_
      refine FD.val (fun _ hw => Rn.move (v := .int _ _) rfl) ?_
      refine FD.on rfl rfl ?_
      refine FD.val (fun _ hw => Rn.indexAddr1 Tf.sl_22 rfl rfl (by omega) (by omega)) ?_
      refine FD.on rfl rfl ?_
      refine FD.val (fun _ hw => Rn.load1 Tf.ty_3 rfl (cell_chg (hcA j hjl) c12' (by simp)) (hw rfl rfl)) ?_
      refine FD.on rfl rfl ?_
      refine FD.val (fun _ hw => Rn.move (v := .slice _ _ _) rfl) ?_
      refine FD.on rfl rfl ?_
      refine FD.val (fun _ hw => Rn.move (v := .int _ _) rfl) ?_
      refine FD.on rfl rfl ?_
      refine FD.val (fun _ hw => Rn.indexAddr1 Tf.sl_22 rfl rfl (by omega) (by omega)) ?_
      refine FD.on rfl rfl ?_
      refine FD.val (fun _ hw => Rn.load1 Tf.ty_3 rfl (hcBx _ (hc11.then c12')) (hw rfl rfl)) ?_
      refine FD.on rfl rfl ?_
      refine FD.val (fun _ hw => Rn.gtrD rfl rfl rfl) ?_
      refine FD.val (fun _ hw => Rn.pickT rfl rfl) ?_
      refine FD.nil ?_
      refine hK _ _ _ ?_
      clear hK K
      refine W.cond rfl (fun h => ?_) (fun h => W.skip (hskip ?_ _ ⟨rfl, rfl, rfl, rfl, rfl, rfl, rfl, rfl, trivial⟩ _ c12'))
      · have hgt : a[j] > x := by simpa using h
        have hnm := hm.2
        have hs12 := c12'.size
        refine W.seq fun K hK => ?_
        refine W.region (by rfl) ?_
        refine Flow.move (v := .slice _ _ _) rfl ?_
        refine Flow.move (v := .slice _ _ _) rfl ?_
        refine Flow.move (v := .int _ _) rfl ?_
        refine Flow.indexAddr1 Tf.sl_22 rfl rfl (by omega) (by omega) ?_
        refine Flow.load1 Tf.ty_3 rfl (hcBx _ (hc11.then c12')) ?_
        refine Flow.buildSlice1 Tf.sl_22 Tf.us_22 rfl (by decide) (by decide) rfl (cs := [_]) rfl rfl fun w13 c13' s13 b13' => ?_
        refine Flow.append Tf.sl_22 Tf.us_22 rfl (by decide) rfl rfl ((hm.ext (c12'.then c13')).1) (b13'.cells0) rfl rfl (by omega) (by omega) fun a5 cap5 w14 o5 c14' hd5 hn5 => ?_
        refine Flow.assign (v := .slice _ _ _) rfl ?_
        refine hK _ _ _ ?_
        clear hK K
        refine W.region (by rfl) ?_
        refine Flow.assignC ?_
        have hm14 : Mine w9.heap.size w14 a5 cap5 (l ++ [x]) := (hm.ext (c12'.then c13')).app (by have := c13'.size; omega) o5 hd5
        have hcc : Chg [] w9 w14 := (hc11.then (c12'.then c13')).step c14' (fun b hb => by have := hnm b hb; omega)
        exact Flow.nil (hgo2 _ w14 (l ++ [x]) true a5 cap5 (by show moreStep x (l, false) a[j] = _; rw [List.append_assoc]; exact if_pos ⟨rfl, hgt⟩) (by simp; omega) ⟨rfl, rfl, rfl, rfl, rfl, slen, rfl, rfl, trivial⟩ hcc hcc hm14)
      · rintro ⟨_, hgt⟩
        simp at h
        omega
  have hge : j = a.length := by simp at h; omega
  subst hge
  rw [moreK, List.take_length] at hmk
  have hme : moreE x a = if put then l else l ++ [x] := by rw [moreE, moreS, hmk]; rfl
  refine hK27 _ _ _ ?_
  have hel : (moreE x a).length ≤ 1000 := by
    rw [hme]
    split
    · omega
    · simp; omega
  have hfe : flawsE t (moreE x a) = 0 := by rw [flawsE, if_pos hck, if_pos hok]
  refine W.seq fun K34 hK34 => ?_
  have hfin : ∀ (e : Env) (w' : World) (al' : Option Addr) (cl' : Nat), AllAt e [(1, .slice ai a.length ci), (2, .slice (some ⟨bb, ob, none⟩) b.length di), (3, .pointer (some ⟨w.heap.size, 0, none⟩)), (7, .bool true), (16, .int .i64 k), (17, .slice al' (moreE x a).length cl')] → Chg [] w9 w' → IL w' al' (moreE x a) → K34 [] e w' := by
    intro e w12 al' cl' hE hc12 hI
    refine hK34 _ _ _ ?_
    obtain ⟨e, rfl⟩ : ∃ e0, e = putL e0 _ := ⟨e, putL_self hE⟩
    clear hE
    have c112 := c19.then hc12
    have b112 := b18.chg (hc.then hc12) (by simp)
    refine W.seq fun K hK => ?_
    refine W.region (by rfl) ?_
    refine Flow.loadA Tf.ty_25 rfl rfl (b112.cells0) ?_
    refine Flow.move (v := .slice _ _ _) rfl ?_
    refine Flow.call2 Tf.hb_20 (v1 := .agg _) rfl (v2 := .slice _ _ _) rfl ?_
    refine Ret.mono (Can_ok _ t ac af cc cf al' cl' (moreE x a) (hC.ext c112) (hF.ext c112) hcl hfl hI hel) ?_
    rintro _ w13 ⟨rfl, c13'⟩
    refine Flow.move (v := .tuple _) rfl ?_
    refine Flow.extract (v := .bool _) rfl rfl ?_
    refine Flow.extract (v := .int _ _) rfl rfl ?_
    refine Flow.assign (v := .bool _) rfl ?_
    refine Flow.assign (v := .int _ _) rfl ?_
    refine hK _ _ _ ?_
    clear hK K
    rw [hfe]
    refine W.seq fun K37 hK37 => ?_
    refine W.seq fun K hK => ?_
    refine W.region (by rfl) ?_
    refine Flow.move (v := .int _ _) rfl ?_
    refine Flow.neq rfl rfl ?_
    refine hK _ _ _ ?_
    clear hK K
    refine W.cond (t := false) rfl (fun h => by simp at h) (fun _ => W.skip (hK37 _ _ _ ?_))
    refine W.seq fun K hK => ?_
    refine W.region (by rfl) ?_
    refine Flow.move (v := .bool _) rfl ?_
    refine hK _ _ _ ?_
    clear hK K
    refine W.cond rfl (fun h => ?_) (fun h => W.skip (hgo _ w13 ⟨rfl, rfl, rfl, rfl, rfl, trivial⟩ ((hc.then hc12).then c13') (fun _ => h)))
    refine W.seq fun K hK => ?_
    refine W.region (by rfl) ?_
    refine Flow.move (v := .bool _) rfl ?_
    refine Flow.assign (v := .bool _) rfl ?_
    refine hK _ _ _ ?_
    clear hK K
    exact W.ret ⟨_, res1 rfl (v := .bool _) rfl, rfl, c112.then c13'⟩
  cases put with
  | true =>
    refine W.seq fun K hK => ?_
    refine W.region (by rfl) ?_
    refine Flow.move (v := .bool _) rfl ?_
    refine Flow.not rfl ?_
    refine hK _ _ _ ?_
    clear hK K
    refine W.cond (t := false) rfl (fun h => by simp at h) (fun _ => W.skip (hfin _ w11 al cl ?_ hc11 ?_))
    · exact ⟨rfl, rfl, rfl, rfl, rfl, by rw [hme]; rfl, trivial⟩
    · rw [hme]; exact hm.il
  | false =>
    have hnm := hm.2
    refine W.seq fun K hK => ?_
    refine W.region (by rfl) ?_
    refine Flow.move (v := .bool _) rfl ?_
    refine Flow.not rfl ?_
    refine hK _ _ _ ?_
    clear hK K
    refine W.cond (t := true) rfl (fun _ => ?_) (fun h => by simp at h)
    refine W.region (by rfl) ?_
    refine Flow.move (v := .slice _ _ _) rfl ?_
    refine Flow.move (v := .slice _ _ _) rfl ?_
    refine Flow.move (v := .int _ _) rfl ?_
    refine Flow.indexAddr1 Tf.sl_22 rfl rfl (by omega) (by omega) ?_
    refine Flow.load1 Tf.ty_3 rfl (hcBx _ hc11) ?_
    refine Flow.buildSlice1 Tf.sl_22 Tf.us_22 rfl (by decide) (by decide) rfl (cs := [_]) rfl rfl fun w13 c13' s13 b13' => ?_
    refine Flow.append Tf.sl_22 Tf.us_22 rfl (by decide) rfl rfl ((hm.ext c13').1) (b13'.cells0) rfl rfl (by omega) (by omega) fun a5 cap5 w14 o5 c14' hd5 hn5 => ?_
    refine Flow.assign (v := .slice _ _ _) rfl ?_
    have hm14 : Mine w9.heap.size w14 a5 cap5 (l ++ [x]) := (hm.ext c13').app (by have := c13'.size; omega) o5 hd5
    refine Flow.nil (hfin _ w14 a5 cap5 ?_ ((hc11.then c13').step c14' (fun b hb => by have := hnm b hb; omega)) ?_)
    · exact ⟨rfl, rfl, rfl, rfl, rfl, by rw [hme]; exact slen, trivial⟩
    · rw [hme]; exact hm14.il

end Go.Proofs.Ytkoejelglinmnaa

namespace Go.Proofs.Ytkoejelglinmnaa.mendExchangeClaim
open Sg Go.ChangeShapes Go.WideShapes Go.ChangeAt Go.RowKit Go.Joins Go.Deep
set_option linter.unusedVariables false

set_option maxRecDepth 100000 in
theorem lifted (os : Os) (started : os.Started) (H : Type) (enc : TypeId × Value → H) :
    ReturnsInHanded {} Try.checked os 6 .any (Rows.mendExchangeSpec.pre6 enc Try.prog Try.f6 Rows.mendExchangeRow.domain false) (Rows.mendExchangeSpec.post enc Try.prog Try.f6 false true false false) := by
  refine returnsInHanded_of_change (C := Try.checked) own started (by kernel_rfl) Try.func6
    (ChangeSpec.witness6 (enc := enc) (C := Try.checked) false ⟨#[], #[.agg #[.int .i64 0, .slice none 0 0, .slice none 0 0], .slice none 0 0, .slice none 0 0], []⟩ 8 (by kernel_rfl) (by kernel_rfl) (by kernel_rfl) (by kernel_rfl)) ?_
  intro W base args ds gs before hval0 hW hcnd _
  have hval : ∀ (j : Nat) t v, Try.f6.params[j]? = some t → args[j]? = some v → Value.okWide Try.prog W .any base t v := hval0
  have hW' := hW
  obtain ⟨p, q, hA0, hV, rfl, hfz, hnd⟩ := hW
  have hA : DataW.TrodAll enc Try.prog W 0 (fun _ => true) true Try.f6.params.toList args.toList ds p := hA0
  rw [Try.params6] at hA hval
  obtain ⟨v0, vs0, d0, ds0, p0, q0, hargs, rfl, rfl, h0, r0⟩ := trodAll_cons hA
  obtain ⟨v1, vs1, d1, ds1, p1, q1, rfl, rfl, rfl, h1, r1⟩ := trodAll_cons r0
  obtain ⟨v2, vs2, d2, ds2, p2, q2, rfl, rfl, rfl, h2, r2⟩ := trodAll_cons r1
  obtain ⟨rfl, rfl, rfl⟩ := trodAll_nil r2
  obtain rfl : args = #[v0, v1, v2] := by cases args; simp_all
  obtain ⟨rfl, rfl⟩ := trodVars_none hV
  have k0 := h0
  have lt0 : ∀ x ∈ p0, x.block < W.heap.size := by obtain ⟨m, hm⟩ := k0; exact DataW.trod_lt m _ _ _ hm
  have k1 := h1
  have lt1 : ∀ x ∈ p1, x.block < W.heap.size := by obtain ⟨m, hm⟩ := k1; exact DataW.trod_lt m _ _ _ hm
  have k2 := h2
  have lt2 : ∀ x ∈ p2, x.block < W.heap.size := by obtain ⟨m, hm⟩ := k2; exact DataW.trod_lt m _ _ _ hm
  obtain ⟨t0, ac0, af0, cc0, cf0, rfl, hC0, hF0⟩ := read_tour (hval 0 _ v0 rfl rfl) h0
  obtain ⟨ai1, ci1, ids1, rfl, hI1⟩ := read_list (hval 1 _ v1 rfl rfl) h1
  obtain ⟨ai2, ci2, ids2, rfl, hI2⟩ := read_list (hval 2 _ v2 rfl rfl) h2
  clear hA0 hval0
  refine Calls.mono (mendExchange_ok W t0 ac0 af0 cc0 cf0 ai1 ci1 ids1 ai2 ci2 ids2 hC0 hF0 hI1 hI2) ?_
  rintro e W' ⟨v, rfl, rfl, hc⟩
  have bel := chg_below hc
  exact ⟨_, rfl, _, _, _, [], _, [], hW', trodAll_mk1 (shut_bool u_bool _), (trodAll_cons_mk (Below.trod laidOut (by kernel_rfl) (of_decide_eq_true (by kernel_rfl)) k0 bel lt0) (trodAll_cons_mk (Below.trod laidOut (by kernel_rfl) (of_decide_eq_true (by kernel_rfl)) k1 bel lt1) (trodAll_cons_mk (Below.trod laidOut (by kernel_rfl) (of_decide_eq_true (by kernel_rfl)) k2 bel lt2) trodAll_mk0))), rfl, bel.frame _, fun h => by cases h⟩

theorem over : Rows.mendExchangeRow.holds Try.pinned (OpenSpec.ofChange Rows.mendExchangeSpec) :=
  OpenClaim.holds_of_wide 6 Try.f6 rfl rfl rfl rfl rfl rfl rfl ⟨rfl, rfl, rfl, rfl, rfl⟩ rfl rfl rfl rfl rfl (by kernel_rfl) Try.func6 (by kernel_rfl)
    (of_decide_eq_true (by kernel_rfl)) (by unfold Func.isWrapper; first | (rw [if_pos (by decide +kernel)]; kernel_rfl) | (rw [if_neg (by decide +kernel)]; exact ⟨rfl, rfl⟩))
    (fun os started H enc _ => lifted os started H enc)

theorem proved : Rows.MendExchangeSaid := over
#print axioms proved

end Go.Proofs.Ytkoejelglinmnaa.mendExchangeClaim
