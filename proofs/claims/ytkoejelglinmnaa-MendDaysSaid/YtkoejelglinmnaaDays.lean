/-
  pecialaw06.MendDays answers true, and its arguments read as before: for every tour with Closed and Flaws of whatever length and every choice of a flaw.
-/
import Derived.Test.YtkoejelglinmnaaK6
import Derived.Test.YtkoejelglinmnaaK5
/-
  Plain laws: the best worth of a list of flaws, in whatever order; parts of the flaws.
-/
namespace Go.Proofs.Ytkoejelglinmnaa
open Mm

def adjF (c : List Int) (f : Flaw) (d : Int) : Prop := f.lo ≤ d ∧ d ≤ f.hi ∧ d ∉ c
def wF (f : Flaw) : Nat := f.merit.toNat

structure OptF (c : List Int) (fs : List Flaw) (n : Nat) : Prop where
  ex : ∃ A, Ind (adjF c) A ∧ (∀ x ∈ A, x ∈ fs) ∧ sumw wF A = n
  le : ∀ A, Ind (adjF c) A → (∀ x ∈ A, x ∈ fs) → sumw wF A ≤ n

theorem ind_map {F G : Type} {adj : F → Int → Prop} {adj' : G → Int → Prop} (g : F → G) {A : List F} (h : Ind adj A) (hg : ∀ x ∈ A, ∀ y ∈ A, g x = g y → x = y) (ha : ∀ x ∈ A, ∀ d, adj x d → adj' (g x) d) : Ind adj' (A.map g) := by
  obtain ⟨M, hM⟩ := h
  classical
  let N : G → Int := fun y => if h : ∃ x, x ∈ A ∧ g x = y then M (Classical.choose h) else 0
  have hN : ∀ x ∈ A, N (g x) = M x := by
    intro x hx
    have h : ∃ x', x' ∈ A ∧ g x' = g x := ⟨x, hx, rfl⟩
    have e : N (g x) = M (Classical.choose h) := dif_pos h
    have hc := Classical.choose_spec h
    rw [e, hg _ hc.1 x hx hc.2]
  have hnd : (A.map g).Nodup := by
    have : ∀ (l : List F), l.Nodup → (∀ x ∈ l, x ∈ A) → (l.map g).Nodup := by
      intro l
      induction l with
      | nil => intro _ _; simp
      | cons a l ih =>
        intro hn hs
        have hn' := List.nodup_cons.1 hn
        rw [List.map_cons, List.nodup_cons]
        refine ⟨fun hm => ?_, ih hn'.2 fun x hx => hs x (List.mem_cons_of_mem _ hx)⟩
        obtain ⟨y, hy, e⟩ := List.mem_map.1 hm
        have := hg y (hs y (List.mem_cons_of_mem _ hy)) a (hs a (by simp)) e
        exact hn'.1 (this ▸ hy)
    exact this A hM.nd fun _ h => h
  refine ⟨N, hnd, fun y hy => ?_, fun y hy z hz e => ?_⟩
  · obtain ⟨x, hx, rfl⟩ := List.mem_map.1 hy
    rw [hN x hx]
    exact ha x hx _ (hM.ok x hx)
  · obtain ⟨x, hx, rfl⟩ := List.mem_map.1 hy
    obtain ⟨x', hx', rfl⟩ := List.mem_map.1 hz
    rw [hN x hx, hN x' hx'] at e
    rw [hM.inj x hx x' hx' e]

theorem sumw_map {F G : Type} (w : G → Nat) (g : F → G) (A : List F) : sumw w (A.map g) = sumw (fun x => w (g x)) A := by
  induction A with
  | nil => rfl
  | cons a A ih => simp only [List.map_cons, sumw, ih]

theorem flawAt_inj {t : Tour} (hnd : (t.flaws.map (·.id)).Nodup) {x y : Int} (hx : 0 ≤ x ∧ x < t.flaws.length) (hy : 0 ≤ y ∧ y < t.flaws.length) (h : flawAt t x = flawAt t y) : x = y := by
  obtain ⟨a, rfl⟩ := Int.eq_ofNat_of_zero_le hx.1
  obtain ⟨b, rfl⟩ := Int.eq_ofNat_of_zero_le hy.1
  have ha : a < t.flaws.length := by omega
  have hb : b < t.flaws.length := by omega
  rw [flawAt_nat ha, flawAt_nat hb] at h
  have h1 := findS_at hnd ha
  have h2 := findS_at hnd hb
  rw [h] at h1
  rw [h1] at h2
  exact h2

theorem optF_of {t : Tour} (hnd : (t.flaws.map (·.id)).Nodup) {n : Nat} (h2 : OptI (adjT t) (wI t) t.flaws.length n) : OptF t.closed t.flaws n := by
  constructor
  · obtain ⟨A, a1, a2, a3⟩ := h2.ex
    refine ⟨A.map (flawAt t), ind_map (flawAt t) a1 (fun x hx y hy e => flawAt_inj hnd (a2 x hx) (a2 y hy) e) (fun x hx d hd => mem_adjT.1 hd), fun f hf => ?_, ?_⟩
    · obtain ⟨x, hx, rfl⟩ := List.mem_map.1 hf
      exact flawAt_mem (a2 x hx)
    · rw [sumw_map]; exact a3
  · intro A hA hm
    have hidx : ∀ f ∈ t.flaws, (0 ≤ findS f.id 0 t.flaws ∧ findS f.id 0 t.flaws < t.flaws.length) ∧ flawAt t (findS f.id 0 t.flaws) = f := by
      intro f hf
      obtain ⟨k, hk, rfl⟩ := List.mem_iff_getElem.1 hf
      rw [findS_at hnd hk]
      exact ⟨⟨by omega, by omega⟩, flawAt_nat hk⟩
    have := h2.le (A.map fun f => findS f.id 0 t.flaws) (ind_map _ hA (fun x hx y hy e => by rw [← (hidx x (hm x hx)).2, e, (hidx y (hm y hy)).2]) (fun x hx d hd => mem_adjT.2 (by rw [(hidx x (hm x hx)).2]; exact hd))) (fun x hx => by
      obtain ⟨f, hf, rfl⟩ := List.mem_map.1 hx
      exact (hidx f (hm f hf)).1)
    rw [sumw_map] at this
    rwa [sumw_congr (v := wF) fun f hf => by unfold wI wF; rw [(hidx f (hm f hf)).2]] at this

theorem valid_optF {t : Tour} (h : Valid t) : ∃ n : Nat, meritS t = n ∧ OptF t.closed t.flaws n := by
  obtain ⟨n, h1, h2⟩ := valid_opt h
  exact ⟨n, h1, optF_of h.nd h2⟩

theorem OptF.mono {c : List Int} {fs gs : List Flaw} {n m : Nat} (h : OptF c fs n) (h' : OptF c gs m) (hs : ∀ f ∈ fs, f ∈ gs) : n ≤ m := by
  obtain ⟨A, a1, a2, a3⟩ := h.ex
  have := h'.le A a1 fun x hx => hs x (a2 x hx)
  omega

theorem OptF.add {c : List Int} {fs gs ks : List Flaw} {n m k : Nat} (h : OptF c fs n) (h1 : OptF c gs m) (h2 : OptF c ks k) (hs : ∀ f ∈ fs, f ∈ gs ∨ f ∈ ks) : n ≤ m + k := by
  obtain ⟨A, a1, a2, a3⟩ := h.ex
  have key : ∀ (p : Flaw → Bool) (l : List Flaw), sumw wF l = sumw wF (l.filter p) + sumw wF (l.filter fun x => !p x) := by
    intro p l
    induction l with
    | nil => rfl
    | cons a l ih => cases h : p a <;> simp [h, sumw] <;> omega
  have hk := key (fun f => decide (f ∈ gs)) A
  have nd := a1.choose_spec.nd
  have e1 := h1.le (A.filter fun f => decide (f ∈ gs)) (a1.sub (nd.filter _) fun x hx => (List.mem_filter.1 hx).1) (fun x hx => by simpa using (List.mem_filter.1 hx).2)
  have e2 := h2.le (A.filter fun f => !decide (f ∈ gs)) (a1.sub (nd.filter _) fun x hx => (List.mem_filter.1 hx).1) (fun x hx => by
    obtain ⟨p, q⟩ := List.mem_filter.1 hx
    have hq : x ∉ gs := by simpa using q
    exact (hs x (a2 x p)).resolve_left hq)
  omega

theorem Valid.sub {t : Tour} (hv : Valid t) {l : List Flaw} (hl : l.length ≤ t.flaws.length) (hn : (l.map (·.id)).Nodup) (hs : ∀ f ∈ l, f ∈ t.flaws) : Valid { t with flaws := l } :=
  ⟨hv.d1, hv.d2, hv.cr, hv.cs, by have := hv.fn; exact Nat.le_trans hl this, fun f hf => hv.fi f (hs f hf), fun f hf => hv.fs f (hs f hf), fun f hf => hv.fm f (hs f hf), hn⟩

theorem plL_mem {t : Tour} {ids : List Int} {i : Int} (hi : i ∈ plL t ids) : ∃ (k : Nat) (h : k < t.flaws.length), i = k ∧ t.flaws[k].id ∈ ids := by
  have key : ∀ (ids : List Int) (p : Option Int) (l : List Int), listedS t.flaws p ids = some l → ∀ i ∈ l, ∃ (k : Nat) (h : k < t.flaws.length), i = k ∧ t.flaws[k].id ∈ ids := by
    intro ids
    induction ids with
    | nil => intro p l h; rw [listedS_nil] at h; obtain rfl := Option.some.inj h; simp
    | cons id ids ih =>
      intro p l h
      obtain ⟨hno, _, l', hl', rfl⟩ := listedS_some h
      intro i hi
      rcases List.mem_cons.1 hi with rfl | hi
      · rcases findS_ge id t.flaws with h | h
        · omega
        · obtain ⟨k, hk⟩ := Int.eq_ofNat_of_zero_le h.1
          have hkl : k < t.flaws.length := by omega
          exact ⟨k, hkl, hk, by rw [findS_id hkl hk]; simp⟩
      · obtain ⟨k, h1, h2, h3⟩ := ih _ l' hl' i hi
        exact ⟨k, h1, h2, List.mem_cons_of_mem _ h3⟩
  unfold plL at hi
  cases h : listedS t.flaws none ids with
  | none => rw [h] at hi; simp at hi
  | some l => rw [h] at hi; exact key ids none l h i (by simpa using hi)

theorem without_subl (t : Tour) (l : List Int) : (withoutS t l).flaws.Sublist t.flaws := by
  conv => rhs; rw [flaws_eq t]
  exact List.Sublist.map _ List.filter_sublist

theorem mem_without {t : Tour} {l : List Int} {f : Flaw} : f ∈ (withoutS t l).flaws ↔ ∃ (k : Nat) (h : k < t.flaws.length), (k : Int) ∉ l ∧ t.flaws[k] = f := by
  unfold withoutS
  simp only [List.mem_map, List.mem_filter, List.mem_range]
  constructor
  · rintro ⟨k, ⟨h1, h2⟩, rfl⟩
    exact ⟨k, h1, by simpa using h2, (flawAt_nat h1).symm⟩
  · rintro ⟨k, h1, h2, rfl⟩
    exact ⟨k, ⟨h1, by simpa using h2⟩, flawAt_nat h1⟩

theorem without_valid {t : Tour} (hv : Valid t) (l : List Int) : Valid (withoutS t l) := by
  have hs := without_subl t l
  exact hv.sub hs.length_le (hv.nd.sublist (hs.map _)) fun f hf => hs.subset hf

/-- The flaws from another one on, then the others. -/
def turned (l : List Flaw) (k n : Nat) : List Flaw := (List.range n).map fun j => l.getD ((j + k) % l.length) ⟨0, 0, 0, 0⟩

theorem turned_facts {l : List Flaw} (hnd : (l.map (·.id)).Nodup) (k : Nat) : ((turned l k l.length).map (·.id)).Nodup ∧ (turned l k l.length).length = l.length ∧ ∀ f, f ∈ turned l k l.length ↔ f ∈ l := by
  rcases Nat.eq_zero_or_pos l.length with h0 | hpos
  · have : l = [] := List.eq_nil_of_length_eq_zero h0
    subst this
    exact ⟨by simp [turned], by simp [turned], by simp [turned]⟩
  have hlt : ∀ j, (j + k) % l.length < l.length := fun j => Nat.mod_lt _ hpos
  have hget : ∀ j, l.getD ((j + k) % l.length) ⟨0, 0, 0, 0⟩ = l[(j + k) % l.length]'(hlt j) := fun j => by
    rw [List.getD_eq_getElem?_getD, List.getElem?_eq_getElem (hlt j)]; rfl
  have hlen : (turned l k l.length).length = l.length := by simp [turned]
  have hsub : ∀ f ∈ turned l k l.length, f ∈ l := by
    intro f hf
    obtain ⟨j, _, rfl⟩ := List.mem_map.1 hf
    rw [hget]; exact List.getElem_mem _
  have hmod : ∀ i j, i < l.length → j < l.length → (i + k) % l.length = (j + k) % l.length → i = j := by
    intro i j hi hj h
    have hr : k % l.length < l.length := Nat.mod_lt _ hpos
    have e : ∀ i, i < l.length → (i + k) % l.length = if i + k % l.length < l.length then i + k % l.length else i + k % l.length - l.length := by
      intro i hi
      rw [Nat.add_mod, Nat.mod_eq_of_lt hi]
      split
      · next h => exact Nat.mod_eq_of_lt h
      · next h => rw [Nat.mod_eq_sub_mod (by omega), Nat.mod_eq_of_lt (by omega)]
    rw [e i hi, e j hj] at h
    split at h <;> split at h <;> omega
  have hnd2 : ((turned l k l.length).map (·.id)).Nodup := by
    rw [turned, List.map_map]
    refine nodup_map List.nodup_range fun i hi j hj h => ?_
    simp only [Function.comp, hget] at h
    have hi' := List.mem_range.1 hi
    have hj' := List.mem_range.1 hj
    have h1 := findS_at hnd (hlt i)
    have h2 := findS_at hnd (hlt j)
    rw [h] at h1
    rw [h1] at h2
    exact hmod i j hi' hj' (by omega)
  have hnd3 : (turned l k l.length).Nodup := by
    have : ∀ (m : List Flaw), (m.map (·.id)).Nodup → m.Nodup := by
      intro m
      induction m with
      | nil => intro _; exact List.nodup_nil
      | cons a m ih =>
        intro h
        rw [List.map_cons, List.nodup_cons] at h
        exact List.nodup_cons.2 ⟨fun hm => h.1 (List.mem_map.2 ⟨a, hm, rfl⟩), ih h.2⟩
    exact this _ hnd2
  exact ⟨hnd2, hlen, fun f => ⟨hsub f, full_sub hnd3 hsub (by omega) f⟩⟩

/-- What MendParts asks for. -/
theorem parts_law {t : Tour} (hv : Valid t) (ids : List Int) (k : Nat) :
    chk { t with flaws := t.flaws.filter fun f => decide (f.id ∈ ids) } = 0 ∧ chk (withoutS t (plL t ids)) = 0 ∧ chk { t with flaws := turned t.flaws k t.flaws.length } = 0 ∧
      meritS t ≤ meritS { t with flaws := t.flaws.filter fun f => decide (f.id ∈ ids) } + meritS (withoutS t (plL t ids)) ∧
      meritS { t with flaws := t.flaws.filter fun f => decide (f.id ∈ ids) } ≤ meritS t ∧ meritS (withoutS t (plL t ids)) ≤ meritS t ∧
      meritS { t with flaws := turned t.flaws k t.flaws.length } = meritS t := by
  have hsb : (t.flaws.filter fun f => decide (f.id ∈ ids)).Sublist t.flaws := List.filter_sublist
  have v1 := hv.sub hsb.length_le (hv.nd.sublist (hsb.map _)) fun f hf => hsb.subset hf
  have v2 := without_valid hv (plL t ids)
  obtain ⟨r1, r2, r3⟩ := turned_facts hv.nd k
  have v3 := hv.sub (l := turned t.flaws k t.flaws.length) (by omega) r1 fun f hf => (r3 f).1 hf
  obtain ⟨n, e0, o0⟩ := valid_optF hv
  obtain ⟨a, e1, o1⟩ := valid_optF v1
  obtain ⟨b, e2, o2⟩ := valid_optF v2
  obtain ⟨c, e3, o3⟩ := valid_optF v3
  have hw := without_subl t (plL t ids)
  have g1 : n ≤ a + b := OptF.add o0 o1 o2 fun f hf => by
    obtain ⟨k, hk, rfl⟩ := List.mem_iff_getElem.1 hf
    by_cases h : (k : Int) ∈ plL t ids
    · obtain ⟨k', hk', e, h2⟩ := plL_mem h
      obtain rfl : k = k' := by omega
      exact .inl (List.mem_filter.2 ⟨hf, by simpa using h2⟩)
    · exact .inr (mem_without.2 ⟨k, hk, h, rfl⟩)
  have g2 : a ≤ n := o1.mono o0 fun f hf => hsb.subset hf
  have g3 : b ≤ n := OptF.mono o2 o0 fun f hf => hw.subset hf
  have g4 : c ≤ n := o3.mono o0 fun f hf => (r3 f).1 hf
  have g5 : n ≤ c := o0.mono o3 fun f hf => (r3 f).2 hf
  refine ⟨valid_chk v1, valid_chk v2, valid_chk v3, ?_, ?_, ?_, ?_⟩ <;> omega

end Go.Proofs.Ytkoejelglinmnaa

/-
  Plain laws: which flaws can be mended together; one more of the longer list; how many a best mending mends.
-/
namespace Go.Proofs.Ytkoejelglinmnaa
open Mm

/-! ### the day of each flaw -/
theorem at_set' {l : List Int} {i j : Int} (hi : 0 ≤ i ∧ i < l.length) (hj : 0 ≤ j) (d : Int) : at' (l.set i.toNat d) j = if j = i then d else at' l j := by
  unfold at'
  rw [List.getD_eq_getElem?_getD, List.getD_eq_getElem?_getD, List.getElem?_set]
  by_cases h : j = i
  · subst h; rw [if_pos rfl, if_pos rfl, if_pos (by omega)]; rfl
  · rw [if_neg (by omega), if_neg h]

theorem onF_at {n : Nat} : ∀ (has out : List Int) (d : Nat), out.length = n → (∀ x ∈ has, x = -1 ∨ (0 ≤ x ∧ x < n)) → (∀ i i' (h : i < has.length) (h' : i' < has.length), has[i] = has[i'] → 0 ≤ has[i] → i = i') → ∀ j : Int, 0 ≤ j →
    (∀ i (h : i < has.length), has[i] = j → at' (onF out d has) j = (d + i : Nat)) ∧ (j ∉ has → at' (onF out d has) j = at' out j)
  | [], out, d, _, _, _, j, _ => ⟨fun i h => absurd h (by simp), fun _ => rfl⟩
  | x :: has, out, d, hl, hr, hi, j, hj => by
    have hr' : ∀ y ∈ has, y = -1 ∨ (0 ≤ y ∧ y < n) := fun y hy => hr y (List.mem_cons_of_mem _ hy)
    have hi' : ∀ i i' (h : i < has.length) (h' : i' < has.length), has[i] = has[i'] → 0 ≤ has[i] → i = i' := fun i i' h h' e h0 => by
      have := hi (i + 1) (i' + 1) (by simp; omega) (by simp; omega) (by simpa using e) (by simpa using h0)
      omega
    have hl' : (if 0 ≤ x then out.set x.toNat (d : Int) else out).length = n := by split <;> simp [hl]
    obtain ⟨h1, h2⟩ := onF_at has (if 0 ≤ x then out.set x.toNat (d : Int) else out) (d + 1) hl' hr' hi' j hj
    have hx := hr x (by simp)
    constructor
    · intro i h e
      cases i with
      | zero =>
        have e : x = j := by simpa using e
        subst e
        have hno : x ∉ has := fun hm => by
          obtain ⟨k, hk, e⟩ := List.mem_iff_getElem.1 hm
          have := hi 0 (k + 1) (by simp) (by simp; omega) (by simp [e]) (by simpa using hj)
          omega
        show at' (onF _ (d + 1) has) x = _
        rw [h2 hno, if_pos hj, at_set' (by omega) hj, if_pos rfl]; simp
      | succ k =>
        have hk : k < has.length := by simpa using h
        show at' (onF _ (d + 1) has) j = _
        rw [h1 k hk (by simpa using e)]
        simp only [Int.natCast_add]; omega
    · intro hno
      rw [List.mem_cons, not_or] at hno
      show at' (onF _ (d + 1) has) j = _
      rw [h2 hno.2]
      split
      · rw [at_set' (by omega) hj, if_neg hno.1]
      · rfl

theorem rep_at (n : Nat) (j : Int) : at' (List.replicate n (-1)) j = -1 := by
  unfold at'
  rw [List.getD_eq_getElem?_getD, List.getElem?_replicate]
  split <;> rfl

/-- Which day a flaw has, and which flaw has a day. -/
theorem onOf_at {n m : Nat} {adj : Int → List Int} {has : List Int} {S : Int → Prop} (hg : GInv n m has []) (hst : St adj n has [] S) {j : Int} (hj : 0 ≤ j ∧ j < m) :
    (j ∈ hadBy has → at' (onOf m has) j = dayIn has j) ∧ (j ∉ hadBy has → at' (onOf m has) j = -1) := by
  have hinj : ∀ i i' (h : i < has.length) (h' : i' < has.length), has[i] = has[i'] → 0 ≤ has[i] → i = i' := by
    intro i i' h h' e h0
    have hlen := hg.len
    have e1 := at_nat h
    have e2 := at_nat h'
    have := hst.inj i i' (by omega) (by omega) (by simp) (by simp) (by rw [e1, e2]; exact e) (by rw [e1]; exact h0)
    omega
  obtain ⟨h1, h2⟩ := onF_at has (List.replicate m (-1)) 0 (by simp) hg.ok hinj j hj.1
  constructor
  · intro hm
    have hm' : j ∈ has := (List.mem_filter.1 hm).1
    have hlt : has.idxOf j < has.length := List.idxOf_lt_length_of_mem hm'
    have := h1 (has.idxOf j) hlt (List.getElem_idxOf hlt)
    rw [onOf, this, dayIn]; simp
  · intro hno
    have : j ∉ has := fun hm => hno (List.mem_filter.2 ⟨hm, by simpa using hj.1⟩)
    rw [onOf, h2 this, rep_at]

theorem onOf_had {n m : Nat} {adj : Int → List Int} {has : List Int} {S : Int → Prop} (hg : GInv n m has []) (hst : St adj n has [] S) {j : Int} : j ∈ onA (onOf m has) ↔ j ∈ hadBy has := by
  rw [mem_onA, onOf_len]
  constructor
  · rintro ⟨h, h0⟩
    apply Classical.byContradiction
    intro hno
    rw [(onOf_at hg hst h).2 hno] at h0
    exact absurd h0 (by decide)
  · intro hm
    have hm' := List.mem_filter.1 hm
    have h0 : 0 ≤ j := by simpa using hm'.2
    have hr := (hg.ok j hm'.1).resolve_left (by omega)
    exact ⟨hr, by rw [(onOf_at hg hst hr).1 hm]; simp [dayIn]⟩

/-! ### some flaws together -/
theorem canAll_ind {n m : Nat} {adj : Int → List Int} (hadj : ∀ i : Int, 0 ≤ i ∧ i < m → ∀ d ∈ adj i, 0 ≤ d ∧ d < n) (hf : n < fuel) : ∀ (l pre has : List Int), GInv n m has [] → St adj n has [] (fun j => j ∈ hadBy has) →
    (∀ j, j ∈ hadBy has ↔ j ∈ pre) → (pre ++ l).Nodup → (∀ x ∈ l, 0 ≤ x ∧ x < m) → (canAll adj has l = true ↔ Ind (adjP adj) (pre ++ l))
  | [], pre, has, hg, hst, hp, hn, _ => by
    have hM := (hst.mat hg.len).1
    rw [List.append_nil] at hn ⊢
    exact ⟨fun _ => ⟨_, hM.sub hn fun x hx => (hp x).2 hx⟩, fun _ => rfl⟩
  | i :: l, pre, has, hg, hst, hp, hn, hr => by
    have hn' := List.nodup_append.1 hn
    have hiA : i ∉ hadBy has := fun hm => hn'.2.2 i ((hp i).1 hm) i (by simp) rfl
    have hi := hr i (by simp)
    have e : pre ++ i :: l = (pre ++ [i]) ++ l := by simp
    rw [canAll, addS_eq]
    by_cases ht : (give adj fuel i has []).1 = true
    · rw [if_pos ht]
      obtain ⟨g1, _⟩ := give_true hadj fuel i has [] _ hi hg hst hiA ht
      obtain ⟨k1, _⟩ := give_inv hadj fuel i has [] hi hg
      obtain ⟨hM', hS', _⟩ := g1.mat k1.len
      rw [e] at hn ⊢
      refine canAll_ind hadj hf l (pre ++ [i]) _ (GInv.nil k1.len k1.ok) (g1.had k1.len) (fun j => ?_) hn (fun x hx => hr x (List.mem_cons_of_mem _ hx))
      rw [← hS' j, hp j]; simp
    · have ht : (give adj fuel i has []).1 = false := by simpa using ht
      rw [if_neg (by rw [ht]; simp)]
      refine ⟨fun h => (Bool.false_ne_true h).elim, fun h => ?_⟩
      obtain ⟨T, h1, h2⟩ := give_tight hadj hf hi hg hst ht
      have hM := (hst.mat hg.len).1
      refine absurd (h.sub (B := i :: hadBy has) (List.nodup_cons.2 ⟨hiA, hM.nd⟩) fun x hx => ?_) (not_ind hM h1 hiA h2)
      rcases List.mem_cons.1 hx with rfl | hx
      · simp
      · exact List.mem_append.2 (.inl ((hp x).1 hx))

theorem adjV {t : Tour} (hv : Valid t) : ∀ i : Int, 0 ≤ i ∧ i < t.flaws.length → ∀ d ∈ adjT t i, 0 ≤ d ∧ d < t.days.toNat := fun i hi d hd => adjT_rg hv.small rfl hi d hd

theorem can_ind {t : Tour} (hv : Valid t) {l : List Int} (hn : l.Nodup) (hr : ∀ x ∈ l, 0 ≤ x ∧ x < t.flaws.length) : canAll (adjT t) (noDays t) l = true ↔ Ind (adjP (adjT t)) l := by
  have h := Greedy.none (adjT t) t.days.toNat t.flaws.length (fun _ => 0)
  have hno : hadBy (List.replicate t.days.toNat (-1)) = [] := List.filter_eq_nil_iff.2 fun x hx => by rw [(List.mem_replicate.1 hx).2]; decide
  have := hv.d2
  have := canAll_ind (adjV hv) (by show t.days.toNat < 130; omega) l [] (noDays t) h.inv h.st (fun j => by rw [noDays, hno]) (by simpa using hn) hr
  simpa using this

/-- One more of the longer list. -/
theorem exch {n m : Nat} {adj : Int → List Int} (hadj : ∀ i : Int, 0 ≤ i ∧ i < m → ∀ d ∈ adj i, 0 ≤ d ∧ d < n) {A B : List Int} (hA : Ind (adjP adj) A) (hB : Ind (adjP adj) B) (hrA : ∀ x ∈ A, 0 ≤ x ∧ x < (m : Int)) (hrB : ∀ x ∈ B, 0 ≤ x ∧ x < (m : Int))
    (hl : A.length < B.length) : ∃ x ∈ B, x ∉ A ∧ Ind (adjP adj) (x :: A) := by
  apply Classical.byContradiction
  intro hno
  obtain ⟨M, hM⟩ := hA
  obtain ⟨N, hN⟩ := hB
  have ht : ∀ x ∈ B, x ∉ A → ∃ T, Tight (adjP adj) A M T ∧ ∀ e, adjP adj x e → T e := fun x hx hxA =>
    (dich hadj hM hrA (hrB x hx) hxA).resolve_left fun h => hno ⟨x, hx, hxA, h⟩
  have := count hM (T := fun d => ∃ x ∈ B, x ∉ A ∧ ∃ T, Tight (adjP adj) A M T ∧ T d) (by
    rintro d ⟨x, hx, hxA, T, hT, hd⟩
    obtain ⟨j, h1, h2, h3⟩ := hT d hd
    exact ⟨j, h1, h2, fun e he => ⟨x, hx, hxA, T, hT, h3 e he⟩⟩) hN (by
    intro i hi hiA e he
    obtain ⟨T, hT, h⟩ := ht i hi hiA
    exact ⟨i, hi, hiA, T, hT, h e he⟩)
  omega

/-- No more flaws can be mended than a best mending mends. -/
theorem best_many {t : Tour} (hv : Valid t) {l : List Int} (hl : Ind (adjP (adjT t)) l) (hr : ∀ x ∈ l, 0 ≤ x ∧ x < t.flaws.length) : l.length ≤ (onA (onOf t.flaws.length (bestHas t))).length := by
  have g := best_greedy (t := t) (by have := hv.d1; omega) hv.d2 (fun f hf => ⟨(hv.fs f hf).1, (hv.fs f hf).2.2⟩)
  obtain ⟨hM, _, _⟩ := g.st.mat g.inv.len
  obtain ⟨N, hN⟩ := hl
  have h1 := count hM (T := fun d => ∃ T, Tight (adjP (adjT t)) (hadBy (bestHas t)) (dayIn (bestHas t)) T ∧ T d) (by
    rintro d ⟨T, hT, hd⟩
    obtain ⟨j, h1, h2, h3⟩ := hT d hd
    exact ⟨j, h1, h2, fun e he => ⟨T, hT, h3 e he⟩⟩) hN (by
    intro i hi hiA e he
    obtain ⟨T, hT, h, _⟩ := g.cert i (order_mem.2 (hr i hi)) hiA
    exact ⟨T, hT, h e he⟩)
  have h2 := nodup_len (l1 := hadBy (bestHas t)) (l2 := onA (onOf t.flaws.length (bestHas t))) hM.nd fun x hx => (onOf_had g.inv g.st).2 hx
  omega

/-! ### lists of IDs -/
theorem listedS_iff {fl : List Flaw} : ∀ (ids : List Int) (p : Option Int), (listedS fl p ids).isSome = true ↔ (∀ x ∈ ids, 0 ≤ findS x 0 fl) ∧ ids.Pairwise (· < ·) ∧ ∀ q, p = some q → ∀ x ∈ ids, q < x
  | [], p => by rw [listedS_nil]; simp
  | id :: ids, p => by
    constructor
    · intro h
      obtain ⟨l, hl⟩ := Option.isSome_iff_exists.1 h
      obtain ⟨h1, h2, l', h3, _⟩ := listedS_some hl
      obtain ⟨i1, i2, i3⟩ := (listedS_iff ids (some id)).1 (by rw [h3]; rfl)
      refine ⟨fun x hx => ?_, List.pairwise_cons.2 ⟨fun x hx => i3 id rfl x hx, i2⟩, fun q hq x hx => ?_⟩
      · rcases List.mem_cons.1 hx with rfl | hx
        · exact h1
        · exact i1 x hx
      · rcases List.mem_cons.1 hx with rfl | hx
        · exact h2 q hq
        · have := h2 q hq; have := i3 id rfl x hx; omega
    · rintro ⟨h1, h2, h3⟩
      have h2' := List.pairwise_cons.1 h2
      have ih := (listedS_iff ids (some id)).2 ⟨fun x hx => h1 x (List.mem_cons_of_mem _ hx), h2'.2, fun q hq x hx => by obtain rfl := Option.some.inj hq; exact h2'.1 x hx⟩
      rw [listedS_cons]
      have h0 := h1 id (by simp)
      cases p with
      | none =>
        rw [if_neg (by simp; omega)]
        simpa using ih
      | some q =>
        have := h3 q rfl id (by simp)
        rw [if_neg (by simp; omega)]
        simpa using ih

theorem okL_iff {t : Tour} {ids : List Int} : okL t ids = true ↔ (∀ x ∈ ids, 0 ≤ findS x 0 t.flaws) ∧ ids.Pairwise (· < ·) := by
  rw [okL, listedS_iff]; simp

theorem plL_map {t : Tour} {ids : List Int} (h : okL t ids = true) : plL t ids = ids.map fun x => findS x 0 t.flaws := by
  have key : ∀ (ids : List Int) (p : Option Int) (l : List Int), listedS t.flaws p ids = some l → l = ids.map fun x => findS x 0 t.flaws := by
    intro ids
    induction ids with
    | nil => intro p l h; rw [listedS_nil] at h; obtain rfl := Option.some.inj h; rfl
    | cons id ids ih =>
      intro p l h
      obtain ⟨_, _, l', hl', rfl⟩ := listedS_some h
      rw [List.map_cons, ih _ l' hl']
  obtain ⟨l, hl⟩ := Option.isSome_iff_exists.1 h
  rw [plL, hl, Option.getD_some]
  exact key ids none l hl

theorem find_inj {fl : List Flaw} {x y : Int} (hx : 0 ≤ findS x 0 fl) (h : findS x 0 fl = findS y 0 fl) : x = y := by
  obtain ⟨k, hk⟩ := Int.eq_ofNat_of_zero_le hx
  have hkl : k < fl.length := by rcases findS_ge x fl with h | h <;> omega
  exact (findS_id hkl hk).symm.trans (findS_id hkl (h ▸ hk))

theorem plL_nodup {t : Tour} {ids : List Int} (h : okL t ids = true) : (plL t ids).Nodup := by
  rw [plL_map h]
  obtain ⟨h1, h2⟩ := okL_iff.1 h
  exact nodup_map (h2.imp fun h e => by omega) fun x hx y _ e => find_inj (h1 x hx) e

theorem canS_ind {t : Tour} (hv : Valid t) {ids : List Int} (h : okL t ids = true) : canS t ids = true ↔ Ind (adjP (adjT t)) (plL t ids) := by
  have he : flawsE t ids = 0 := by rw [flawsE, if_pos (valid_chk hv), if_pos h]
  rw [canS, if_pos he]
  exact can_ind hv (plL_nodup h) (plL_rg t ids)

/-- A list with one more, where it stands. -/
def moreStep (x : Int) (s : List Int × Bool) (y : Int) : List Int × Bool := if s.2 = false ∧ y > x then (s.1 ++ [x, y], true) else (s.1 ++ [y], s.2)
def moreS (x : Int) (l : List Int) : List Int × Bool := l.foldl (moreStep x) ([], false)
def moreF (x : Int) (s : List Int × Bool) : List Int := if s.2 then s.1 else s.1 ++ [x]
def moreE (x : Int) (l : List Int) : List Int := moreF x (moreS x l)

theorem more_facts {x : Int} {l : List Int} (hs : l.Pairwise (· < ·)) (hx : x ∉ l) : (moreE x l).Pairwise (· < ·) ∧ ∀ y, y ∈ moreE x l ↔ y = x ∨ y ∈ l := by
  have key : ∀ (l acc : List Int) (b : Bool), acc.Pairwise (· < ·) → l.Pairwise (· < ·) → (∀ u ∈ acc, ∀ v ∈ l, u < v) → x ∉ l → (b = false → ∀ u ∈ acc, u < x) → (b = true → ∀ v ∈ l, x < v) →
      (moreF x (l.foldl (moreStep x) (acc, b))).Pairwise (· < ·) ∧ ∀ y, y ∈ moreF x (l.foldl (moreStep x) (acc, b)) ↔ y ∈ acc ∨ y ∈ l ∨ (b = false ∧ y = x) := by
    intro l
    induction l with
    | nil =>
      intro acc b h1 _ _ _ h5 _
      cases b with
      | false =>
        refine ⟨List.pairwise_append.2 ⟨h1, by simp, fun u hu v hv => ?_⟩, fun y => by simp [moreF]⟩
        obtain rfl : v = x := by simpa using hv
        exact h5 rfl u hu
      | true => exact ⟨h1, fun y => by simp [moreF]⟩
    | cons a l ih =>
      intro acc b h1 h2 h3 h4 h5 h6
      have h2' := List.pairwise_cons.1 h2
      rw [List.mem_cons, not_or] at h4
      rw [List.foldl_cons]
      by_cases hc : b = false ∧ a > x
      · obtain ⟨rfl, hax⟩ := hc
        rw [show moreStep x (acc, false) a = (acc ++ [x, a], true) from if_pos ⟨rfl, hax⟩]
        obtain ⟨r1, r2⟩ := ih (acc ++ [x, a]) true (List.pairwise_append.2 ⟨h1, by simp; omega, fun u hu v hv => by
            rcases List.mem_cons.1 hv with rfl | hv
            · exact h5 rfl u hu
            · obtain rfl : v = a := by simpa using hv
              exact h3 u hu _ (by simp)⟩) h2'.2 (fun u hu v hv => by
            rcases List.mem_append.1 hu with hu | hu
            · exact h3 u hu v (List.mem_cons_of_mem _ hv)
            · have := h2'.1 v hv
              rcases List.mem_cons.1 hu with rfl | hu
              · omega
              · obtain rfl : u = a := by simpa using hu
                exact this) h4.2 (fun h => by cases h) (fun _ v hv => by have := h2'.1 v hv; omega)
        refine ⟨r1, fun y => ?_⟩
        rw [r2 y]
        simp only [List.mem_append, List.mem_cons, List.not_mem_nil, or_false, Bool.true_eq_false, false_and, true_and]
        grind
      · rw [moreStep, if_neg hc]
        obtain ⟨r1, r2⟩ := ih (acc ++ [a]) b (List.pairwise_append.2 ⟨h1, by simp, fun u hu v hv => by
            obtain rfl : v = a := by simpa using hv
            exact h3 u hu _ (by simp)⟩) h2'.2 (fun u hu v hv => by
            rcases List.mem_append.1 hu with hu | hu
            · exact h3 u hu v (List.mem_cons_of_mem _ hv)
            · obtain rfl : u = a := by simpa using hu
              exact h2'.1 v hv) h4.2 (fun hb u hu => by
            rcases List.mem_append.1 hu with hu | hu
            · exact h5 hb u hu
            · obtain rfl : u = a := by simpa using hu
              have : ¬ u > x := fun h => hc ⟨hb, h⟩
              omega) (fun hb v hv => h6 hb v (List.mem_cons_of_mem _ hv))
        refine ⟨r1, fun y => ?_⟩
        rw [r2 y]
        simp only [List.mem_append, List.mem_cons, List.not_mem_nil, or_false]
        grind
  obtain ⟨r1, r2⟩ := key l [] false (by simp) hs (by simp) hx (by simp) (by simp)
  refine ⟨r1, fun y => ?_⟩
  rw [show (y ∈ moreE x l ↔ y ∈ ([] : List Int) ∨ y ∈ l ∨ (false = false ∧ y = x)) from r2 y]
  simp [or_comm]

/-- What MendExchange asks for. -/
theorem exch_law {t : Tour} (hv : Valid t) {a b : List Int} (ha : okL t a = true) (hb : okL t b = true) (ca : canS t a = true) (cb : canS t b = true) :
    a.length ≤ (onA (onOf t.flaws.length (bestHas t))).length ∧ b.length ≤ (onA (onOf t.flaws.length (bestHas t))).length ∧
      (∀ x ∈ b, x ∉ a → okL t (moreE x a) = true) ∧ (a.length < b.length → ∃ x ∈ b, x ∉ a ∧ canS t (moreE x a) = true) := by
  have ia := (canS_ind hv ha).1 ca
  have ib := (canS_ind hv hb).1 cb
  have la : (plL t a).length = a.length := by rw [plL_map ha, List.length_map]
  have lb : (plL t b).length = b.length := by rw [plL_map hb, List.length_map]
  obtain ⟨a1, a2⟩ := okL_iff.1 ha
  obtain ⟨b1, b2⟩ := okL_iff.1 hb
  have hok : ∀ x ∈ b, x ∉ a → okL t (moreE x a) = true := fun x hx hxa => by
    obtain ⟨m1, m2⟩ := more_facts a2 hxa
    exact okL_iff.2 ⟨fun y hy => by
      rcases (m2 y).1 hy with rfl | hy
      · exact b1 y hx
      · exact a1 y hy, m1⟩
  refine ⟨by rw [← la]; exact best_many hv ia (plL_rg t a), by rw [← lb]; exact best_many hv ib (plL_rg t b), hok, fun hlt => ?_⟩
  obtain ⟨p, hp, hpa, hi⟩ := exch (adjV hv) ia ib (plL_rg t a) (plL_rg t b) (by omega)
  rw [plL_map hb] at hp
  obtain ⟨x, hx, rfl⟩ := List.mem_map.1 hp
  have hxa : x ∉ a := fun h => hpa (by rw [plL_map ha]; exact List.mem_map.2 ⟨x, h, rfl⟩)
  obtain ⟨m1, m2⟩ := more_facts a2 hxa
  have hk := hok x hx hxa
  refine ⟨x, hx, hxa, (canS_ind hv hk).2 (hi.sub (plL_nodup hk) fun p hp => ?_)⟩
  rw [plL_map hk] at hp
  obtain ⟨y, hy, rfl⟩ := List.mem_map.1 hp
  rcases (m2 y).1 hy with rfl | hy
  · simp
  · exact List.mem_cons_of_mem _ (by rw [plL_map ha]; exact List.mem_map.2 ⟨y, hy, rfl⟩)

end Go.Proofs.Ytkoejelglinmnaa

/-
  Plain laws: one day alone for a flaw; the earliest days.
-/
namespace Go.Proofs.Ytkoejelglinmnaa
open Mm

theorem ind_cons {F : Type} {adj adj' : F → Int → Prop} {A : List F} {g : F} {d : Int} (h : Ind adj' A) (hg : g ∉ A) (hd : adj g d) (ha : ∀ x ∈ A, ∀ e, adj' x e → adj x e ∧ e ≠ d) : Ind adj (g :: A) := by
  obtain ⟨M, hM⟩ := h
  classical
  have e1 : ∀ x ∈ A, x ≠ g := fun x hx e => hg (e ▸ hx)
  obtain ⟨N, hN⟩ : ∃ N : F → Int, ∀ f, N f = if f = g then d else M f := ⟨_, fun _ => rfl⟩
  have n1 : N g = d := by rw [hN, if_pos rfl]
  have n2 : ∀ x ∈ A, N x = M x := fun x hx => by rw [hN, if_neg (e1 x hx)]
  refine ⟨N, List.nodup_cons.2 ⟨hg, hM.nd⟩, fun f hf => ?_, fun f hf f' hf' e => ?_⟩
  · rcases List.mem_cons.1 hf with h | hA
    · rw [h, n1]; exact hd
    · rw [n2 f hA]; exact (ha f hA _ (hM.ok f hA)).1
  · rcases List.mem_cons.1 hf with h | hA
    · rcases List.mem_cons.1 hf' with h' | hA'
      · rw [h, h']
      · rw [h, n1, n2 f' hA'] at e
        exact absurd e.symm (ha f' hA' _ (hM.ok f' hA')).2
    · rcases List.mem_cons.1 hf' with h' | hA'
      · rw [h', n1, n2 f hA] at e
        exact absurd e (ha f hA _ (hM.ok f hA)).2
      · rw [n2 f hA, n2 f' hA'] at e
        exact hM.inj f hA f' hA' e

theorem flaw_inj {t : Tour} (hnd : (t.flaws.map (·.id)).Nodup) {j k : Nat} (hj : j < t.flaws.length) (hk : k < t.flaws.length) (h : t.flaws[j].id = t.flaws[k].id) : j = k := by
  have h1 := findS_at hnd hj
  have h2 := findS_at hnd hk
  rw [h] at h1
  omega

theorem adj_days {t : Tour} (hv : Valid t) {k : Nat} (hk : k < t.flaws.length) {d : Int} (hd : d ∈ adjT t k) : 0 ≤ d ∧ d < t.days := by
  have := adjV hv k ⟨by omega, by omega⟩ d hd
  have := hv.d1
  omega

theorem mem_adj_nat {t : Tour} {k : Nat} (hk : k < t.flaws.length) {d : Int} : d ∈ adjT t k ↔ adjF t.closed t.flaws[k] d := by
  rw [mem_adjT, flawAt_nat hk]; rfl

theorem not_in_without {t : Tour} (hnd : (t.flaws.map (·.id)).Nodup) {k : Nat} (hk : k < t.flaws.length) {f : Flaw} (hf : f ∈ (withoutS t [(k : Int)]).flaws) : f.id ≠ t.flaws[k].id := by
  obtain ⟨j, hj, hjk, rfl⟩ := mem_without.1 hf
  intro e
  exact hjk (by rw [flaw_inj hnd hj hk e]; simp)

theorem closed_adj {c : List Int} {t : Tour} {d e : Int} {f : Flaw} (h : adjF (closedS t d).closed f e) (hc : t.closed = c) : adjF c f e ∧ e ≠ d := by
  subst hc
  exact ⟨⟨h.1, h.2.1, fun hm => h.2.2 (mem_closedS.2 (.inr hm))⟩, fun hm => h.2.2 (mem_closedS.2 (.inl hm))⟩

theorem on_le {t : Tour} (hv : Valid t) {k : Nat} (hk : k < t.flaws.length) {d : Int} (hd : d ∈ adjT t k) : onS t k d ≤ meritS t := by
  obtain ⟨n, e0, o0⟩ := valid_optF hv
  obtain ⟨x, e1, o1⟩ := valid_optF ((hv.without [(k : Int)]).close (day := d) (adj_days hv hk hd))
  obtain ⟨A, a1, a2, a3⟩ := o1.ex
  have hg : t.flaws[k] ∉ A := fun h => not_in_without hv.nd hk (a2 _ h) rfl
  have := o0.le (t.flaws[k] :: A) (ind_cons a1 hg ((mem_adj_nat hk).1 hd) fun x _ e he => closed_adj he rfl) (fun f hf => by
    rcases List.mem_cons.1 hf with rfl | hf
    · exact List.getElem_mem hk
    · exact (without_subl t _).subset (a2 f hf))
  have hm := hv.fm _ (List.getElem_mem hk)
  rw [onS, flawAt_nat hk, e0, e1]
  have e2 : sumw wF (t.flaws[k] :: A) = t.flaws[k].merit.toNat + sumw wF A := rfl
  omega

theorem on_ex {t : Tour} (hv : Valid t) {k : Nat} (hk : k < t.flaws.length) : (∃ d ∈ adjT t k, onS t k d = meritS t) ∨ meritS (withoutS t [(k : Int)]) = meritS t := by
  obtain ⟨n, e0, o0⟩ := valid_optF hv
  obtain ⟨A, a1, a2, a3⟩ := o0.ex
  by_cases hf : t.flaws[k] ∈ A
  · left
    obtain ⟨M, hM⟩ := a1
    have hd : M t.flaws[k] ∈ adjT t k := (mem_adj_nat hk).2 (hM.ok _ hf)
    refine ⟨M t.flaws[k], hd, Int.le_antisymm (on_le hv hk hd) ?_⟩
    obtain ⟨x, e1, o1⟩ := valid_optF ((hv.without [(k : Int)]).close (day := M t.flaws[k]) (adj_days hv hk hd))
    have hp := List.perm_cons_erase hf
    have hs := sumw_perm (w := wF) hp
    have hin : ∀ x ∈ A.erase t.flaws[k], x ∈ A ∧ x ≠ t.flaws[k] := fun x hx => ⟨List.mem_of_mem_erase hx, fun e => by
      subst e
      exact absurd hx (hM.nd.not_mem_erase)⟩
    have := o1.le (A.erase t.flaws[k]) ⟨M, hM.nd.erase _, fun f hf' => by
      obtain ⟨h1, h2⟩ := hin f hf'
      have := hM.ok f h1
      refine ⟨this.1, this.2.1, fun hm => ?_⟩
      rcases mem_closedS.1 hm with e | hm
      · exact h2 (hM.inj f h1 _ hf e)
      · exact this.2.2 hm, fun f hf f' hf' e => hM.inj f (hin f hf).1 f' (hin f' hf').1 e⟩ (fun f hf' => by
      obtain ⟨h1, h2⟩ := hin f hf'
      obtain ⟨j, hj, rfl⟩ := List.mem_iff_getElem.1 (a2 f h1)
      refine mem_without.2 ⟨j, hj, fun hm => ?_, rfl⟩
      have : (j : Int) = k := by simpa using hm
      obtain rfl : j = k := by omega
      exact h2 rfl)
    have hm := hv.fm _ (List.getElem_mem hk)
    rw [onS, flawAt_nat hk, e0, e1]
    have e3 : sumw wF (t.flaws[k] :: A.erase t.flaws[k]) = t.flaws[k].merit.toNat + sumw wF (A.erase t.flaws[k]) := rfl
    omega
  · right
    obtain ⟨x, e1, o1⟩ := valid_optF (hv.without [(k : Int)])
    have h1 : x ≤ n := OptF.mono o1 o0 fun f hf => (without_subl t _).subset hf
    have h2 := o1.le A a1 (fun f hf' => by
      obtain ⟨j, hj, rfl⟩ := List.mem_iff_getElem.1 (a2 f hf')
      refine mem_without.2 ⟨j, hj, fun hm => ?_, rfl⟩
      have : (j : Int) = k := by simpa using hm
      obtain rfl : j = k := by omega
      exact hf hf')
    rw [e0, e1]; omega

theorem merit_none {t : Tour} (hv : Valid t) (h : t.flaws = []) : meritS t = 0 := by
  obtain ⟨n, e0, o0⟩ := valid_optF hv
  obtain ⟨A, a1, a2, a3⟩ := o0.ex
  have : A = [] := List.eq_nil_iff_forall_not_mem.2 fun x hx => by have := a2 x hx; rw [h] at this; simp at this
  subst this
  rw [e0, ← a3]; rfl

theorem first_facts {t : Tour} (hv : Valid t) (h : 0 < t.flaws.length) :
    (firstS t ∈ adjT t 0 ∧ 0 ≤ firstS t ∧ onS t 0 (firstS t) = meritS t) ∨ (firstS t = -1 ∧ meritS (withoutS t [0]) = meritS t) := by
  unfold firstS
  cases hf : (opens t.closed (flawAt t 0).lo (flawAt t 0).hi).find? fun d => decide (onS t 0 d = meritS t) with
  | some d =>
    left
    rw [Option.getD_some]
    have h1 := List.mem_of_find?_eq_some hf
    have h2 := List.find?_some hf
    have h3 : d ∈ adjT t (0 : Nat) := h1
    exact ⟨h1, (adj_days hv h h3).1, by simpa using h2⟩
  | none =>
    right
    rw [Option.getD_none]
    refine ⟨rfl, (on_ex hv h).resolve_left ?_⟩
    rintro ⟨d, hd, e⟩
    have := List.find?_eq_none.1 hf d hd
    exact this (by simpa using e)

theorem first_days (t : Tour) : firstS t = ((daysOfS t 0)[0]?).getD (-1) := by
  rw [firstS, daysOfS, ← List.head?_eq_getElem?, List.head?_filter]

def OnOk (c : List Int) (fs : List Flaw) (on : List Int) : Prop :=
  (∀ i (h : i < on.length) (h' : i < fs.length), on[i] = -1 ∨ (fs[i].lo ≤ on[i] ∧ on[i] ≤ fs[i].hi ∧ on[i] ∉ c)) ∧ on.Pairwise (fun a b => a = b → a = -1)

theorem OnOk.wrong {c : List Int} {fs : List Flaw} {on : List Int} (h : OnOk c fs on) (hl : on.length = fs.length) : wrongS c 0 fs on [] = -1 := by
  rw [wrongS_ok c 0 fs on [] hl]
  exact ⟨fun i h1 h2 => (h.1 i h1 h2).imp id fun ⟨a, b, c⟩ => ⟨a, b, c, by simp⟩, h.2⟩

theorem OnOk.cons {c c' : List Int} {f : Flaw} {fs : List Flaw} {d : Int} {on : List Int} (h : OnOk c' fs on) (hl : on.length = fs.length) (hd : d = -1 ∨ (adjF c f d ∧ d ∈ c')) (hc : ∀ x ∈ c, x ∈ c') : OnOk c (f :: fs) (d :: on) := by
  constructor
  · intro i h1 h2
    cases i with
    | zero => exact hd.imp id fun h => h.1
    | succ i =>
      have h1' : i < on.length := by simpa using h1
      rcases h.1 i h1' (by omega) with e | ⟨a, b, e⟩
      · exact .inl (by simpa using e)
      · exact .inr ⟨by simpa using a, by simpa using b, fun hm => e (hc _ (by simpa using hm))⟩
  · refine List.pairwise_cons.2 ⟨fun x hx e => ?_, h.2⟩
    rcases hd with h0 | ⟨_, h0⟩
    · exact h0
    · subst e
      obtain ⟨i, hi, rfl⟩ := List.mem_iff_getElem.1 hx
      rcases h.1 i hi (by omega) with e | ⟨_, _, e⟩
      · exact e
      · exact absurd h0 e

theorem earliest_facts : ∀ (n : Nat) (t : Tour), Valid t → t.flaws.length = n → (earliestF n t).length = n ∧ OnOk t.closed t.flaws (earliestF n t) ∧ worthS t.flaws (earliestF n t) = meritS t
  | 0, t, hv, h => by
    have h0 : t.flaws = [] := List.eq_nil_of_length_eq_zero h
    refine ⟨rfl, ⟨fun i h => by simp [earliestF] at h, by simp [earliestF]⟩, ?_⟩
    rw [merit_none hv h0, h0]; rfl
  | n + 1, t, hv, h => by
    have hw := without_zero t
    obtain ⟨f, fs, hfs⟩ : ∃ f fs, t.flaws = f :: fs := by
      cases hh : t.flaws with
      | nil => rw [hh] at h; simp at h
      | cons f fs => exact ⟨f, fs, rfl⟩
    have hd : (withoutS t [0]).flaws = fs := by rw [hw, hfs]; rfl
    have hlen : fs.length = n := by rw [hfs] at h; simpa using h
    have hv0 := hv.without [0]
    have hat : flawAt t 0 = f := by rw [flawAt, hfs]; rfl
    rcases first_facts hv (by omega) with ⟨h1, h2, h3⟩ | ⟨h1, h2⟩
    · have hdr := adj_days hv (k := 0) (by omega) h1
      have hn : nextT t = closedS (withoutS t [0]) (firstS t) := by rw [nextT, if_pos h2]
      have hvn := hv0.close (day := firstS t) hdr
      obtain ⟨i1, i2, i3⟩ := earliest_facts n (closedS (withoutS t [0]) (firstS t)) hvn (by show (withoutS t [0]).flaws.length = n; rw [hd]; exact hlen)
      have i2' : OnOk (closedS (withoutS t [0]) (firstS t)).closed fs (earliestF n (closedS (withoutS t [0]) (firstS t))) := by
        have : (closedS (withoutS t [0]) (firstS t)).flaws = fs := hd
        rw [this] at i2; exact i2
      have i3' : worthS fs (earliestF n (closedS (withoutS t [0]) (firstS t))) = meritS (closedS (withoutS t [0]) (firstS t)) := by
        have : (closedS (withoutS t [0]) (firstS t)).flaws = fs := hd
        rw [this] at i3; exact i3
      have ha := mem_adjT.1 h1
      rw [hat] at ha
      simp only [earliestF, hn]
      refine ⟨by simpa using i1, ?_, ?_⟩
      · rw [hfs]
        exact i2'.cons (by rw [i1, hlen]) (.inr ⟨ha, mem_closedS.2 (.inl rfl)⟩) fun x hx => mem_closedS.2 (.inr hx)
      · rw [hfs]
        show (if 0 ≤ firstS t then f.merit else 0) + _ = _
        rw [if_pos h2, i3', ← h3, onS, hat]
    · have hn : nextT t = withoutS t [0] := by rw [nextT, if_neg (by omega)]
      obtain ⟨i1, i2, i3⟩ := earliest_facts n (withoutS t [0]) hv0 (by rw [hd]; exact hlen)
      rw [hd] at i2 i3
      simp only [earliestF, hn, h1]
      refine ⟨by simpa using i1, ?_, ?_⟩
      · rw [hfs]
        exact i2.cons (by rw [i1, hlen]) (.inl rfl) fun x hx => hx
      · rw [hfs]
        show (if (0 : Int) ≤ -1 then f.merit else 0) + _ = _
        rw [if_neg (by decide), i3, h2]; omega

/-- One of its days alone is as good for a flaw. -/
theorem wider_day {t : Tour} (hv : Valid t) {k : Nat} (hk : k < t.flaws.length) {d : Int} (hd : d ∈ daysOfS t k) :
    widerE t t.flaws[k].id d d = 0 ∧ widerR t t.flaws[k].id d d = 0 := by
  obtain ⟨hda, hon⟩ := List.mem_filter.1 hd
  have hon : onS t k d = meritS t := by simpa using hon
  have hda : d ∈ adjT t k := hda
  have hdr := adj_days hv hk hda
  have hadj := (mem_adj_nat hk).1 hda
  have hf := findS_at hv.nd hk
  have ho : spanOk t.days d d = true := by simp [spanOk]; omega
  have e1 : widerE t t.flaws[k].id d d = 0 := by rw [widerE, if_pos (valid_chk hv), hf, if_neg (by omega), if_pos ho]
  have e2 : widerR t t.flaws[k].id d d = meritS (widerT t k d d) - meritS t := by rw [widerR, if_pos (valid_chk hv), hf, if_neg (by omega), if_pos ho]; rfl
  refine ⟨e1, ?_⟩
  obtain ⟨g, hgd⟩ : ∃ g : Flaw, g = { t.flaws[k] with lo := d, hi := d } := ⟨_, rfl⟩
  have hwf : (widerT t k d d).flaws = t.flaws.set k g := by rw [hgd, ← flawAt_nat hk]; rfl
  have hnd : ((widerT t k d d).flaws.map (·.id)).Nodup := by
    rw [hwf, List.map_set]
    have : (t.flaws.map (·.id)).set k g.id = t.flaws.map (·.id) := by
      have e : g.id = (t.flaws.map (·.id))[k]'(by simpa using hk) := by rw [hgd]; simp
      rw [e, List.set_getElem_self]
    rw [this]; exact hv.nd
  have hsw := small_wider hv.small hk (lo := d) (hi := d) ⟨hdr.1, hdr.2⟩
  obtain ⟨m, p3, p4⟩ := merit_optI hsw.dl hsw.dh hsw.sp (fun f hf => (hsw.me f hf).1)
  have o4 : OptF t.closed (t.flaws.set k g) m := by
    have := optF_of hnd p4
    rw [hwf] at this; exact this
  obtain ⟨n, e0, o0⟩ := valid_optF hv
  obtain ⟨x, e3, o1⟩ := valid_optF ((hv.without [(k : Int)]).close (day := d) hdr)
  have hm := hv.fm _ (List.getElem_mem hk)
  have hgm : g.merit = t.flaws[k].merit := by rw [hgd]
  have hgi : g.id = t.flaws[k].id := by rw [hgd]
  have hval : (n : Int) = t.flaws[k].merit + x := by
    rw [← e0, ← hon, onS, flawAt_nat hk, e3]
  have h1 : n ≤ m := by
    obtain ⟨A, a1, a2, a3⟩ := o1.ex
    have hg : g ∉ A := fun h => not_in_without hv.nd hk (a2 _ h) hgi
    have := o4.le (g :: A) (ind_cons a1 hg (by rw [hgd]; exact ⟨Int.le_refl _, Int.le_refl _, hadj.2.2⟩) fun x _ e he => closed_adj he rfl) (fun f hf => by
      rcases List.mem_cons.1 hf with rfl | hf
      · exact List.mem_set hk _
      · obtain ⟨j, hj, hjk, rfl⟩ := mem_without.1 (a2 f hf)
        have hne : k ≠ j := fun e => hjk (by rw [e]; simp)
        refine List.mem_iff_getElem.2 ⟨j, by simpa using hj, ?_⟩
        rw [List.getElem_set_ne hne])
    have e4 : sumw wF (g :: A) = g.merit.toNat + sumw wF A := rfl
    rw [hgm] at e4
    omega
  have h2 : m ≤ n := by
    obtain ⟨A, a1, a2, a3⟩ := o4.ex
    obtain ⟨back, hb⟩ : ∃ back : Flaw → Flaw, ∀ f, back f = if f = g then t.flaws[k] else f := ⟨_, fun _ => rfl⟩
    have hid : ∀ f ∈ A, (back f).id = f.id := fun f _ => by
      rw [hb]; split
      · next h => rw [h, hgi]
      · rfl
    have hmem : ∀ f ∈ A, back f ∈ t.flaws := fun f hf => by
      rw [hb]; split
      · exact List.getElem_mem hk
      · next h => exact (List.mem_or_eq_of_mem_set (a2 f hf)).resolve_right h
    have hidj : ∀ f ∈ A, ∀ f' ∈ A, f.id = f'.id → f = f' := by
      intro f hf f' hf' e
      obtain ⟨i, hi, rfl⟩ := List.mem_iff_getElem.1 (a2 f hf)
      obtain ⟨j, hj, rfl⟩ := List.mem_iff_getElem.1 (a2 f' hf')
      have q1 := findS_at (fl := t.flaws.set k g) (by rw [← hwf]; exact hnd) hi
      have q2 := findS_at (fl := t.flaws.set k g) (by rw [← hwf]; exact hnd) hj
      rw [e] at q1
      obtain rfl : i = j := by omega
      rfl
    have := o0.le (A.map back) (ind_map back a1 (fun f hf f' hf' e => hidj f hf f' hf' (by rw [← hid f hf, ← hid f' hf', e])) (fun f hf e he => by
      rw [hb]; split
      · next h =>
        rw [h, hgd] at he
        exact ⟨by have := hadj.1; have := he.1; have := he.2.1; simp only at *; omega, by have := hadj.2.1; have := he.1; have := he.2.1; simp only at *; omega, he.2.2⟩
      · exact he)) (fun f hf => by
      obtain ⟨f0, h0, rfl⟩ := List.mem_map.1 hf
      exact hmem f0 h0)
    rw [sumw_map, sumw_congr (v := wF) fun f hf => by
      rw [hb]; unfold wF; split
      · next h => rw [h, hgm]
      · rfl] at this
    omega
  rw [e2, p3, e0]
  omega

end Go.Proofs.Ytkoejelglinmnaa

/-
  The walk of the law MendDays: one of a flaw's days alone; the earliest days.
-/
namespace Go.Proofs.Ytkoejelglinmnaa
open Sg Mm
set_option maxRecDepth 100000

theorem days_law {t : Tour} (hv : Valid t) : (earliestR t).length = t.flaws.length ∧ fitsB t (earliestR t) = true ∧ fitsE t (earliestR t) = 0 ∧ worthS t.flaws (earliestR t) = meritS t ∧
    (t.flaws = [] → meritS t = 0) ∧ ∀ (h : 0 < t.flaws.length), ∃ r, earliestR t = ((daysOfS t 0)[0]?).getD (-1) :: r := by
  have hck := valid_chk hv
  have he : earliestR t = earliestF t.flaws.length t := by rw [earliestR, if_pos hck]
  obtain ⟨h1, h2, h3⟩ := earliest_facts t.flaws.length t hv rfl
  rw [← he] at h1 h2 h3
  refine ⟨h1, ?_, by rw [fitsE, if_pos hck, if_pos h1], h3, merit_none hv, fun h => ?_⟩
  · rw [fitsB, decide_eq_true_eq]
    exact ⟨hck, h1, by rw [h2.wrong h1]; decide⟩
  · obtain ⟨n, hn⟩ : ∃ n, t.flaws.length = n + 1 := ⟨t.flaws.length - 1, by omega⟩
    exact ⟨earliestF n (nextT t), by rw [he, hn, ← first_days]; rfl⟩

theorem days_id {t : Tour} (hv : Valid t) {k : Nat} (hk : k < t.flaws.length) : daysR t t.flaws[k].id = daysOfS t k ∧ idE t t.flaws[k].id = 0 := by
  have hck := valid_chk hv
  have hf := findS_at hv.nd hk
  exact ⟨by rw [daysR, if_pos hck, hf, if_neg (by omega)], by rw [idE, if_pos hck, hf, if_neg (by omega)]⟩

theorem days_len {t : Tour} (hv : Valid t) {k : Nat} (hk : k < t.flaws.length) : (daysOfS t k).length ≤ 60 := by
  have h1 : (daysOfS t k).length ≤ (opens t.closed (flawAt t k).lo (flawAt t k).hi).length := List.length_filter_le _ _
  have h2 := nodup_len (l1 := opens t.closed (flawAt t k).lo (flawAt t k).hi) (l2 := places 60) (opens_nodup _ _ _) fun d hd => by
    have := adj_days hv hk (d := d) hd
    have := hv.d2
    exact mem_places.2 (by omega)
  have h3 : (places 60).length = 60 := by simp [places]
  omega

theorem getD0 {l : List Int} (h : 0 < l.length) : (l[0]?).getD (-1) = l[0] := by rw [List.getElem?_eq_getElem h]; rfl

set_option maxHeartbeats 4000000 in
theorem mendDays_ok (w : World) (t : Tour) (ac af : Option Addr) (cc cf : Nat) (at' : Int) (h1 : 0 ≤ at' ∧ at' ≤ 255) (hC : IL w ac t.closed) (hF : FL w af t.flaws) :
    Ret Try.prog 7 #[.agg #[.int .i64 t.days, .slice ac t.closed.length cc, .slice af t.flaws.length cf], .int .u8 at'] w fun v w' => v = .bool true ∧ Chg [] w w' := by
  refine Ret.of_W (n := 171) Try.func7 rfl rfl (Nat.le_of_ble_eq_true rfl) ?_
  refine W.seq fun K hK => ?_
  refine W.region (by rfl) ?_
  refine Flow.box rfl (cs := [_, _, _]) rfl fun w1 c1 s1 b1 => ?_
  refine Flow.assignC ?_
  refine hK _ _ _ ?_
  clear hK K
  refine W.seq fun K hK => ?_
  refine W.region (by rfl) ?_
  refine Flow.call0 Tf.hb_8  ?_
  refine Ret.mono (head_ok _) ?_
  rintro _ w2 ⟨rfl, c2⟩
  refine Flow.assign (v := .bool _) rfl ?_
  refine hK _ _ _ ?_
  clear hK K
  have c12 := c1.then c2
  refine W.seq fun K2 hK2 => ?_
  refine W.seq fun K hK => ?_
  refine W.region (by rfl) ?_
  refine Flow.loadA Tf.ty_25 rfl rfl ((b1.chg c2 (by simp)).cells0) ?_
  refine Flow.call1 Tf.hb_9 (v1 := .agg _) rfl ?_
  refine Ret.mono (few_ok _ t ac af cc cf) ?_
  rintro _ w3 ⟨rfl, c3⟩
  have c13 := c12.then c3
  have b13 := b1.chg (c2.then c3) (by simp)
  cases hfew : fewB t with
  | false =>
    refine Flow.not rfl ?_
    refine Flow.move (v := .bool _) rfl ?_
    refine Flow.off (c := true) rfl rfl rfl ?_
    refine Flow.off (c := true) rfl rfl rfl ?_
    refine Flow.off (c := true) rfl rfl rfl ?_
    refine Flow.pickT rfl rfl ?_
    refine hK _ _ _ ?_
    clear hK K
    refine W.cond (t := true) rfl (fun _ => ?_) (fun h => by simp at h)
    refine W.seq fun K hK => ?_
    refine W.region (by rfl) ?_
    refine Flow.move (v := .bool _) rfl ?_
    refine Flow.assign (v := .bool _) rfl ?_
    refine hK _ _ _ ?_
    clear hK K
    exact W.ret ⟨_, res1 rfl (v := .bool _) rfl, rfl, c13⟩
  | true =>
  obtain ⟨hcl, hfl, hx8⟩ := few_facts hfew
  have hx : chk t = 0 → t.flaws.length < 20 := fun h => by have := hx8 h; omega
  refine Flow.not rfl ?_
  refine Flow.move (v := .bool _) rfl ?_
  refine Flow.on rfl rfl ?_
  refine Flow.fieldAddr Tf.fo_25_0 rfl ?_
  refine Flow.on rfl rfl ?_
  refine Flow.load1 Tf.ty_3 rfl (b13.cell 0) ?_
  refine Flow.on rfl rfl ?_
  refine Flow.gtr rfl rfl ?_
  refine Flow.pickF rfl rfl ?_
  refine hK _ _ _ ?_
  clear hK K
  refine W.cond rfl (fun h => ?_) (fun h => W.skip (hK2 _ _ _ ?_))
  · refine W.seq fun K hK => ?_
    refine W.region (by rfl) ?_
    refine Flow.move (v := .bool _) rfl ?_
    refine Flow.assign (v := .bool _) rfl ?_
    refine hK _ _ _ ?_
    clear hK K
    exact W.ret ⟨_, res1 rfl (v := .bool _) rfl, rfl, c13⟩
  clear h
  refine W.seq fun K hK => ?_
  refine W.region (by rfl) ?_
  refine Flow.loadA Tf.ty_25 rfl rfl (b13.cells0) ?_
  refine Flow.call1 Tf.hb_19 (v1 := .agg _) rfl ?_
  refine Ret.mono (Merit_ok _ t ac af cc cf (hC.ext c13) (hF.ext c13) hcl hfl hx) ?_
  rintro _ w4 ⟨rfl, c4⟩
  refine Flow.move (v := .tuple _) rfl ?_
  refine Flow.extract (v := .int _ _) rfl rfl ?_
  refine Flow.extract (v := .int _ _) rfl rfl ?_
  refine Flow.assign (v := .int _ _) rfl ?_
  refine Flow.assign (v := .int _ _) rfl ?_
  refine hK _ _ _ ?_
  clear hK K
  have c14 := c13.then c4
  have b14 := b13.chg c4 (by simp)
  refine W.seq fun K hK => ?_
  refine W.region (by rfl) ?_
  refine Flow.loadA Tf.ty_25 rfl rfl (b14.cells0) ?_
  refine Flow.call1 Tf.hb_21 (v1 := .agg _) rfl ?_
  refine Ret.mono (Earliest_ok _ t ac af cc cf (hC.ext c14) (hF.ext c14) hcl hfl hx) ?_
  rintro _ w5 ⟨c5, ae, ke, rfl, hm5⟩
  refine Flow.move (v := .tuple _) rfl ?_
  refine Flow.extract (v := .slice _ _ _) rfl rfl ?_
  refine Flow.extract (v := .int _ _) rfl rfl ?_
  refine Flow.assign (v := .slice _ _ _) rfl ?_
  refine Flow.assign (v := .int _ _) rfl ?_
  refine hK _ _ _ ?_
  clear hK K
  have c15 := c14.then c5
  have b15 := b14.chg c5 (by simp)
  refine W.seq fun K6 hK6 => ?_
  refine W.seq fun K hK => ?_
  refine W.region (by rfl) ?_
  refine Flow.move (v := .int _ _) rfl ?_
  refine Flow.move (v := .int _ _) rfl ?_
  refine Flow.neq rfl rfl ?_
  refine hK _ _ _ ?_
  clear hK K
  refine W.cond rfl (fun h => by simp at h) (fun _ => W.skip (hK6 _ _ _ ?_))
  refine W.seq fun K8 hK8 => ?_
  refine W.seq fun K hK => ?_
  refine W.region (by rfl) ?_
  refine Flow.move (v := .int _ _) rfl ?_
  refine Flow.neq rfl rfl ?_
  refine hK _ _ _ ?_
  clear hK K
  refine W.cond rfl (fun h => ?_) (fun h => W.skip (hK8 _ _ _ ?_))
  · refine W.seq fun K hK => ?_
    refine W.region (by rfl) ?_
    refine Flow.move (v := .bool _) rfl ?_
    refine Flow.assign (v := .bool _) rfl ?_
    refine hK _ _ _ ?_
    clear hK K
    exact W.ret ⟨_, res1 rfl (v := .bool _) rfl, rfl, c15⟩
  have hck : chk t = 0 := by simpa using h
  have hv := chk_valid hck
  have hs := hv.small
  obtain ⟨q1, q2, q3, q4, q5, q6⟩ := days_law hv
  have hmr : meritR t = meritS t := by rw [meritR, if_pos hck]
  rw [hck, hmr]
  have hI5 := hm5.il
  obtain ⟨L, hL⟩ : ∃ L, L = earliestR t := ⟨_, rfl⟩
  rw [← hL] at q1 q2 q3 q4 q6 hI5 ⊢
  clear hm5 hL h
  refine W.seq fun K hK => ?_
  refine W.region (by rfl) ?_
  refine Flow.loadA Tf.ty_25 rfl rfl (b15.cells0) ?_
  refine Flow.move (v := .slice _ _ _) rfl ?_
  refine Flow.call2 Tf.hb_22 (v1 := .agg _) rfl (v2 := .slice _ _ _) rfl ?_
  refine Ret.mono (fits_ok _ t ac af cc cf ae ke L (hC.ext c15) (hF.ext c15) hcl hfl hI5 (by omega)) ?_
  rintro _ w6 ⟨rfl, c6⟩
  refine Flow.move (v := .tuple _) rfl ?_
  refine Flow.extract (v := .int _ _) rfl rfl ?_
  refine Flow.extract (v := .bool _) rfl rfl ?_
  refine Flow.extract (v := .int _ _) rfl rfl ?_
  refine Flow.assign (v := .int _ _) rfl ?_
  refine Flow.assign (v := .bool _) rfl ?_
  refine Flow.assign (v := .int _ _) rfl ?_
  refine hK _ _ _ ?_
  clear hK K
  have c16 := c15.then c6
  have b16 := b15.chg c6 (by simp)
  rw [q2, q3]
  refine W.seq fun K11 hK11 => ?_
  refine W.seq fun K hK => ?_
  refine W.region (by rfl) ?_
  refine Flow.move (v := .int _ _) rfl ?_
  refine Flow.neqD (c := false) rfl rfl (decide_eq_false (by omega)) ?_
  refine Flow.move (v := .bool _) rfl ?_
  refine Flow.on rfl rfl ?_
  refine Flow.move (v := .bool _) rfl ?_
  refine Flow.on rfl rfl ?_
  refine Flow.not rfl ?_
  refine Flow.pickF rfl rfl ?_
  refine Flow.move (v := .bool _) rfl ?_
  refine Flow.on rfl rfl ?_
  refine Flow.loadA Tf.ty_25 rfl rfl (b16.cells0) ?_
  refine Flow.on rfl rfl ?_
  refine Flow.move (v := .slice _ _ _) rfl ?_
  refine Flow.on rfl rfl ?_
  refine Flow.call2 Tf.hb_23 (v1 := .agg _) rfl (v2 := .slice _ _ _) rfl ?_
  refine Ret.mono (worth_ok _ t ac af cc cf ae ke L (hF.ext c16) hs (hI5.ext c6) (by omega)) ?_
  rintro _ w7 ⟨rfl, c7⟩
  refine Flow.on rfl rfl ?_
  refine Flow.move (v := .int _ _) rfl ?_
  refine Flow.on rfl rfl ?_
  refine Flow.neqD (c := false) rfl rfl (decide_eq_false (by omega)) ?_
  refine Flow.pickF rfl rfl ?_
  refine hK _ _ _ ?_
  clear hK K
  refine W.cond (t := false) rfl (fun h => by simp at h) (fun _ => W.skip (hK11 _ _ _ ?_))
  have c17 := c16.then c7
  have b17 := b16.chg c7 (by simp)
  have hI7 := hI5.ext (c6.then c7)
  refine W.seq fun K13 hK13 => ?_
  refine W.seq fun K hK => ?_
  refine W.region (by rfl) ?_
  refine Flow.fieldAddr Tf.fo_25_2 rfl ?_
  refine Flow.load1 Tf.ty_23 rfl (b17.cell 2) ?_
  refine Flow.len rfl Tf.us_23 rfl rfl ?_
  refine Flow.eql rfl rfl ?_
  refine hK _ _ _ ?_
  clear hK K
  refine W.cond rfl (fun h => ?_) (fun h => W.skip (hK13 _ _ _ ?_))
  · have hn : t.flaws = [] := by
      have h0 : t.flaws.length = 0 := by simpa using h
      exact List.eq_nil_of_length_eq_zero h0
    rw [q5 hn]
    refine W.seq fun K hK => ?_
    refine W.region (by rfl) ?_
    refine Flow.move (v := .bool _) rfl ?_
    refine Flow.move (v := .bool _) rfl ?_
    refine Flow.on rfl rfl ?_
    refine Flow.move (v := .int _ _) rfl ?_
    refine Flow.on rfl rfl ?_
    refine Flow.eqlD (c := true) rfl rfl (decide_eq_true (by omega)) ?_
    refine Flow.pickT rfl rfl ?_
    refine Flow.assign (v := .bool _) rfl ?_
    refine hK _ _ _ ?_
    clear hK K
    exact W.ret ⟨_, res1 rfl (v := .bool _) rfl, rfl, c17⟩
  have hpos : 0 < t.flaws.length := by
    rcases Nat.eq_zero_or_pos t.flaws.length with h0 | h0
    · rw [h0] at h; simp at h
    · exact h0
  clear h hK2 K2 hK6 K6 hK8 K8 hK11 K11 hK13 K13 q2 q3 q4 q5
  obtain ⟨bf, of_, rfl, hflaw⟩ := (hF.ext c17).get hpos
  obtain ⟨r, hr⟩ := q6 hpos
  obtain ⟨d1, d2⟩ := days_id hv hpos
  rw [show ((0 : Nat) : Int) = 0 from rfl] at d1
  refine W.forget [(1, .int .u8 at'), (2, .pointer (some ⟨w.heap.size, 0, none⟩)), (5, .bool true), (8, .slice ae L.length ke)] ⟨rfl, rfl, rfl, rfl, trivial⟩ fun e => ?_
  refine W.seq fun K hK => ?_
  refine W.regionD [6] [] (by kernel_rfl) (by kernel_rfl) fun w8 c8 h8 => ?_
  refine FD.val (fun _ hw => Rn.loadA Tf.ty_25 rfl rfl ((b17.chg c8 (by simp)).cells0) (hw rfl rfl)) ?_
  refine FD.val (fun _ hw => Rn.fieldAddr Tf.fo_25_2 rfl) ?_
  refine FD.val (fun _ hw => Rn.load1 Tf.ty_23 rfl ((b17.chg c8 (by simp)).cell 2) (hw rfl rfl)) ?_
  refine FD.val (fun _ hw => Rn.indexAddr Tf.sl_23 rfl rfl (by omega) (by omega)) ?_
  refine FD.val (fun _ hw => Rn.fieldAddr Tf.fo_48_0 rfl) ?_
  refine FD.val (fun _ hw => Rn.load1 Tf.ty_3 rfl ((Cells.chg c8 (by simp) (hflaw 0 hpos)).1) (hw rfl rfl)) ?_
  refine FD.eff (by rfl) (Chg.refl _ _) ?_
  refine Flow.call2 Tf.hb_24 (v1 := .agg _) rfl (v2 := .int _ _) rfl ?_
  refine Ret.mono (Days_ok _ t ac _ cc cf t.flaws[0].id (hC.ext (c17.then c8)) (hF.ext (c17.then c8)) hcl hfl hx) ?_
  rintro _ w9 ⟨c9, ad, kd, rfl, hm9⟩
  refine Flow.nil ⟨c9, ?_⟩
  refine FD.val (fun _ hw => Rn.move (v := .tuple _) rfl) ?_
  refine FD.val (fun _ hw => Rn.extract (v := .slice _ _ _) rfl rfl) ?_
  refine FD.val (fun _ hw => Rn.extract (v := .int _ _) rfl rfl) ?_
  refine FD.val (fun _ hw => Rn.assign (v := .slice _ _ _) rfl) ?_
  refine FD.val (fun _ hw => Rn.assign (v := .int _ _) rfl) ?_
  refine FD.nil ?_
  refine hK _ _ _ ?_
  clear hK K
  have hI9 := hm9.il
  rw [d1] at hI9 ⊢
  rw [d2]
  have c79 := c8.then c9
  have c19 := c17.then c79
  have b19 := b17.chg c79 (by simp)
  have hL9 := hI7.ext c79
  obtain ⟨D, hD⟩ : ∃ D, D = daysOfS t 0 := ⟨_, rfl⟩
  rw [← hD] at hr hI9 ⊢
  have hlpos : 0 < L.length := by omega
  obtain ⟨bl, ol, rfl, hcL⟩ := hL9.get hlpos
  have hL0 : L[0] = (D[0]?).getD (-1) := by simp [hr]
  refine W.seq fun K16 hK16 => ?_
  have hgo : ∀ (e : Env) (w' : World), AllAt e [(1, .int .u8 at'), (2, .pointer (some ⟨w.heap.size, 0, none⟩)), (5, .bool true)] → Chg [] w9 w' → K16 [] e w' := by
    intro e w10 hE c10
    refine hK16 _ _ _ ?_
    obtain ⟨e, rfl⟩ : ∃ e0, e = putL e0 _ := ⟨e, putL_self hE⟩
    clear hE
    have c110 := c19.then c10
    have b110 := b19.chg c10 (by simp)
    refine W.seq fun K hK => ?_
    refine W.region (by rfl) ?_
    refine Flow.move (v := .int _ _) rfl ?_
    refine Flow.convert (s := 0) (z := undef) (k' := .i64) (by kernel_rfl) (by kernel_rfl) rfl (by rw [IntKind.wrap_i64]; omega) ?_
    refine Flow.fieldAddr Tf.fo_25_2 rfl ?_
    refine Flow.load1 Tf.ty_23 rfl (b110.cell 2) ?_
    refine Flow.len rfl Tf.us_23 rfl rfl ?_
    refine Flow.rem rfl rfl (by omega) ?_
    refine Flow.assign (v := .int _ _) rfl ?_
    refine hK _ _ _ ?_
    clear hK K
    obtain ⟨k, hk, hkl⟩ : ∃ k : Nat, at'.tmod (t.flaws.length : Int) = (k : Int) ∧ k < t.flaws.length := by
      obtain ⟨n, rfl⟩ := Int.eq_ofNat_of_zero_le h1.1
      exact ⟨n % t.flaws.length, rfl, Nat.mod_lt _ (by omega)⟩
    rw [hk]
    obtain ⟨d3, d4⟩ := days_id hv hkl
    have hfl10 := Cells.chg (c79.then c10) (by simp) (hflaw k hkl)
    refine W.seq fun K hK => ?_
    refine W.regionD [7] [] (by kernel_rfl) (by kernel_rfl) fun w11 c11 h11 => ?_
    refine FD.val (fun _ hw => Rn.loadA Tf.ty_25 rfl rfl ((b110.chg c11 (by simp)).cells0) (hw rfl rfl)) ?_
    refine FD.val (fun _ hw => Rn.fieldAddr Tf.fo_25_2 rfl) ?_
    refine FD.val (fun _ hw => Rn.load1 Tf.ty_23 rfl ((b110.chg c11 (by simp)).cell 2) (hw rfl rfl)) ?_
    refine FD.val (fun _ hw => Rn.move (v := .int _ _) rfl) ?_
    refine FD.val (fun _ hw => Rn.indexAddr Tf.sl_23 rfl rfl (by omega) (by omega)) ?_
    refine FD.val (fun _ hw => Rn.fieldAddr Tf.fo_48_0 rfl) ?_
    refine FD.val (fun _ hw => Rn.load1 Tf.ty_3 rfl ((Cells.chg c11 (by simp) hfl10).1) (hw rfl rfl)) ?_
    refine FD.eff (by rfl) (Chg.refl _ _) ?_
    refine Flow.call2 Tf.hb_24 (v1 := .agg _) rfl (v2 := .int _ _) rfl ?_
    refine Ret.mono (Days_ok _ t ac _ cc cf t.flaws[k].id (hC.ext (c110.then c11)) (hF.ext (c110.then c11)) hcl hfl hx) ?_
    rintro _ w12 ⟨c12', ao, ko, rfl, hm12⟩
    refine Flow.nil ⟨c12', ?_⟩
    refine FD.val (fun _ hw => Rn.move (v := .tuple _) rfl) ?_
    refine FD.val (fun _ hw => Rn.extract (v := .slice _ _ _) rfl rfl) ?_
    refine FD.val (fun _ hw => Rn.extract (v := .int _ _) rfl rfl) ?_
    refine FD.val (fun _ hw => Rn.assign (v := .slice _ _ _) rfl) ?_
    refine FD.val (fun _ hw => Rn.assign (v := .int _ _) rfl) ?_
    refine FD.nil ?_
    refine hK _ _ _ ?_
    clear hK K
    have hO12 := hm12.il
    rw [d3] at hO12 ⊢
    rw [d4]
    have c1012 := c11.then c12'
    have c112 := c110.then c1012
    have b112 := b110.chg c1012 (by simp)
    have hfl12 := Cells.chg c1012 (by simp) hfl10
    obtain ⟨O, hO⟩ : ∃ O, O = daysOfS t k := ⟨_, rfl⟩
    have hOw : ∀ j (h : j < O.length), widerE t t.flaws[k].id O[j] O[j] = 0 ∧ widerR t t.flaws[k].id O[j] O[j] = 0 := fun j h => wider_day hv hkl (by rw [← hO]; exact List.getElem_mem h)
    have hOl := days_len hv hkl
    rw [← hO] at hO12 hOl ⊢
    refine W.forget [(2, .pointer (some ⟨w.heap.size, 0, none⟩)), (5, .bool true), (15, .int .i64 k), (16, .slice ao O.length ko), (17, .int .i64 0)] ⟨rfl, rfl, rfl, rfl, rfl, trivial⟩ fun e => ?_
    refine W.seq fun K20 hK20 => ?_
    refine W.seq fun K hK => ?_
    refine W.region (by rfl) ?_
    refine Flow.assignC ?_
    refine hK _ _ _ ?_
    clear hK K
    refine W.block ?_
    refine W.loop (ι := Nat) (fun j ds e w' => ds = [] ∧ j ≤ O.length ∧ AllAt e [(2, .pointer (some ⟨w.heap.size, 0, none⟩)), (5, .bool true), (15, .int .i64 k), (16, .slice ao O.length ko), (17, .int .i64 0), (18, .int .i64 j)] ∧ Chg [] w12 w') (fun j => O.length - j) (i0 := 0) ⟨rfl, by omega, ⟨rfl, rfl, rfl, rfl, rfl, rfl, trivial⟩, Chg.refl _ _⟩ ?_
    rintro j ds e w13 ⟨rfl, hj, hE, hc⟩
    obtain ⟨e, rfl⟩ : ∃ e0, e = putL e0 _ := ⟨e, putL_self hE⟩
    clear hE
    refine W.seq fun K21 hK21 => ?_
    by_cases hjl : (j : Int) < O.length
    · have hjl' : j < O.length := by omega
      refine W.seq fun K hK => ?_
      refine W.region (by rfl) ?_
      refine Flow.move (v := .int _ _) rfl ?_
      refine Flow.move (v := .slice _ _ _) rfl ?_
      refine Flow.len rfl Tf.us_22 rfl rfl ?_
      refine Flow.lssD (c := true) rfl rfl (decide_eq_true (by omega)) ?_
      refine Flow.move (v := .bool _) rfl ?_
      refine Flow.on rfl rfl ?_
      refine Flow.move (v := .int _ _) rfl ?_
      refine Flow.on rfl rfl ?_
      refine Flow.eqlD (c := true) rfl rfl (decide_eq_true (by omega)) ?_
      refine Flow.pickT rfl rfl ?_
      refine hK _ _ _ ?_
      clear hK K
      refine W.cond (t := true) rfl (fun _ => W.skip (hK21 _ _ _ ?_)) (fun h => by simp at h)
      obtain ⟨bo, oo, rfl, hcO⟩ := (hO12.ext hc).get hjl'
      have b113 := b112.chg hc (by simp)
      have hfl13 := Cells.chg hc (by simp) hfl12
      obtain ⟨x1, x2⟩ := hOw j hjl'
      refine W.seq fun K22 hK22 => ?_
      refine W.block ?_
      refine W.seq fun K hK => ?_
      refine W.regionD [16] [] (by kernel_rfl) (by kernel_rfl) fun w14 c14' h14 => ?_
      refine FD.val (fun _ hw => Rn.loadA Tf.ty_25 rfl rfl ((b113.chg c14' (by simp)).cells0) (hw rfl rfl)) ?_
      refine FD.val (fun _ hw => Rn.fieldAddr Tf.fo_25_2 rfl) ?_
      refine FD.val (fun _ hw => Rn.load1 Tf.ty_23 rfl ((b113.chg c14' (by simp)).cell 2) (hw rfl rfl)) ?_
      refine FD.val (fun _ hw => Rn.move (v := .int _ _) rfl) ?_
      refine FD.val (fun _ hw => Rn.indexAddr Tf.sl_23 rfl rfl (by omega) (by omega)) ?_
      refine FD.val (fun _ hw => Rn.fieldAddr Tf.fo_48_0 rfl) ?_
      refine FD.val (fun _ hw => Rn.load1 Tf.ty_3 rfl ((Cells.chg c14' (by simp) hfl13).1) (hw rfl rfl)) ?_
      refine FD.val (fun _ hw => Rn.move (v := .slice _ _ _) rfl) ?_
      refine FD.val (fun _ hw => Rn.move (v := .int _ _) rfl) ?_
      refine FD.val (fun _ hw => Rn.indexAddr1 Tf.sl_22 rfl rfl (by omega) (by omega)) ?_
      refine FD.val (fun _ hw => Rn.load1 Tf.ty_3 rfl (cell_chg (hcO j hjl') c14' (by simp)) (hw rfl rfl)) ?_
      refine FD.val (fun _ hw => Rn.move (v := .slice _ _ _) rfl) ?_
      refine FD.val (fun _ hw => Rn.move (v := .int _ _) rfl) ?_
      refine FD.val (fun _ hw => Rn.indexAddr1 Tf.sl_22 rfl rfl (by omega) (by omega)) ?_
      refine FD.val (fun _ hw => Rn.load1 Tf.ty_3 rfl (cell_chg (hcO j hjl') c14' (by simp)) (hw rfl rfl)) ?_
      refine FD.val (fun _ hw => Rn.buildL Tf.ty_46 Tf.pl_46 (l := [(_, _), (_, _)]) (zs := [_, _]) (cs := [_, _]) rfl rfl rfl) ?_
      refine FD.eff (by rfl) (Chg.refl _ _) ?_
      refine Flow.call3 Tf.hb_17 (v1 := .agg _) rfl (v2 := .int _ _) rfl (v3 := .agg _) rfl ?_
      refine Ret.mono (Wider_ok _ t ac _ cc cf t.flaws[k].id O[j] O[j] (hC.ext ((c112.then hc).then c14')) (hF.ext ((c112.then hc).then c14')) hcl hfl hx) ?_
      rintro _ w15 ⟨rfl, c15'⟩
      refine Flow.nil ⟨c15', ?_⟩
      refine FD.val (fun _ hw => Rn.move (v := .tuple _) rfl) ?_
      refine FD.val (fun _ hw => Rn.extract (v := .int _ _) rfl rfl) ?_
      refine FD.val (fun _ hw => Rn.extract (v := .int _ _) rfl rfl) ?_
      refine FD.val (fun _ hw => Rn.assign (v := .int _ _) rfl) ?_
      refine FD.val (fun _ hw => Rn.assign (v := .int _ _) rfl) ?_
      refine FD.nil ?_
      refine hK _ _ _ ?_
      clear hK K
      rw [x1, x2]
      refine W.seq fun K hK => ?_
      refine W.region (by rfl) ?_
      refine Flow.move (v := .int _ _) rfl ?_
      refine Flow.neqD (c := false) rfl rfl (decide_eq_false (by omega)) ?_
      refine Flow.move (v := .bool _) rfl ?_
      refine Flow.on rfl rfl ?_
      refine Flow.move (v := .int _ _) rfl ?_
      refine Flow.on rfl rfl ?_
      refine Flow.neqD (c := false) rfl rfl (decide_eq_false (by omega)) ?_
      refine Flow.pickF rfl rfl ?_
      refine hK _ _ _ ?_
      clear hK K
      refine W.cond (t := false) rfl (fun h => by simp at h) (fun _ => W.skip (hK22 _ _ _ ?_))
      refine W.region (by rfl) ?_
      refine Flow.move (v := .int _ _) rfl ?_
      refine Flow.add rfl rfl (by omega) (by omega) ?_
      refine Flow.assign (v := .int _ _) rfl ?_
      exact Flow.nil ⟨j + 1, by omega, rfl, by omega, ⟨rfl, rfl, rfl, rfl, rfl, rfl, trivial⟩, hc.then (c14'.then c15')⟩
    · refine W.seq fun K hK => ?_
      refine W.region (by rfl) ?_
      refine Flow.move (v := .int _ _) rfl ?_
      refine Flow.move (v := .slice _ _ _) rfl ?_
      refine Flow.len rfl Tf.us_22 rfl rfl ?_
      refine Flow.lssD (c := false) rfl rfl (decide_eq_false (by omega)) ?_
      refine Flow.move (v := .bool _) rfl ?_
      refine Flow.off (c := false) rfl rfl rfl ?_
      refine Flow.off (c := false) rfl rfl rfl ?_
      refine Flow.pickF rfl rfl ?_
      refine hK _ _ _ ?_
      clear hK K
      refine W.cond (t := false) rfl (fun h => by simp at h) (fun _ => W.exit ?_)
      refine hK20 _ _ _ ?_
      refine W.seq fun K hK => ?_
      refine W.region (by rfl) ?_
      refine Flow.move (v := .bool _) rfl ?_
      refine Flow.move (v := .bool _) rfl ?_
      refine Flow.on rfl rfl ?_
      refine Flow.move (v := .int _ _) rfl ?_
      refine Flow.on rfl rfl ?_
      refine Flow.eqlD (c := true) rfl rfl (decide_eq_true (by omega)) ?_
      refine Flow.pickT rfl rfl ?_
      refine Flow.assign (v := .bool _) rfl ?_
      refine hK _ _ _ ?_
      clear hK K
      exact W.ret ⟨_, res1 rfl (v := .bool _) rfl, rfl, c112.then hc⟩
  by_cases hdp : (D.length : Int) > 0
  · have hdp' : 0 < D.length := by omega
    rw [getD0 hdp'] at hL0
    obtain ⟨bd, od, rfl, hcD⟩ := hI9.get hdp'
    refine W.seq fun K hK => ?_
    refine W.regionD [] [] (by kernel_rfl) (by kernel_rfl) fun w10 c10 h10 => ?_
    refine FD.val (fun _ hw => Rn.move (v := .int _ _) rfl) ?_
    refine FD.val (fun _ hw => Rn.neqD (c := false) rfl rfl (decide_eq_false (by omega))) ?_
    refine FD.val (fun _ hw => Rn.move (v := .bool _) rfl) ?_
    refine FD.on rfl rfl ?_
    refine FD.val (fun _ hw => Rn.move (v := .slice _ _ _) rfl) ?_
    refine FD.on rfl rfl ?_
    refine FD.val (fun _ hw => Rn.len rfl Tf.us_22 rfl rfl) ?_
    refine FD.on rfl rfl ?_
    refine FD.val (fun _ hw => Rn.gtrD (c := true) rfl rfl (decide_eq_true (by omega))) ?_
    refine FD.on rfl rfl ?_
    refine FD.val (fun _ hw => Rn.move (v := .bool _) rfl) ?_
    refine FD.on rfl rfl ?_
    refine FD.val (fun _ hw => Rn.move (v := .slice _ _ _) rfl) ?_
    refine FD.on rfl rfl ?_
    refine FD.val (fun _ hw => Rn.indexAddr1 Tf.sl_22 rfl rfl (by omega) (by omega)) ?_
    refine FD.on rfl rfl ?_
    refine FD.val (fun _ hw => Rn.load1 Tf.ty_3 rfl (cell_chg (hcL 0 hlpos) c10 (by simp)) (hw rfl rfl)) ?_
    refine FD.on rfl rfl ?_
    refine FD.val (fun _ hw => Rn.move (v := .slice _ _ _) rfl) ?_
    refine FD.on rfl rfl ?_
    refine FD.val (fun _ hw => Rn.indexAddr1 Tf.sl_22 rfl rfl (by omega) (by omega)) ?_
    refine FD.on rfl rfl ?_
    refine FD.val (fun _ hw => Rn.load1 Tf.ty_3 rfl (cell_chg (hcD 0 hdp') c10 (by simp)) (hw rfl rfl)) ?_
    refine FD.on rfl rfl ?_
    refine FD.val (fun _ hw => Rn.neqD (c := false) rfl rfl (decide_eq_false (by omega))) ?_
    refine FD.on rfl rfl ?_
    refine FD.val (fun _ hw => Rn.pickT rfl rfl) ?_
    refine FD.val (fun _ hw => Rn.pickF rfl rfl) ?_
    refine FD.val (fun _ hw => Rn.move (v := .bool _) rfl) ?_
    refine FD.on rfl rfl ?_
    refine FD.val (fun _ hw => Rn.move (v := .slice _ _ _) rfl) ?_
    refine FD.on rfl rfl ?_
    refine FD.val (fun _ hw => Rn.len rfl Tf.us_22 rfl rfl) ?_
    refine FD.on rfl rfl ?_
    refine FD.val (fun _ hw => Rn.eqlD (c := false) rfl rfl (decide_eq_false (by omega))) ?_
    refine FD.on rfl rfl ?_
    refine FD.val (fun _ hw => Rn.move (v := .bool _) rfl) ?_
    refine FD.off (c := false) rfl rfl rfl ?_
    refine FD.off (c := false) rfl rfl rfl ?_
    refine FD.off (c := false) rfl rfl rfl ?_
    refine FD.off (c := false) rfl rfl rfl ?_
    refine FD.on rfl rfl ?_
    refine FD.val (fun _ hw => Rn.pickF rfl rfl) ?_
    refine FD.val (fun _ hw => Rn.pickF rfl rfl) ?_
    refine FD.nil ?_
    refine hK _ _ _ ?_
    clear hK K
    refine W.cond (t := false) rfl (fun h => by simp at h) (fun _ => W.skip (hgo _ _ ⟨rfl, rfl, rfl, trivial⟩ c10))
  · have hd0 : D = [] := List.eq_nil_of_length_eq_zero (by omega)
    have hL1 : L[0] = -1 := by rw [hL0, hd0]; rfl
    refine W.seq fun K hK => ?_
    refine W.regionD [] [] (by kernel_rfl) (by kernel_rfl) fun w10 c10 h10 => ?_
    refine FD.val (fun _ hw => Rn.move (v := .int _ _) rfl) ?_
    refine FD.val (fun _ hw => Rn.neqD (c := false) rfl rfl (decide_eq_false (by omega))) ?_
    refine FD.val (fun _ hw => Rn.move (v := .bool _) rfl) ?_
    refine FD.on rfl rfl ?_
    refine FD.val (fun _ hw => Rn.move (v := .slice _ _ _) rfl) ?_
    refine FD.on rfl rfl ?_
    refine FD.val (fun _ hw => Rn.len rfl Tf.us_22 rfl rfl) ?_
    refine FD.on rfl rfl ?_
    refine FD.val (fun _ hw => Rn.gtrD (c := false) rfl rfl (decide_eq_false (by omega))) ?_
    refine FD.on rfl rfl ?_
    refine FD.val (fun _ hw => Rn.move (v := .bool _) rfl) ?_
    refine FD.off (c := false) rfl rfl rfl ?_
    refine FD.off (c := false) rfl rfl rfl ?_
    refine FD.off (c := false) rfl rfl rfl ?_
    refine FD.off (c := false) rfl rfl rfl ?_
    refine FD.off (c := false) rfl rfl rfl ?_
    refine FD.off (c := false) rfl rfl rfl ?_
    refine FD.off (c := false) rfl rfl rfl ?_
    refine FD.on rfl rfl ?_
    refine FD.val (fun _ hw => Rn.pickF rfl rfl) ?_
    refine FD.val (fun _ hw => Rn.pickF rfl rfl) ?_
    refine FD.val (fun _ hw => Rn.move (v := .bool _) rfl) ?_
    refine FD.on rfl rfl ?_
    refine FD.val (fun _ hw => Rn.move (v := .slice _ _ _) rfl) ?_
    refine FD.on rfl rfl ?_
    refine FD.val (fun _ hw => Rn.len rfl Tf.us_22 rfl rfl) ?_
    refine FD.on rfl rfl ?_
    refine FD.val (fun _ hw => Rn.eqlD (c := true) rfl rfl (decide_eq_true (by omega))) ?_
    refine FD.on rfl rfl ?_
    refine FD.val (fun _ hw => Rn.move (v := .bool _) rfl) ?_
    refine FD.on rfl rfl ?_
    refine FD.val (fun _ hw => Rn.move (v := .slice _ _ _) rfl) ?_
    refine FD.on rfl rfl ?_
    refine FD.val (fun _ hw => Rn.indexAddr1 Tf.sl_22 rfl rfl (by omega) (by omega)) ?_
    refine FD.on rfl rfl ?_
    refine FD.val (fun _ hw => Rn.load1 Tf.ty_3 rfl (cell_chg (hcL 0 hlpos) c10 (by simp)) (hw rfl rfl)) ?_
    refine FD.on rfl rfl ?_
    refine FD.val (fun _ hw => Rn.neqD (c := false) rfl rfl (decide_eq_false (by omega))) ?_
    refine FD.on rfl rfl ?_
    refine FD.val (fun _ hw => Rn.pickT rfl rfl) ?_
    refine FD.val (fun _ hw => Rn.pickF rfl rfl) ?_
    refine FD.nil ?_
    refine hK _ _ _ ?_
    clear hK K
    refine W.cond (t := false) rfl (fun h => by simp at h) (fun _ => W.skip (hgo _ _ ⟨rfl, rfl, rfl, trivial⟩ c10))

end Go.Proofs.Ytkoejelglinmnaa

namespace Go.Proofs.Ytkoejelglinmnaa.mendDaysClaim
open Sg Go.ChangeShapes Go.WideShapes Go.ChangeAt Go.RowKit Go.Joins Go.Deep
set_option linter.unusedVariables false

set_option maxRecDepth 100000 in
theorem lifted (os : Os) (started : os.Started) (H : Type) (enc : TypeId × Value → H) :
    ReturnsInHanded {} Try.checked os 7 .any (Rows.mendDaysSpec.pre6 enc Try.prog Try.f7 Rows.mendDaysRow.domain false) (Rows.mendDaysSpec.post enc Try.prog Try.f7 false true false false) := by
  refine returnsInHanded_of_change (C := Try.checked) own started (by kernel_rfl) Try.func7
    (ChangeSpec.witness6 (enc := enc) (C := Try.checked) false ⟨#[], #[.agg #[.int .i64 0, .slice none 0 0, .slice none 0 0], .int .u8 0], []⟩ 8 (by kernel_rfl) (by kernel_rfl) (by kernel_rfl) (by kernel_rfl)) ?_
  intro W base args ds gs before hval0 hW hcnd _
  have hval : ∀ (j : Nat) t v, Try.f7.params[j]? = some t → args[j]? = some v → Value.okWide Try.prog W .any base t v := hval0
  have hW' := hW
  obtain ⟨p, q, hA0, hV, rfl, hfz, hnd⟩ := hW
  have hA : DataW.TrodAll enc Try.prog W 0 (fun _ => true) true Try.f7.params.toList args.toList ds p := hA0
  rw [Try.params7] at hA hval
  obtain ⟨v0, vs0, d0, ds0, p0, q0, hargs, rfl, rfl, h0, r0⟩ := trodAll_cons hA
  obtain ⟨v1, vs1, d1, ds1, p1, q1, rfl, rfl, rfl, h1, r1⟩ := trodAll_cons r0
  obtain ⟨rfl, rfl, rfl⟩ := trodAll_nil r1
  obtain rfl : args = #[v0, v1] := by cases args; simp_all
  obtain ⟨rfl, rfl⟩ := trodVars_none hV
  have k0 := h0
  have lt0 : ∀ x ∈ p0, x.block < W.heap.size := by obtain ⟨m, hm⟩ := k0; exact DataW.trod_lt m _ _ _ hm
  obtain ⟨t0, ac0, af0, cc0, cf0, rfl, hC0, hF0⟩ := read_tour (hval 0 _ v0 rfl rfl) h0
  obtain ⟨a1, rfl, rfl, rfl, w1⟩ := open_int u_u8 (hval 1 _ v1 rfl rfl) h1
  clear hA0 hval0
  refine Calls.mono (mendDays_ok W t0 ac0 af0 cc0 cf0 a1 (bounds_u8 w1) hC0 hF0) ?_
  rintro e W' ⟨v, rfl, rfl, hc⟩
  have bel := chg_below hc
  exact ⟨_, rfl, _, _, _, [], _, [], hW', trodAll_mk1 (shut_bool u_bool _), (trodAll_cons_mk (Below.trod laidOut (by kernel_rfl) (of_decide_eq_true (by kernel_rfl)) k0 bel lt0) (trodAll_cons_mk (shut_int u_u8 w1) trodAll_mk0)), rfl, bel.frame _, fun h => by cases h⟩

theorem over : Rows.mendDaysRow.holds Try.pinned (OpenSpec.ofChange Rows.mendDaysSpec) :=
  OpenClaim.holds_of_wide 7 Try.f7 rfl rfl rfl rfl rfl rfl rfl ⟨rfl, rfl, rfl, rfl, rfl⟩ rfl rfl rfl rfl rfl (by kernel_rfl) Try.func7 (by kernel_rfl)
    (of_decide_eq_true (by kernel_rfl)) (by unfold Func.isWrapper; first | (rw [if_pos (by decide +kernel)]; kernel_rfl) | (rw [if_neg (by decide +kernel)]; exact ⟨rfl, rfl⟩))
    (fun os started H enc _ => lifted os started H enc)

theorem proved : Rows.MendDaysSaid := over
#print axioms proved

end Go.Proofs.Ytkoejelglinmnaa.mendDaysClaim
