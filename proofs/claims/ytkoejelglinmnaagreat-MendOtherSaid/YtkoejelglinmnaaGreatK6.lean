/-
  Plain combinatorics: matchings of flaws with days (no program in sight).
-/
import Derived.Test.YtkoejelglinmnaaGreatK2
import Derived.Test.YtkoejelglinmnaaGreatK5
set_option linter.unusedSimpArgs false
set_option linter.unusedVariables false
namespace Go.Proofs.YtkoejelglinmnaaGreat
namespace Mm

theorem nodup_len {α : Type} [DecidableEq α] : ∀ {l1 l2 : List α}, l1.Nodup → (∀ x ∈ l1, x ∈ l2) → l1.length ≤ l2.length := by
  intro l1
  induction l1 with
  | nil => intro l2 _ _; simp
  | cons a l ih =>
    intro l2 hn hs
    have ha : a ∈ l2 := hs a (by simp)
    have hn' := List.nodup_cons.1 hn
    have h := ih (l2 := l2.erase a) hn'.2 (fun x hx => by
      have hx2 := hs x (List.mem_cons_of_mem _ hx)
      have hne : x ≠ a := fun e => hn'.1 (e ▸ hx)
      exact (List.mem_erase_of_ne hne).2 hx2)
    have he := List.length_erase_of_mem ha
    have hp : 0 < l2.length := List.length_pos_of_mem ha
    simp only [List.length_cons]
    omega

theorem nodup_map {α β : Type} {f : α → β} : ∀ {l : List α}, l.Nodup → (∀ x ∈ l, ∀ y ∈ l, f x = f y → x = y) → (l.map f).Nodup := by
  intro l
  induction l with
  | nil => intro _ _; simp
  | cons a l ih =>
    intro hn hi
    have hn' := List.nodup_cons.1 hn
    rw [List.map_cons, List.nodup_cons]
    refine ⟨fun hm => ?_, ih hn'.2 (fun x hx y hy => hi x (List.mem_cons_of_mem _ hx) y (List.mem_cons_of_mem _ hy))⟩
    obtain ⟨x, hx, he⟩ := List.mem_map.1 hm
    have := hi x (List.mem_cons_of_mem _ hx) a (by simp) he
    exact hn'.1 (this ▸ hx)

theorem len_filter_add {α : Type} (p : α → Bool) (l : List α) : (l.filter p).length + (l.filter (fun x => !p x)).length = l.length := by
  induction l with
  | nil => simp
  | cons a l ih => cases h : p a <;> simp [h] <;> omega

variable {F D : Type}

/-- A matching M of the flaws A: each has a day that it may have, no two the same. -/
structure Mat (adj : F → D → Prop) (A : List F) (M : F → D) : Prop where
  nd : A.Nodup
  ok : ∀ l ∈ A, adj l (M l)
  inj : ∀ l ∈ A, ∀ l' ∈ A, M l = M l' → l = l'

def Ind (adj : F → D → Prop) (A : List F) : Prop := ∃ M, Mat adj A M

/-- Days T that are all had by flaws that can have no other days. -/
def Tight (adj : F → D → Prop) (A : List F) (M : F → D) (T : D → Prop) : Prop :=
  ∀ d, T d → ∃ j ∈ A, M j = d ∧ ∀ e, adj j e → T e

theorem Mat.sub {adj : F → D → Prop} {A B : List F} {M : F → D} (h : Mat adj A M) (hB : B.Nodup) (hs : ∀ x ∈ B, x ∈ A) : Mat adj B M :=
  ⟨hB, fun l hl => h.ok l (hs l hl), fun l hl l' hl' => h.inj l (hs l hl) l' (hs l' hl')⟩

theorem Ind.sub {adj : F → D → Prop} {A B : List F} (h : Ind adj A) (hB : B.Nodup) (hs : ∀ x ∈ B, x ∈ A) : Ind adj B :=
  let ⟨M, hM⟩ := h; ⟨M, hM.sub hB hs⟩

theorem Tight.adj_of {adj : F → D → Prop} {A : List F} {M : F → D} {T : D → Prop} (h : Tight adj A M T) (hM : Mat adj A M)
    {j : F} (hj : j ∈ A) (ht : T (M j)) : ∀ e, adj j e → T e := by
  obtain ⟨j', hj', he, ha⟩ := h _ ht
  have := hM.inj j' hj' j hj he
  exact this ▸ ha

/-- What flaws are worth together. -/
def sumw (w : F → Nat) : List F → Nat
  | [] => 0
  | l :: r => w l + sumw w r

theorem sumw_le {w v : F → Nat} : ∀ {l : List F}, (∀ x ∈ l, w x ≤ v x) → sumw w l ≤ sumw v l := by
  intro l
  induction l with
  | nil => intro _; simp [sumw]
  | cons a l ih =>
    intro h
    have h1 := h a (by simp)
    have h2 := ih (fun x hx => h x (List.mem_cons_of_mem _ hx))
    simp only [sumw]; omega

theorem sumw_congr {w v : F → Nat} {l : List F} (h : ∀ x ∈ l, w x = v x) : sumw w l = sumw v l :=
  Nat.le_antisymm (sumw_le fun x hx => Nat.le_of_eq (h x hx)) (sumw_le fun x hx => Nat.le_of_eq (h x hx).symm)

theorem sumw_append {w : F → Nat} (a b : List F) : sumw w (a ++ b) = sumw w a + sumw w b := by
  induction a with
  | nil => simp [sumw]
  | cons x a ih => simp only [List.cons_append, sumw, ih]; omega

theorem sumw_perm {w : F → Nat} {a b : List F} (h : a.Perm b) : sumw w a = sumw w b := by
  induction h with
  | nil => rfl
  | cons x _ ih => simp [sumw, ih]
  | swap x y l => simp only [sumw]; omega
  | trans _ _ h1 h2 => exact h1.trans h2

theorem sumw_min (w : F → Nat) (c : Nat) (l : List F) :
    sumw (fun x => min (w x) (c + 1)) l = sumw (fun x => min (w x) c) l + (l.filter (fun x => decide (c + 1 ≤ w x))).length := by
  induction l with
  | nil => rfl
  | cons a l ih =>
    simp only [sumw, ih, List.filter_cons]
    by_cases h : c + 1 ≤ w a
    · simp [h]; omega
    · simp [h]; omega

/-- If of each worth no fewer flaws of A are worth it than of S, then S is worth no more. -/
theorem layers {w : F → Nat} {A S : List F} (h : ∀ c, (S.filter (fun x => decide (c ≤ w x))).length ≤ (A.filter (fun x => decide (c ≤ w x))).length) :
    sumw w S ≤ sumw w A := by
  have hc : ∀ c, sumw (fun x => min (w x) c) S ≤ sumw (fun x => min (w x) c) A := by
    intro c
    induction c with
    | zero =>
      have : ∀ l, sumw (fun x => min (w x) 0) l = 0 := by
        intro l
        induction l with
        | nil => rfl
        | cons a l ih => simp only [sumw, ih]; omega
      rw [this, this]; omega
    | succ c ih => rw [sumw_min, sumw_min]; have := h (c + 1); omega
  have hle : ∀ l : List F, ∃ c, ∀ x ∈ l, w x ≤ c := by
    intro l
    induction l with
    | nil => exact ⟨0, by simp⟩
    | cons a l ih =>
      obtain ⟨c, hc⟩ := ih
      refine ⟨max (w a) c, fun x hx => ?_⟩
      rcases List.mem_cons.1 hx with rfl | h
      · omega
      · have := hc x h; omega
  obtain ⟨c1, h1⟩ := hle S
  obtain ⟨c2, h2⟩ := hle A
  have e1 : sumw (fun x => min (w x) (max c1 c2)) S = sumw w S := sumw_congr fun x hx => by have := h1 x hx; omega
  have e2 : sumw (fun x => min (w x) (max c1 c2)) A = sumw w A := sumw_congr fun x hx => by have := h2 x hx; omega
  have := hc (max c1 c2)
  omega

/-- A proof that A is worth the most of U: each other one can only have days that are had by worthier ones. -/
def Cert (adj : F → D → Prop) (w : F → Nat) (U A : List F) (M : F → D) : Prop :=
  ∀ i ∈ U, i ∉ A → ∃ T, Tight adj A M T ∧ (∀ e, adj i e → T e) ∧ ∀ j ∈ A, T (M j) → w i ≤ w j

variable [DecidableEq D]

open Classical in
/-- What is tight stays so when more is mended. -/
theorem Tight.more {adj : F → D → Prop} {A A' : List F} {M M' : F → D} {T : D → Prop} (hM : Mat adj A M) (hT : Tight adj A M T)
    (hM' : Mat adj A' M') (hs : ∀ x ∈ A, x ∈ A') :
    Tight adj A' M' T ∧ ∀ j ∈ A', T (M' j) → j ∈ A ∧ T (M j) := by
  have key : ∀ d, T d → ∃ j ∈ A, T (M j) ∧ M' j = d := by
    intro d hd
    apply Classical.byContradiction
    intro hno
    have hno' : ∀ j ∈ A, T (M j) → M' j ≠ d := fun j hj ht he => hno ⟨j, hj, ht, he⟩
    have hin : ∀ x ∈ A.filter (fun j => decide (T (M j))), T (M' x) := by
      intro x hx
      obtain ⟨hxA, hx2⟩ := List.mem_filter.1 hx
      exact hT.adj_of hM hxA (by simpa using hx2) _ (hM'.ok x (hs x hxA))
    have := nodup_len (l1 := d :: (A.filter (fun j => decide (T (M j)))).map M') (l2 := (A.filter (fun j => decide (T (M j)))).map M)
      (List.nodup_cons.2 ⟨fun hm => by
          obtain ⟨x, hx, he⟩ := List.mem_map.1 hm
          obtain ⟨hxA, hx2⟩ := List.mem_filter.1 hx
          exact hno' x hxA (by simpa using hx2) he,
        nodup_map (hM.nd.filter _) (fun x hx y hy => hM'.inj x (hs x (List.mem_filter.1 hx).1) y (hs y (List.mem_filter.1 hy).1))⟩)
      (fun e he => by
        have hTe : T e := by
          rcases List.mem_cons.1 he with rfl | h
          · exact hd
          · obtain ⟨x, hx, rfl⟩ := List.mem_map.1 h
            exact hin x hx
        obtain ⟨j, hj, hje, _⟩ := hT _ hTe
        refine List.mem_map.2 ⟨j, List.mem_filter.2 ⟨hj, ?_⟩, hje⟩
        rw [← hje] at hTe
        simpa using hTe)
    simp at this
    omega
  constructor
  · intro d hd
    obtain ⟨j, hj, ht, he⟩ := key d hd
    exact ⟨j, hs j hj, he, hT.adj_of hM hj ht⟩
  · intro j hj ht
    obtain ⟨j', hj', ht', he⟩ := key _ ht
    have := hM'.inj j' (hs j' hj') j hj he
    exact this ▸ ⟨hj', ht'⟩

/-- One more flaw is mended: what was proved stays proved. -/
theorem Cert.more {adj : F → D → Prop} {w : F → Nat} {U A A' : List F} {M M' : F → D} (hM : Mat adj A M) (hC : Cert adj w U A M)
    (hM' : Mat adj A' M') (hs : ∀ x ∈ A, x ∈ A') : Cert adj w U A' M' := by
  intro i hi hiA'
  obtain ⟨T, hT, ha, hw⟩ := hC i hi (fun h => hiA' (hs i h))
  obtain ⟨h1, h2⟩ := hT.more hM hM' hs
  exact ⟨T, h1, ha, fun j hj ht => hw j (h2 j hj ht).1 (h2 j hj ht).2⟩

variable [DecidableEq F]

open Classical in
/-- Whoever can only have days of T, or has no day of T, is not more than A. -/
theorem count {adj : F → D → Prop} {A S : List F} {M N : F → D} {T : D → Prop} (hM : Mat adj A M) (hT : Tight adj A M T)
    (hN : Mat adj S N) (hS : ∀ i ∈ S, i ∉ A → ∀ e, adj i e → T e) : S.length ≤ A.length := by
  have h1 := len_filter_add (fun i => decide (i ∉ A ∨ T (M i))) S
  have h2 := len_filter_add (fun j => decide (T (M j))) A
  have a : (S.filter (fun i => decide (i ∉ A ∨ T (M i)))).length ≤ (A.filter (fun j => decide (T (M j)))).length := by
    have hin : ∀ x ∈ S.filter (fun i => decide (i ∉ A ∨ T (M i))), T (N x) := by
      intro x hx
      obtain ⟨hxS, hx2⟩ := List.mem_filter.1 hx
      have hx2 : x ∉ A ∨ T (M x) := by simpa using hx2
      by_cases hxA : x ∈ A
      · exact hT.adj_of hM hxA (hx2.resolve_left (by simpa using hxA)) _ (hN.ok x hxS)
      · exact hS x hxS hxA _ (hN.ok x hxS)
    have := nodup_len (l1 := (S.filter (fun i => decide (i ∉ A ∨ T (M i)))).map N) (l2 := (A.filter (fun j => decide (T (M j)))).map M)
      (nodup_map (hN.nd.filter _) (fun x hx y hy => hN.inj x (List.mem_filter.1 hx).1 y (List.mem_filter.1 hy).1))
      (fun d hd => by
        obtain ⟨x, hx, rfl⟩ := List.mem_map.1 hd
        obtain ⟨j, hj, he, _⟩ := hT _ (hin x hx)
        refine List.mem_map.2 ⟨j, List.mem_filter.2 ⟨hj, ?_⟩, he⟩
        have := hin x hx
        rw [← he] at this
        simpa using this)
    simpa using this
  have b : (S.filter (fun i => !decide (i ∉ A ∨ T (M i)))).length ≤ (A.filter (fun j => !decide (T (M j)))).length := by
    refine nodup_len (hN.nd.filter _) (fun x hx => ?_)
    obtain ⟨hxS, hx2⟩ := List.mem_filter.1 hx
    have hx2 : x ∈ A ∧ ¬ T (M x) := by simpa [not_or] using hx2
    exact List.mem_filter.2 ⟨hx2.1, by simpa using hx2.2⟩
  omega

theorem not_ind {adj : F → D → Prop} {A : List F} {M : F → D} {T : D → Prop} (hM : Mat adj A M) (hT : Tight adj A M T)
    {i : F} (hi : i ∉ A) (ha : ∀ e, adj i e → T e) : ¬ Ind adj (i :: A) := by
  rintro ⟨N, hN⟩
  have := count hM hT hN (fun x hx hxA => by
    rcases List.mem_cons.1 hx with rfl | h
    · exact ha
    · exact absurd h hxA)
  simp at this
  omega

theorem cert_best {adj : F → D → Prop} {w : F → Nat} {U A : List F} {M : F → D} (hM : Mat adj A M) (hC : Cert adj w U A M)
    {S : List F} (hS : Ind adj S) (hU : ∀ x ∈ S, x ∈ U) : sumw w S ≤ sumw w A := by
  obtain ⟨N, hN⟩ := hS
  refine layers fun c => ?_
  refine count (adj := adj) (A := A.filter (fun x => decide (c ≤ w x))) (S := S.filter (fun x => decide (c ≤ w x))) (M := M) (N := N)
    (T := fun d => ∃ i ∈ S, i ∉ A ∧ c ≤ w i ∧ ∃ T, (Tight adj A M T ∧ (∀ e, adj i e → T e) ∧ ∀ j ∈ A, T (M j) → w i ≤ w j) ∧ T d)
    (hM.sub (hM.nd.filter _) (fun x hx => (List.mem_filter.1 hx).1)) ?_ (hN.sub (hN.nd.filter _) (fun x hx => (List.mem_filter.1 hx).1)) ?_
  · rintro d ⟨i, hi, hiA, hc, T, hT, hd⟩
    obtain ⟨j, hj, he, ha⟩ := hT.1 d hd
    refine ⟨j, List.mem_filter.2 ⟨hj, ?_⟩, he, fun e hje => ⟨i, hi, hiA, hc, T, hT, ha e hje⟩⟩
    have := hT.2.2 j hj (he ▸ hd)
    simp; omega
  · intro i hi hiA e he
    obtain ⟨hiS, hc⟩ := List.mem_filter.1 hi
    have hc : c ≤ w i := by simpa using hc
    have hiA' : i ∉ A := fun h => hiA (List.mem_filter.2 ⟨h, by simpa using hc⟩)
    obtain ⟨T, hT⟩ := hC i (hU i hiS) hiA'
    exact ⟨i, hiS, hiA', hc, T, hT, hT.2.1 e he⟩

end Mm
end Go.Proofs.YtkoejelglinmnaaGreat

/-
  Plain combinatorics: what giving a flaw a day finds.
-/
namespace Go.Proofs.YtkoejelglinmnaaGreat
namespace Mm

/-- Which flaw has a day. -/
def at' (has : List Int) (d : Int) : Int := has.getD d.toNat (-1)

theorem at_set {has : List Int} {n : Nat} (hl : has.length = n) {d d' i : Int} (hd : 0 ≤ d ∧ d < n) (hd' : 0 ≤ d' ∧ d' < n) : at' (has.set d.toNat i) d' = if d' = d then i else at' has d' := by
  have h1 : d.toNat < has.length := by omega
  have h2 : d'.toNat < has.length := by omega
  unfold at'
  rw [List.getD_eq_getElem?_getD, List.getD_eq_getElem?_getD, List.getElem?_set]
  by_cases e : d' = d
  · subst e; simp [h1]
  · have : d.toNat ≠ d'.toNat := by omega
    simp [this, e]

theorem give_false {n m : Nat} {adj : Int → List Int} (hadj : ∀ i : Int, 0 ≤ i ∧ i < m → ∀ d ∈ adj i, 0 ≤ d ∧ d < n) : ∀ (f : Nat) (i : Int) (has tr : List Int), 0 ≤ i ∧ i < m → GInv n m has tr →
    (give adj f i has tr).1 = false → (give adj f i has tr).2.1 = has ∧ (∀ d ∈ tr, d ∈ (give adj f i has tr).2.2) ∧
      (n + 1 ≤ f + tr.length → (∀ d ∈ adj i, d ∈ (give adj f i has tr).2.2) ∧ ∀ d ∈ (give adj f i has tr).2.2, d ∈ tr ∨ (0 ≤ at' has d ∧ ∀ e ∈ adj (at' has d), e ∈ (give adj f i has tr).2.2))
  | 0, i, has, tr, _, h => fun _ => ⟨rfl, fun _ h => h, fun hl => by have := h.le; omega⟩
  | f + 1, i, has, tr, hi, h => by
    have key : ∀ (ds tr : List Int), (∀ d ∈ ds, 0 ≤ d ∧ d < n) → GInv n m has tr → (giveScan (give adj f) i ds has tr).1 = false →
        (giveScan (give adj f) i ds has tr).2.1 = has ∧ (∀ d ∈ tr, d ∈ (giveScan (give adj f) i ds has tr).2.2) ∧
          (n + 1 ≤ f + 1 + tr.length → (∀ d ∈ ds, d ∈ (giveScan (give adj f) i ds has tr).2.2) ∧ ∀ d ∈ (giveScan (give adj f) i ds has tr).2.2, d ∈ tr ∨ (0 ≤ at' has d ∧ ∀ e ∈ adj (at' has d), e ∈ (giveScan (give adj f) i ds has tr).2.2)) := by
      intro ds
      induction ds with
      | nil => intro tr _ _ _; exact ⟨rfl, fun _ h => h, fun _ => ⟨by simp, fun d hd => .inl hd⟩⟩
      | cons d ds ih =>
        intro tr hd h
        have hdd := hd d (by simp)
        have hds : ∀ x ∈ ds, 0 ≤ x ∧ x < n := fun x hx => hd x (List.mem_cons_of_mem _ hx)
        rw [giveScan_cons]
        split
        · rename_i ht
          intro hf
          obtain ⟨a, b, c⟩ := ih tr hds h hf
          refine ⟨a, b, fun hl => ?_⟩
          obtain ⟨c1, c2⟩ := c hl
          refine ⟨fun x hx => ?_, c2⟩
          rcases List.mem_cons.1 hx with rfl | hx
          · exact b _ ht
          · exact c1 _ hx
        · rename_i hnt
          split
          · intro hf; cases hf
          · rename_i h0
            have hj := h.get hdd.1 hdd.2 h0
            have hg := h.cons hdd hnt
            split
            · intro hf; cases hf
            · rename_i hr
              have hr : (give adj f (has.getD d.toNat (-1)) has (d :: tr)).1 = false := by simpa using hr
              obtain ⟨g1, g2, g3⟩ := give_false hadj f _ has (d :: tr) hj hg hr
              obtain ⟨k1, k2⟩ := give_inv hadj f _ has (d :: tr) hj hg
              rw [g1] at k1 ⊢
              intro hf
              obtain ⟨a, b, c⟩ := ih _ hds k1 hf
              refine ⟨a, fun x hx => b _ (g2 _ (List.mem_cons_of_mem _ hx)), fun hl => ?_⟩
              obtain ⟨e1, e2⟩ := g3 (by simp only [List.length_cons]; omega)
              obtain ⟨c1, c2⟩ := c (by simp only [List.length_cons] at k2; omega)
              refine ⟨fun x hx => ?_, fun x hx => ?_⟩
              · rcases List.mem_cons.1 hx with rfl | hx
                · exact b _ (g2 _ (by simp))
                · exact c1 _ hx
              · rcases c2 x hx with hx | hx
                · rcases e2 x hx with hx | ⟨hx1, hx2⟩
                  · rcases List.mem_cons.1 hx with rfl | hx
                    · exact .inr ⟨hj.1, fun e he => b _ (e1 e he)⟩
                    · exact .inl hx
                  · exact .inr ⟨hx1, fun e he => b _ (hx2 e he)⟩
                · exact .inr hx
    exact key _ tr (hadj i hi) h

/-- Who has the days that were not tried: the flaws S, one day each. -/
structure St (adj : Int → List Int) (n : Nat) (has tr : List Int) (S : Int → Prop) : Prop where
  mem : ∀ j, S j ↔ 0 ≤ j ∧ ∃ d : Int, (0 ≤ d ∧ d < n) ∧ d ∉ tr ∧ at' has d = j
  inj : ∀ d d' : Int, (0 ≤ d ∧ d < n) → (0 ≤ d' ∧ d' < n) → d ∉ tr → d' ∉ tr → at' has d = at' has d' → 0 ≤ at' has d → d = d'
  ok : ∀ d : Int, (0 ≤ d ∧ d < n) → d ∉ tr → 0 ≤ at' has d → d ∈ adj (at' has d)

theorem St.rest {adj : Int → List Int} {n : Nat} {has tr tr2 : List Int} {S : Int → Prop} (h : St adj n has tr S) (hs : ∀ d ∈ tr, d ∈ tr2) :
    St adj n has tr2 (fun j => 0 ≤ j ∧ ∃ d : Int, (0 ≤ d ∧ d < n) ∧ d ∉ tr2 ∧ at' has d = j) :=
  ⟨fun _ => Iff.rfl, fun d d' h1 h2 h3 h4 => h.inj d d' h1 h2 (fun h => h3 (hs _ h)) (fun h => h4 (hs _ h)), fun d h1 h2 => h.ok d h1 (fun h => h2 (hs _ h))⟩

theorem St.lift {adj : Int → List Int} {n : Nat} {has has' tr tr2 : List Int} {S : Int → Prop} {i : Int} (h : St adj n has tr S) (hi : 0 ≤ i) (hS : ¬ S i) (hs : ∀ d ∈ tr, d ∈ tr2)
    (h2 : St adj n has' tr2 (fun j => (0 ≤ j ∧ ∃ d : Int, (0 ≤ d ∧ d < n) ∧ d ∉ tr2 ∧ at' has d = j) ∨ j = i)) (hu : ∀ d ∈ tr2, at' has' d = at' has d) :
    St adj n has' tr (fun j => S j ∨ j = i) := by
  have hm : ∀ j, (S j ∨ j = i) ↔ 0 ≤ j ∧ ∃ d : Int, (0 ≤ d ∧ d < n) ∧ d ∉ tr ∧ at' has' d = j := by
    intro j
    constructor
    · intro hj
      have key : ∀ j, ((0 ≤ j ∧ ∃ d : Int, (0 ≤ d ∧ d < n) ∧ d ∉ tr2 ∧ at' has d = j) ∨ j = i) → 0 ≤ j ∧ ∃ d : Int, (0 ≤ d ∧ d < n) ∧ d ∉ tr ∧ at' has' d = j := by
        intro j hj
        obtain ⟨h0, d, hd, hdt, he⟩ := (h2.mem j).1 hj
        exact ⟨h0, d, hd, fun h => hdt (hs _ h), he⟩
      rcases hj with hj | hj
      · obtain ⟨h0, d, hd, hdt, he⟩ := (h.mem j).1 hj
        by_cases hd2 : d ∈ tr2
        · exact ⟨h0, d, hd, hdt, by rw [hu d hd2]; exact he⟩
        · exact key j (.inl ⟨h0, d, hd, hd2, he⟩)
      · exact key j (.inr hj)
    · rintro ⟨h0, d, hd, hdt, he⟩
      by_cases hd2 : d ∈ tr2
      · exact .inl ((h.mem j).2 ⟨h0, d, hd, hdt, by rw [← hu d hd2]; exact he⟩)
      · rcases (h2.mem j).2 ⟨h0, d, hd, hd2, he⟩ with ⟨_, d', hd', hdt', he'⟩ | hj
        · exact .inl ((h.mem j).2 ⟨h0, d', hd', fun h => hdt' (hs _ h), he'⟩)
        · exact .inr hj
  -- a day that was tried in between, and one that was not, are not of one flaw
  have part : ∀ d d' : Int, (0 ≤ d ∧ d < n) → (0 ≤ d' ∧ d' < n) → d ∉ tr → d ∈ tr2 → d' ∉ tr2 → at' has' d = at' has' d' → 0 ≤ at' has' d → False := by
    intro d d' hd hd' hdt hd2 hd2' he h0
    rw [hu d hd2] at he h0
    have hSd : S (at' has d) := (h.mem _).2 ⟨h0, d, hd, hdt, rfl⟩
    rcases (h2.mem (at' has' d')).2 ⟨by rw [← he]; exact h0, d', hd', hd2', rfl⟩ with ⟨_, d'', hd'', hdt'', he''⟩ | hj
    · have := h.inj d d'' hd hd'' hdt (fun h => hdt'' (hs _ h)) (by rw [he'', he]) h0
      exact hdt'' (this ▸ hd2)
    · rw [← he] at hj
      exact hS (hj ▸ hSd)
  refine ⟨hm, ?_, ?_⟩
  · intro d d' hd hd' hdt hdt' he h0
    by_cases hd2 : d ∈ tr2 <;> by_cases hd2' : d' ∈ tr2
    · rw [hu d hd2] at he h0
      rw [hu d' hd2'] at he
      exact h.inj d d' hd hd' hdt hdt' he h0
    · exact (part d d' hd hd' hdt hd2 hd2' he h0).elim
    · exact (part d' d hd' hd hdt' hd2' hd2 he.symm (by rw [← he]; exact h0)).elim
    · exact h2.inj d d' hd hd' hd2 hd2' he h0
  · intro d hd hdt h0
    by_cases hd2 : d ∈ tr2
    · rw [hu d hd2] at h0 ⊢; exact h.ok d hd hdt h0
    · exact h2.ok d hd hd2 h0

/-- A day for one flaw more, which nobody of S has. -/
theorem St.put {adj : Int → List Int} {n : Nat} {has tr : List Int} {S S' : Int → Prop} {i d : Int} (hl : has.length = n) (hd : 0 ≤ d ∧ d < n) (hdt : d ∉ tr) (hi : 0 ≤ i) (hS : ¬ S i) (ha : d ∈ adj i)
    (h : St adj n has (d :: tr) S) (hS' : ∀ j, S' j ↔ S j ∨ j = i) : St adj n (has.set d.toNat i) tr S' := by
  have hset : ∀ d' : Int, (0 ≤ d' ∧ d' < n) → at' (has.set d.toNat i) d' = if d' = d then i else at' has d' := fun d' hd' => at_set hl hd hd'
  have hno : ∀ d' : Int, (0 ≤ d' ∧ d' < n) → d' ∉ tr → d' ≠ d → at' has d' ≠ i := by
    intro d' hd' hdt' hne he
    exact hS ((h.mem i).2 ⟨hi, d', hd', by simp [hne, hdt'], he⟩)
  refine ⟨fun j => ?_, ?_, ?_⟩
  · rw [hS', h.mem]
    constructor
    · rintro (⟨h0, d', hd', hdt', he⟩ | rfl)
      · simp only [List.mem_cons, not_or] at hdt'
        exact ⟨h0, d', hd', hdt'.2, by rw [hset d' hd', if_neg hdt'.1]; exact he⟩
      · exact ⟨hi, d, hd, hdt, by rw [hset d hd, if_pos rfl]⟩
    · rintro ⟨h0, d', hd', hdt', he⟩
      rw [hset d' hd'] at he
      by_cases e : d' = d
      · rw [if_pos e] at he; exact .inr he.symm
      · rw [if_neg e] at he; exact .inl ⟨h0, d', hd', by simp [e, hdt'], he⟩
  · intro d1 d2 h1 h2 ht1 ht2 he h0
    rw [hset d1 h1] at he h0
    rw [hset d2 h2] at he
    by_cases e1 : d1 = d <;> by_cases e2 : d2 = d
    · rw [e1, e2]
    · rw [if_pos e1, if_neg e2] at he
      exact absurd he.symm (hno d2 h2 ht2 e2)
    · rw [if_neg e1, if_pos e2] at he
      exact absurd he (hno d1 h1 ht1 e1)
    · rw [if_neg e1, if_neg e2] at he
      rw [if_neg e1] at h0
      exact h.inj d1 d2 h1 h2 (by simp [e1, ht1]) (by simp [e2, ht2]) he h0
  · intro d1 h1 ht1 h0
    rw [hset d1 h1] at h0 ⊢
    by_cases e1 : d1 = d
    · rw [if_pos e1, e1]; exact ha
    · rw [if_neg e1] at h0 ⊢
      exact h.ok d1 h1 (by simp [e1, ht1]) h0

theorem give_true {n m : Nat} {adj : Int → List Int} (hadj : ∀ i : Int, 0 ≤ i ∧ i < m → ∀ d ∈ adj i, 0 ≤ d ∧ d < n) : ∀ (f : Nat) (i : Int) (has tr : List Int) (S : Int → Prop), 0 ≤ i ∧ i < m → GInv n m has tr →
    St adj n has tr S → ¬ S i → (give adj f i has tr).1 = true →
      St adj n (give adj f i has tr).2.1 tr (fun j => S j ∨ j = i) ∧ ∀ d ∈ tr, at' (give adj f i has tr).2.1 d = at' has d
  | 0, i, has, tr, _, _, _, _, _ => fun h => by cases h
  | f + 1, i, has, tr, S, hi, h, hst, hS => by
    have key : ∀ (ds tr : List Int) (S : Int → Prop), (∀ d ∈ ds, (0 ≤ d ∧ d < n) ∧ d ∈ adj i) → GInv n m has tr → St adj n has tr S → ¬ S i → (giveScan (give adj f) i ds has tr).1 = true →
        St adj n (giveScan (give adj f) i ds has tr).2.1 tr (fun j => S j ∨ j = i) ∧ ∀ d ∈ tr, at' (giveScan (give adj f) i ds has tr).2.1 d = at' has d := by
      intro ds
      induction ds with
      | nil => intro tr S _ _ _ _ hf; cases hf
      | cons d ds ih =>
        intro tr S hd h hst hS
        obtain ⟨hdd, hda⟩ := hd d (by simp)
        have hds : ∀ x ∈ ds, (0 ≤ x ∧ x < n) ∧ x ∈ adj i := fun x hx => hd x (List.mem_cons_of_mem _ hx)
        rw [giveScan_cons]
        split
        · exact ih tr S hds h hst hS
        · rename_i hnt
          split
          · rename_i h0
            intro _
            have hat : at' has d < 0 := h0
            refine ⟨St.put (S := S) h.len hdd hnt hi.1 hS hda ⟨fun j => ?_, fun d1 d2 h1 h2 h3 h4 => hst.inj d1 d2 h1 h2 (fun h => h3 (List.mem_cons_of_mem _ h)) (fun h => h4 (List.mem_cons_of_mem _ h)), fun d1 h1 h2 => hst.ok d1 h1 (fun h => h2 (List.mem_cons_of_mem _ h))⟩ (fun _ => Iff.rfl), ?_⟩
            · rw [hst.mem]
              constructor
              · rintro ⟨hj, d', hd', hdt', he⟩
                refine ⟨hj, d', hd', ?_, he⟩
                simp only [List.mem_cons, not_or]
                exact ⟨fun e => by rw [e] at he; omega, hdt'⟩
              · rintro ⟨hj, d', hd', hdt', he⟩
                exact ⟨hj, d', hd', fun h => hdt' (List.mem_cons_of_mem _ h), he⟩
            · intro d' hd'
              rw [at_set h.len hdd (h.rg d' hd'), if_neg (fun e : d' = d => hnt (e ▸ hd'))]
          · rename_i h0
            have hj := h.get hdd.1 hdd.2 h0
            have hg := h.cons hdd hnt
            have hcons : ∀ x ∈ tr, x ∈ d :: tr := fun x hx => List.mem_cons_of_mem _ hx
            have hSj : ¬ (0 ≤ at' has d ∧ ∃ d' : Int, (0 ≤ d' ∧ d' < (n : Int)) ∧ d' ∉ d :: tr ∧ at' has d' = at' has d) := by
              rintro ⟨_, d', hd', hdt', he⟩
              simp only [List.mem_cons, not_or] at hdt'
              exact hdt'.1 (hst.inj d' d hd' hdd hdt'.2 hnt he (by rw [he]; exact hj.1))
            split
            · rename_i hr
              intro _
              obtain ⟨g1, g2⟩ := give_true hadj f _ has (d :: tr) _ hj hg (hst.rest hcons) hSj hr
              have hlen := (give_inv hadj f _ has (d :: tr) hj hg).1.len
              have hSi : ¬ ((0 ≤ i ∧ ∃ d' : Int, (0 ≤ d' ∧ d' < (n : Int)) ∧ d' ∉ d :: tr ∧ at' has d' = i) ∨ i = at' has d) := by
                rintro (⟨_, d', hd', hdt', he⟩ | he)
                · exact hS ((hst.mem i).2 ⟨hi.1, d', hd', fun h => hdt' (hcons _ h), he⟩)
                · exact hS ((hst.mem i).2 ⟨hi.1, d, hdd, hnt, he.symm⟩)
              refine ⟨St.put hlen hdd hnt hi.1 hSi hda g1 (fun j => ?_), ?_⟩
              · constructor
                · rintro (hj' | hj')
                  · obtain ⟨hj0, d', hd', hdt', he⟩ := (hst.mem j).1 hj'
                    by_cases e : d' = d
                    · exact .inl (.inr (by rw [← he, e]; rfl))
                    · exact .inl (.inl ⟨hj0, d', hd', by simp [e, hdt'], he⟩)
                  · exact .inr hj'
                · rintro ((⟨hj0, d', hd', hdt', he⟩ | hj') | hj')
                  · exact .inl ((hst.mem j).2 ⟨hj0, d', hd', fun h => hdt' (hcons _ h), he⟩)
                  · exact .inl ((hst.mem j).2 ⟨by rw [hj']; exact hj.1, d, hdd, hnt, by rw [hj']; rfl⟩)
                  · exact .inr hj'
              · intro d' hd'
                rw [at_set hlen hdd (h.rg d' hd'), if_neg (fun e : d' = d => hnt (e ▸ hd')), g2 d' (hcons _ hd')]
            · rename_i hr
              have hr : (give adj f (has.getD d.toNat (-1)) has (d :: tr)).1 = false := by simpa using hr
              obtain ⟨g1, g2, _⟩ := give_false hadj f _ has (d :: tr) hj hg hr
              obtain ⟨k1, _⟩ := give_inv hadj f _ has (d :: tr) hj hg
              rw [g1] at k1 ⊢
              intro hf
              have hsub : ∀ x ∈ tr, x ∈ (give adj f (has.getD d.toNat (-1)) has (d :: tr)).2.2 := fun x hx => g2 x (hcons x hx)
              have hSi : ¬ (0 ≤ i ∧ ∃ d' : Int, (0 ≤ d' ∧ d' < (n : Int)) ∧ d' ∉ (give adj f (has.getD d.toNat (-1)) has (d :: tr)).2.2 ∧ at' has d' = i) := by
                rintro ⟨_, d', hd', hdt', he⟩
                exact hS ((hst.mem i).2 ⟨hi.1, d', hd', fun h => hdt' (hsub _ h), he⟩)
              obtain ⟨a, b⟩ := ih _ _ hds k1 (hst.rest hsub) hSi hf
              exact ⟨hst.lift hi.1 hS hsub a b, fun x hx => b x (hsub x hx)⟩
    exact key _ tr S (fun d hd => ⟨hadj i hi d hd, hd⟩) h hst hS

end Mm
end Go.Proofs.YtkoejelglinmnaaGreat

/-
  Plain combinatorics: the worthiest flaws first; a proof for whatever is worth the most.
-/
namespace Go.Proofs.YtkoejelglinmnaaGreat
namespace Mm

/-- The flaws that have a day, and which one each has. -/
def hadBy (has : List Int) : List Int := has.filter fun j => decide (0 ≤ j)
def dayIn (has : List Int) (j : Int) : Int := (has.idxOf j : Int)
def adjP (adj : Int → List Int) : Int → Int → Prop := fun i d => d ∈ adj i

theorem at_get {has : List Int} {n : Nat} (hl : has.length = n) {d : Int} (hd : 0 ≤ d ∧ d < n) : ∃ h : d.toNat < has.length, at' has d = has[d.toNat] := by
  have h : d.toNat < has.length := by omega
  refine ⟨h, ?_⟩
  unfold at'
  rw [List.getD_eq_getElem?_getD, List.getElem?_eq_getElem h]; rfl

theorem at_nat {has : List Int} {k : Nat} (h : k < has.length) : at' has (k : Int) = has[k] := by
  unfold at'
  rw [List.getD_eq_getElem?_getD, Int.toNat_natCast, List.getElem?_eq_getElem h]; rfl

theorem nodup_had : ∀ (l : List Int), (∀ i j (hi : i < l.length) (hj : j < l.length), l[i] = l[j] → 0 ≤ l[i] → i = j) → (hadBy l).Nodup
  | [], _ => List.nodup_nil
  | a :: l, h => by
    have ih : (hadBy l).Nodup := nodup_had l fun i j hi hj he h0 => by
      have := h (i + 1) (j + 1) (by simp; omega) (by simp; omega) (by simpa using he) (by simpa using h0)
      omega
    unfold hadBy at ih ⊢
    rw [List.filter_cons]
    split
    · rename_i ha
      refine List.nodup_cons.2 ⟨fun hm => ?_, ih⟩
      obtain ⟨k, hk, he⟩ := List.getElem_of_mem (List.mem_filter.1 hm).1
      have := h 0 (k + 1) (by simp) (by simp; omega) (by simpa using he.symm) (by simpa using ha)
      omega
    · exact ih

theorem St.mat {adj : Int → List Int} {n : Nat} {has : List Int} {S : Int → Prop} (hl : has.length = n) (h : St adj n has [] S) :
    Mat (adjP adj) (hadBy has) (dayIn has) ∧ (∀ j, S j ↔ j ∈ hadBy has) ∧ ∀ d : Int, (0 ≤ d ∧ d < (n : Int)) → 0 ≤ at' has d → dayIn has (at' has d) = d := by
  have hS : ∀ j, S j ↔ j ∈ hadBy has := by
    intro j
    rw [h.mem, hadBy, List.mem_filter]
    constructor
    · rintro ⟨h0, d, hd, _, he⟩
      obtain ⟨hk, hg⟩ := at_get hl hd
      rw [hg] at he
      exact ⟨he ▸ List.getElem_mem hk, by simpa using h0⟩
    · rintro ⟨hm, h0⟩
      obtain ⟨k, hk, he⟩ := List.getElem_of_mem hm
      exact ⟨by simpa using h0, (k : Int), by omega, by simp, by rw [at_nat hk]; exact he⟩
  have hday : ∀ j, j ∈ hadBy has → (0 ≤ dayIn has j ∧ dayIn has j < (n : Int)) ∧ at' has (dayIn has j) = j := by
    intro j hj
    have hm : j ∈ has := (List.mem_filter.1 hj).1
    have hk : has.idxOf j < has.length := List.idxOf_lt_length_iff.2 hm
    refine ⟨by unfold dayIn; omega, ?_⟩
    unfold dayIn
    rw [at_nat hk]
    exact List.getElem_idxOf hk
  have hnn : ∀ j, j ∈ hadBy has → 0 ≤ j := fun j hj => by have := (List.mem_filter.1 hj).2; simpa using this
  refine ⟨⟨nodup_had has fun i j hi hj he h0 => ?_, fun j hj => ?_, fun j hj j' hj' he => ?_⟩, hS, fun d hd h0 => ?_⟩
  · have := h.inj (i : Int) (j : Int) (by omega) (by omega) (by simp) (by simp) (by rw [at_nat hi, at_nat hj]; exact he) (by rw [at_nat hi]; exact h0)
    omega
  · obtain ⟨h1, h2⟩ := hday j hj
    have := h.ok _ h1 (by simp) (by rw [h2]; exact hnn j hj)
    rw [h2] at this
    exact this
  · obtain ⟨_, h2⟩ := hday j hj
    obtain ⟨_, h2'⟩ := hday j' hj'
    rw [← h2, ← h2', he]
  · have hj : at' has d ∈ hadBy has := (hS _).1 ((h.mem _).2 ⟨h0, d, hd, by simp, rfl⟩)
    obtain ⟨h1, h2⟩ := hday _ hj
    exact h.inj _ _ h1 hd (by simp) (by simp) h2 (by rw [h2]; exact h0)

theorem GInv.nil {n m : Nat} {has : List Int} (hl : has.length = n) (h : ∀ x ∈ has, x = -1 ∨ (0 ≤ x ∧ x < m)) : GInv n m has [] := ⟨hl, h, List.nodup_nil, by simp⟩

/-- A flaw that can't be added: the days that were tried are had by flaws that can have no others. -/
theorem give_tight {n m : Nat} {adj : Int → List Int} (hadj : ∀ i : Int, 0 ≤ i ∧ i < m → ∀ d ∈ adj i, 0 ≤ d ∧ d < n) {f : Nat} (hf : n < f) {i : Int} {has : List Int} {S : Int → Prop} (hi : 0 ≤ i ∧ i < m)
    (hg : GInv n m has []) (hst : St adj n has [] S) (hr : (give adj f i has []).1 = false) :
    ∃ T, Tight (adjP adj) (hadBy has) (dayIn has) T ∧ ∀ e, adjP adj i e → T e := by
  obtain ⟨_, _, h3⟩ := give_false hadj f i has [] hi hg hr
  obtain ⟨h1, h2⟩ := h3 (by simp; omega)
  obtain ⟨k1, _⟩ := give_inv hadj f i has [] hi hg
  obtain ⟨_, hS, hday⟩ := hst.mat hg.len
  refine ⟨fun d => d ∈ (give adj f i has []).2.2, fun d hd => ?_, fun e he => h1 e he⟩
  rcases h2 d hd with h | ⟨h0, hc⟩
  · simp at h
  · have hdr := k1.rg d hd
    exact ⟨at' has d, (hS _).1 ((hst.mem _).2 ⟨h0, d, hdr, by simp, rfl⟩), hday d hdr h0, fun e he => hc e he⟩

/-- What is known of a plan to which the flaws of a list have been added, as far as they could be. -/
structure Greedy (adj : Int → List Int) (n m : Nat) (w : Int → Nat) (pre : List Int) (has : List Int) : Prop where
  inv : GInv n m has []
  st : St adj n has [] (fun j => j ∈ hadBy has)
  sub : ∀ j ∈ hadBy has, j ∈ pre
  cert : Cert (adjP adj) w pre (hadBy has) (dayIn has)

theorem addS_eq (adj : Int → List Int) (f : Nat) (has : List Int) (i : Int) : addS adj f has i = if (give adj f i has []).1 then some (give adj f i has []).2.1 else none := rfl

theorem St.had {adj : Int → List Int} {n : Nat} {has : List Int} {S : Int → Prop} (hl : has.length = n) (h : St adj n has [] S) : St adj n has [] (fun j => j ∈ hadBy has) :=
  ⟨fun j => by rw [← (h.mat hl).2.1 j]; exact h.mem j, h.inj, h.ok⟩

theorem Greedy.step {adj : Int → List Int} {n m : Nat} {w : Int → Nat} {pre has : List Int} (hadj : ∀ i : Int, 0 ≤ i ∧ i < m → ∀ d ∈ adj i, 0 ≤ d ∧ d < n) {f : Nat} (hf : n < f) (h : Greedy adj n m w pre has)
    {i : Int} (hi : 0 ≤ i ∧ i < m) (hip : i ∉ pre) (hw : ∀ j ∈ pre, w i ≤ w j) : Greedy adj n m w (pre ++ [i]) ((addS adj f has i).getD has) := by
  have hiA : i ∉ hadBy has := fun hm => hip (h.sub i hm)
  obtain ⟨hM, _, _⟩ := h.st.mat h.inv.len
  rw [addS_eq]
  by_cases hr : (give adj f i has []).1 = true
  · rw [if_pos hr, Option.getD_some]
    obtain ⟨g1, _⟩ := give_true hadj f i has [] _ hi h.inv h.st hiA hr
    obtain ⟨k1, _⟩ := give_inv hadj f i has [] hi h.inv
    obtain ⟨hM', hS', _⟩ := g1.mat k1.len
    refine ⟨GInv.nil k1.len k1.ok, g1.had k1.len, fun j hj => ?_, ?_⟩
    · rcases (hS' j).2 hj with hj | rfl
      · exact List.mem_append.2 (.inl (h.sub j hj))
      · simp
    · have hc := h.cert.more hM hM' (fun x hx => (hS' x).1 (.inl hx))
      intro x hx hxA
      rcases List.mem_append.1 hx with hx | hx
      · exact hc x hx hxA
      · have : x = i := by simpa using hx
        exact absurd ((hS' x).1 (.inr this)) hxA
  · have hr : (give adj f i has []).1 = false := by simpa using hr
    rw [if_neg (by rw [hr]; simp), Option.getD_none]
    refine ⟨h.inv, h.st, fun j hj => List.mem_append.2 (.inl (h.sub j hj)), fun x hx hxA => ?_⟩
    rcases List.mem_append.1 hx with hx | hx
    · exact h.cert x hx hxA
    · obtain rfl : x = i := by simpa using hx
      obtain ⟨T, h1, h2⟩ := give_tight hadj hf hi h.inv h.st hr
      exact ⟨T, h1, h2, fun j hj _ => hw j (h.sub j hj)⟩

theorem Greedy.all {adj : Int → List Int} {n m : Nat} {w : Int → Nat} (hadj : ∀ i : Int, 0 ≤ i ∧ i < m → ∀ d ∈ adj i, 0 ≤ d ∧ d < n) (hf : n < fuel) : ∀ (l pre has : List Int), Greedy adj n m w pre has →
    (pre ++ l).Nodup → (∀ x ∈ l, 0 ≤ x ∧ x < m) → (pre ++ l).Pairwise (fun a b => w b ≤ w a) → Greedy adj n m w (pre ++ l) (addAll adj has l)
  | [], pre, has, h, _, _, _ => by simpa [addAll] using h
  | i :: l, pre, has, h, hn, hr, hp => by
    have e : pre ++ i :: l = (pre ++ [i]) ++ l := by simp
    have hp' := List.pairwise_append.1 hp
    have hn' := List.nodup_append.1 hn
    rw [e]
    simp only [addAll]
    rw [e] at hn hp
    refine Greedy.all hadj hf l (pre ++ [i]) _ (h.step hadj hf (hr i (by simp)) (fun hm => hn'.2.2 i hm i (by simp) rfl) (fun j hj => hp'.2.2 j hj i (by simp))) hn (fun x hx => hr x (List.mem_cons_of_mem _ hx)) hp

theorem Greedy.none (adj : Int → List Int) (n m : Nat) (w : Int → Nat) : Greedy adj n m w [] (List.replicate n (-1)) := by
  have hno : hadBy (List.replicate n (-1)) = [] := List.filter_eq_nil_iff.2 fun x hx => by rw [(List.mem_replicate.1 hx).2]; decide
  have hat : ∀ d : Int, (0 ≤ d ∧ d < n) → at' (List.replicate n (-1)) d = -1 := by
    intro d hd
    obtain ⟨h, e⟩ := at_get (has := List.replicate n (-1)) (n := n) (by simp) hd
    rw [e]; simp
  refine ⟨GInv.nil (by simp) (fun x hx => .inl (List.mem_replicate.1 hx).2), ⟨fun j => ?_, fun d d' h1 _ _ _ _ h0 => ?_, fun d h1 _ h0 => ?_⟩, by rw [hno]; simp, fun x hx => by simp at hx⟩
  · rw [hno]
    constructor
    · intro h; simp at h
    · rintro ⟨h0, d, hd, _, he⟩
      rw [hat d hd] at he; omega
  · rw [hat d h1] at h0; exact absurd h0 (by decide)
  · rw [hat d h1] at h0; exact absurd h0 (by decide)

/-! ### what is worth the most has a proof -/
open Classical in
/-- Either one more flaw can be mended, or its days are had by flaws that can have no others. -/
theorem dich {n m : Nat} {adj : Int → List Int} (hadj : ∀ i : Int, 0 ≤ i ∧ i < m → ∀ d ∈ adj i, 0 ≤ d ∧ d < n) {A : List Int} {M : Int → Int} (hM : Mat (adjP adj) A M) (hA : ∀ x ∈ A, 0 ≤ x ∧ x < (m : Int))
    {i : Int} (hi : 0 ≤ i ∧ i < m) (hiA : i ∉ A) : Ind (adjP adj) (i :: A) ∨ ∃ T, Tight (adjP adj) A M T ∧ ∀ e, adjP adj i e → T e := by
  let who : Int → Int := fun d => if h : ∃ j, j ∈ A ∧ M j = d then Classical.choose h else -1
  have hwho : ∀ j ∈ A, who (M j) = j := by
    intro j hj
    have h : ∃ j', j' ∈ A ∧ M j' = M j := ⟨j, hj, rfl⟩
    simp only [who, dif_pos h]
    have := Classical.choose_spec h
    exact hM.inj _ this.1 _ hj this.2
  have hwho2 : ∀ d, who d = -1 ∨ (who d ∈ A ∧ M (who d) = d) := by
    intro d
    by_cases h : ∃ j, j ∈ A ∧ M j = d
    · right; simp only [who, dif_pos h]; exact Classical.choose_spec h
    · left; simp only [who, dif_neg h]
  let has : List Int := (List.range n).map fun (k : Nat) => who (k : Int)
  have hl : has.length = n := by simp [has]
  have hat : ∀ d : Int, (0 ≤ d ∧ d < n) → at' has d = who d := by
    intro d hd
    obtain ⟨h, e⟩ := at_get hl hd
    rw [e]
    simp only [has, List.getElem_map, List.getElem_range]
    congr 1; omega
  have hg : GInv n m has [] := GInv.nil hl fun x hx => by
    obtain ⟨k, _, rfl⟩ := List.mem_map.1 hx
    rcases hwho2 (k : Int) with h | ⟨h, _⟩
    · exact .inl h
    · exact .inr (hA _ h)
  have hst : St adj n has [] (fun j => j ∈ A) := by
    refine ⟨fun j => ?_, fun d d' h1 h2 _ _ he h0 => ?_, fun d h1 _ h0 => ?_⟩
    · constructor
      · intro hj
        have hr := hadj j (hA j hj) _ (hM.ok j hj)
        exact ⟨(hA j hj).1, M j, hr, by simp, by rw [hat _ hr, hwho j hj]⟩
      · rintro ⟨h0, d, hd, _, he⟩
        rw [hat d hd] at he
        rcases hwho2 d with h | ⟨h, _⟩
        · rw [h] at he; omega
        · exact he ▸ h
    · rw [hat d h1, hat d' h2] at he
      rw [hat d h1] at h0
      rcases hwho2 d with h | ⟨_, h⟩
      · rw [h] at h0; exact absurd h0 (by decide)
      · rcases hwho2 d' with h' | ⟨_, h'⟩
        · rw [he, h'] at h0; exact absurd h0 (by decide)
        · rw [← h, ← h', he]
    · rw [hat d h1] at h0 ⊢
      rcases hwho2 d with h | ⟨h, h'⟩
      · rw [h] at h0; exact absurd h0 (by decide)
      · have := hM.ok _ h; rw [h'] at this; exact this
  have hsame := hst.mat hl
  by_cases hr : (give adj (n + 1) i has []).1 = true
  · left
    obtain ⟨g1, _⟩ := give_true hadj (n + 1) i has [] _ hi hg hst hiA hr
    obtain ⟨k1, _⟩ := give_inv hadj (n + 1) i has [] hi hg
    obtain ⟨hM', hS', _⟩ := g1.mat k1.len
    refine ⟨_, hM'.sub (List.nodup_cons.2 ⟨hiA, hM.nd⟩) (fun x hx => (hS' x).1 ?_)⟩
    rcases List.mem_cons.1 hx with rfl | hx
    · exact .inr rfl
    · exact .inl hx
  · right
    have hr : (give adj (n + 1) i has []).1 = false := by simpa using hr
    obtain ⟨T, h1, h2⟩ := give_tight hadj (Nat.lt_succ_self n) hi hg hst hr
    refine ⟨T, fun d hd => ?_, h2⟩
    obtain ⟨j, hj, he, ha⟩ := h1 d hd
    have hjA : j ∈ A := (hsame.2.1 j).2 hj
    refine ⟨j, hjA, ?_, ha⟩
    have hr' := hadj j (hA j hjA) _ (hM.ok j hjA)
    have := hsame.2.2 (M j) hr' (by rw [hat _ hr', hwho j hjA]; exact (hA j hjA).1)
    rw [hat _ hr', hwho j hjA] at this
    rw [← this]; exact he

/-- What is worth the most has a proof for each other flaw. -/
theorem best_tight {n m : Nat} {adj : Int → List Int} (hadj : ∀ i : Int, 0 ≤ i ∧ i < m → ∀ d ∈ adj i, 0 ≤ d ∧ d < n) {w : Int → Nat} {A : List Int} {M : Int → Int} (hM : Mat (adjP adj) A M) (hA : ∀ x ∈ A, 0 ≤ x ∧ x < (m : Int))
    {i : Int} (hi : 0 ≤ i ∧ i < m) (hiA : i ∉ A) (hwi : 0 < w i) (hopt : ∀ S, Ind (adjP adj) S → (∀ x ∈ S, x ∈ i :: A) → sumw w S ≤ sumw w A) :
    ∃ T, Tight (adjP adj) A M T ∧ (∀ e, adjP adj i e → T e) ∧ ∀ j ∈ A, T (M j) → w i ≤ w j := by
  have hno : ¬ Ind (adjP adj) (i :: A) := fun h => by
    have := hopt _ h (fun x hx => hx)
    simp only [sumw] at this; omega
  obtain ⟨T0, hT0, ha0⟩ := (dich hadj hM hA hi hiA).resolve_left hno
  refine ⟨fun d => ∀ T, Tight (adjP adj) A M T → (∀ e, adjP adj i e → T e) → T d, fun d hd => ?_, fun e he T _ ha => ha e he, fun k hk hTk => ?_⟩
  · obtain ⟨j, hj, he, _⟩ := hT0 d (hd T0 hT0 ha0)
    refine ⟨j, hj, he, fun e hje T hT ha => ?_⟩
    exact hT.adj_of hM hj (by rw [he]; exact hd T hT ha) e hje
  · apply Classical.byContradiction
    intro hlt
    have hMk := hM.sub (hM.nd.erase k) (fun x hx => List.mem_of_mem_erase hx)
    have hik : i ∉ A.erase k := fun h => hiA (List.mem_of_mem_erase h)
    rcases dich hadj hMk (fun x hx => hA x (List.mem_of_mem_erase hx)) hi hik with h | ⟨T, hT, ha⟩
    · have h1 := hopt _ h (fun x hx => by
        rcases List.mem_cons.1 hx with rfl | hx
        · simp
        · exact List.mem_cons_of_mem _ (List.mem_of_mem_erase hx))
      have h2 := sumw_perm (w := w) (List.perm_cons_erase hk)
      simp only [sumw] at h1 h2; omega
    · have hTA : Tight (adjP adj) A M T := fun d hd => let ⟨j, hj, he, ha⟩ := hT d hd; ⟨j, List.mem_of_mem_erase hj, he, ha⟩
      obtain ⟨j, hj, he, _⟩ := hT _ (hTk T hTA ha)
      have := hM.inj j (List.mem_of_mem_erase hj) k hk he
      subst this
      exact (List.Nodup.mem_erase_iff hM.nd).1 hj |>.1 rfl

end Mm
end Go.Proofs.YtkoejelglinmnaaGreat

/-
  Plain combinatorics: days for the flaws; full spans and jams.
-/
namespace Go.Proofs.YtkoejelglinmnaaGreat
namespace Mm

theorem mem_adjT {t : Tour} {i d : Int} : d ∈ adjT t i ↔ (flawAt t i).lo ≤ d ∧ d ≤ (flawAt t i).hi ∧ d ∉ t.closed := mem_opens

theorem daysFrom_nodup (closed : List Int) : ∀ (k : Nat) (d : Int), (daysFrom closed k d).Nodup
  | 0, _ => List.nodup_nil
  | k + 1, d => by
    simp only [daysFrom]
    split
    · exact daysFrom_nodup closed k _
    · refine List.nodup_cons.2 ⟨fun h => ?_, daysFrom_nodup closed k _⟩
      have := (mem_daysFrom closed k (d + 1) d).1 h; omega

theorem opens_nodup (closed : List Int) (lo hi : Int) : (opens closed lo hi).Nodup := daysFrom_nodup _ _ _

theorem flawAt_nat {t : Tour} {k : Nat} (h : k < t.flaws.length) : flawAt t (k : Int) = t.flaws[k] := by
  unfold flawAt
  rw [List.getD_eq_getElem?_getD, Int.toNat_natCast, List.getElem?_eq_getElem h]; rfl

theorem flawAt_mem {t : Tour} {i : Int} (h : 0 ≤ i ∧ i < t.flaws.length) : flawAt t i ∈ t.flaws := by
  have hk : i.toNat < t.flaws.length := by omega
  unfold flawAt
  rw [List.getD_eq_getElem?_getD, List.getElem?_eq_getElem hk]
  exact List.getElem_mem hk

/-- Nodup of the same length within another one: all of it. -/
theorem full_sub {α : Type} [DecidableEq α] {l1 l2 : List α} (h1 : l1.Nodup) (hs : ∀ x ∈ l1, x ∈ l2) (hl : l2.length ≤ l1.length) : ∀ x ∈ l2, x ∈ l1 := by
  intro x hx
  apply Classical.byContradiction
  intro hno
  have h := nodup_len (l2 := l2.erase x) h1 (fun y hy => (List.mem_erase_of_ne (fun e : y = x => hno (e ▸ hy))).2 (hs y hy))
  have he := List.length_erase_of_mem hx
  have hp : 0 < l2.length := List.length_pos_of_mem hx
  omega

/-! ### days for the flaws -/
structure Fit (t : Tour) (on : List Int) : Prop where
  len : on.length = t.flaws.length
  ok : ∀ i : Int, 0 ≤ i → i < t.flaws.length → at' on i = -1 ∨ (at' on i ∈ adjT t i ∧ 0 ≤ at' on i)
  inj : ∀ i j : Int, 0 ≤ i → i < t.flaws.length → 0 ≤ j → j < t.flaws.length → at' on i = at' on j → 0 ≤ at' on i → i = j

theorem wrongS_ok (closed : List Int) : ∀ (k : Nat) (fs : List Flaw) (on tk : List Int), on.length = fs.length →
    (wrongS closed k fs on tk = -1 ↔ (∀ i (h : i < on.length) (h' : i < fs.length), on[i] = -1 ∨ (fs[i].lo ≤ on[i] ∧ on[i] ≤ fs[i].hi ∧ on[i] ∉ closed ∧ on[i] ∉ tk)) ∧ on.Pairwise (fun a b => a = b → a = -1))
  | k, [], on, tk, hl => by
    obtain rfl : on = [] := List.eq_nil_of_length_eq_zero (by simpa using hl)
    simp [wrongS]
  | k, f :: fs, [], tk, hl => by simp at hl
  | k, f :: fs, d :: on, tk, hl => by
    have hl' : on.length = fs.length := by simpa using hl
    simp only [wrongS]
    by_cases hd : d = -1
    · rw [if_pos hd, wrongS_ok closed (k + 1) fs on tk hl', List.pairwise_cons]
      constructor
      · rintro ⟨h1, h2⟩
        refine ⟨fun i h h' => ?_, fun _ _ _ => hd, h2⟩
        cases i with
        | zero => exact .inl hd
        | succ i => simpa using h1 i (by simpa using h) (by simpa using h')
      · rintro ⟨h1, _, h2⟩
        exact ⟨fun i h h' => by have := h1 (i + 1) (by simpa using h) (by simpa using h'); simpa only [List.getElem_cons_succ] using this, h2⟩
    · rw [if_neg hd]
      by_cases hok : (f.lo ≤ d ∧ d ≤ f.hi ∧ d ∉ closed) ∧ d ∉ tk
      · rw [if_pos hok, wrongS_ok closed (k + 1) fs on (d :: tk) hl', List.pairwise_cons]
        constructor
        · rintro ⟨h1, h2⟩
          refine ⟨fun i h h' => ?_, fun b hb he => ?_, h2⟩
          · cases i with
            | zero => exact .inr ⟨hok.1.1, hok.1.2.1, hok.1.2.2, hok.2⟩
            | succ i =>
              have := h1 i (by simpa using h) (by simpa using h')
              simp only [List.getElem_cons_succ]
              rcases this with h | ⟨a, b, c, d'⟩
              · exact .inl h
              · exact .inr ⟨a, b, c, fun h => d' (List.mem_cons_of_mem _ h)⟩
          · obtain ⟨i, hi, rfl⟩ := List.getElem_of_mem hb
            rcases h1 i hi (by omega) with h | ⟨_, _, _, d'⟩
            · rw [he, h]
            · exact absurd (by rw [he]; simp) d'
        · rintro ⟨h1, h3, h2⟩
          refine ⟨fun i h h' => ?_, h2⟩
          have := h1 (i + 1) (by simpa using h) (by simpa using h')
          simp only [List.getElem_cons_succ] at this
          rcases this with h0 | ⟨a, b, c, d'⟩
          · exact .inl h0
          · refine .inr ⟨a, b, c, fun hm => ?_⟩
            rcases List.mem_cons.1 hm with e | e
            · exact hd (h3 _ (List.getElem_mem h) e.symm)
            · exact d' e
      · rw [if_neg hok]
        constructor
        · intro h; omega
        · rintro ⟨h1, _⟩
          have := h1 0 (by simp) (by simp)
          simp only [List.getElem_cons_zero] at this
          rcases this with h | ⟨a, b, c, d'⟩
          · exact absurd h hd
          · exact absurd ⟨⟨a, b, c⟩, d'⟩ hok

theorem at_list {l : List Int} {i : Int} (h0 : 0 ≤ i) (h : i < l.length) : at' l i = l[i.toNat]'(by omega) := by
  unfold at'
  rw [List.getD_eq_getElem?_getD, List.getElem?_eq_getElem (by omega)]; rfl

theorem wrongS_fit {t : Tour} (hlo : ∀ f ∈ t.flaws, 0 ≤ f.lo) {on : List Int} (hl : on.length = t.flaws.length) : wrongS t.closed 0 t.flaws on [] = -1 ↔ Fit t on := by
  rw [wrongS_ok t.closed 0 t.flaws on [] hl]
  constructor
  · rintro ⟨h1, h2⟩
    have hnn : ∀ i : Int, 0 ≤ i → i < t.flaws.length → at' on i = -1 ∨ (at' on i ∈ adjT t i ∧ 0 ≤ at' on i) := by
      intro i h0 hi
      have hk : i.toNat < t.flaws.length := by omega
      rw [at_list h0 (by omega), mem_adjT]
      rw [show flawAt t i = t.flaws[i.toNat] from by have := flawAt_nat hk; rwa [Int.toNat_of_nonneg h0] at this]
      rcases h1 i.toNat (by omega) hk with h | ⟨a, b, c, _⟩
      · exact .inl h
      · exact .inr ⟨⟨a, b, c⟩, by have := hlo _ (List.getElem_mem hk); omega⟩
    refine ⟨hl, hnn, fun i j hi0 hi hj0 hj he h0 => ?_⟩
    rw [at_list hi0 (by omega), at_list hj0 (by omega)] at he
    rw [at_list hi0 (by omega)] at h0
    have hp := List.pairwise_iff_getElem.1 h2
    rcases Nat.lt_trichotomy i.toNat j.toNat with h | h | h
    · have := hp i.toNat j.toNat (by omega) (by omega) h he; omega
    · omega
    · have := hp j.toNat i.toNat (by omega) (by omega) h he.symm; omega
  · intro h
    refine ⟨fun i hi hi' => ?_, List.pairwise_iff_getElem.2 fun i j hi hj hij he => ?_⟩
    · have := h.ok (i : Int) (by omega) (by omega)
      rw [at_nat hi, mem_adjT, flawAt_nat hi'] at this
      rcases this with h | ⟨⟨a, b, c⟩, _⟩
      · exact .inl h
      · exact .inr ⟨a, b, c, by simp⟩
    · have hok := h.ok (i : Int) (by omega) (by omega)
      rw [at_nat hi] at hok
      rcases hok with h1 | ⟨_, h1⟩
      · exact h1
      · have := h.inj (i : Int) (j : Int) (by omega) (by omega) (by omega) (by omega) (by rw [at_nat hi, at_nat hj]; exact he) (by rw [at_nat hi]; exact h1)
        omega

/-- The flaws that are mended, by their places. -/
def onA (on : List Int) : List Int := (places on.length).filter fun i => decide (0 ≤ at' on i)

theorem mem_onA {on : List Int} {i : Int} : i ∈ onA on ↔ (0 ≤ i ∧ i < on.length) ∧ 0 ≤ at' on i := by
  rw [onA, List.mem_filter, mem_places]; simp

theorem places_nodup (n : Nat) : (places n).Nodup := nodup_map List.nodup_range (fun x _ y _ h => by omega)

theorem Fit.mat {t : Tour} {on : List Int} (h : Fit t on) : Mat (adjP (adjT t)) (onA on) (at' on) := by
  have hl := h.len
  refine ⟨(places_nodup _).filter _, fun i hi => ?_, fun i hi j hj he => ?_⟩
  · obtain ⟨⟨h1, h2⟩, h0⟩ := mem_onA.1 hi
    rcases h.ok i h1 (by omega) with h | ⟨h, _⟩
    · omega
    · exact h
  · obtain ⟨⟨h1, h2⟩, h0⟩ := mem_onA.1 hi
    obtain ⟨⟨h3, h4⟩, _⟩ := mem_onA.1 hj
    exact h.inj i j h1 (by omega) h3 (by omega) he h0

/-! ### spans -/
theorem low {T : Int → Prop} (c : List Int) : ∀ (k : Nat) (a : Int), a.toNat = k → 0 ≤ a → ∃ lo, 0 ≤ lo ∧ lo ≤ a ∧ (∀ d, lo ≤ d → d < a → d ∉ c → T d) ∧ (lo = 0 ∨ ¬ (lo - 1 ∉ c → T (lo - 1)))
  | 0, a, hk, h0 => ⟨a, h0, by omega, fun d _ _ => by omega, .inl (by omega)⟩
  | k + 1, a, hk, h0 => by
    by_cases h : a - 1 ∉ c → T (a - 1)
    · obtain ⟨lo, h1, h2, h3, h4⟩ := low (T := T) c k (a - 1) (by omega) (by omega)
      refine ⟨lo, h1, by omega, fun d hd1 hd2 hd3 => ?_, h4⟩
      by_cases e : d = a - 1
      · subst e; exact h hd3
      · exact h3 d hd1 (by omega) hd3
    · exact ⟨a, h0, by omega, fun d _ _ => by omega, .inr h⟩

theorem high {T : Int → Prop} (c : List Int) (n : Int) : ∀ (k : Nat) (b : Int), (n - 1 - b).toNat = k → b < n → ∃ hi, b ≤ hi ∧ hi < n ∧ (∀ d, b < d → d ≤ hi → d ∉ c → T d) ∧ (hi = n - 1 ∨ ¬ (hi + 1 ∉ c → T (hi + 1)))
  | 0, b, hk, h0 => ⟨b, by omega, h0, fun d _ _ => by omega, .inl (by omega)⟩
  | k + 1, b, hk, h0 => by
    by_cases h : b + 1 ∉ c → T (b + 1)
    · obtain ⟨hi, h1, h2, h3, h4⟩ := high (T := T) c n k (b + 1) (by omega) (by omega)
      refine ⟨hi, by omega, h2, fun d hd1 hd2 hd3 => ?_, h4⟩
      by_cases e : d = b + 1
      · subst e; exact h hd3
      · exact h3 d (by omega) hd2 hd3
    · exact ⟨b, by omega, h0, fun d _ _ => by omega, .inr h⟩

/-- About days that are had by flaws that can have no others: the greatest span about the days of a flaw. -/
theorem hull {t : Tour} (hs : ∀ f ∈ t.flaws, 0 ≤ f.lo ∧ f.lo ≤ f.hi ∧ f.hi < t.days) {A : List Int} {M : Int → Int} {T : Int → Prop} (hM : Mat (adjP (adjT t)) A M) (hA : ∀ x ∈ A, 0 ≤ x ∧ x < (t.flaws.length : Int))
    (hT : Tight (adjP (adjT t)) A M T) {i : Int} (hi : 0 ≤ i ∧ i < (t.flaws.length : Int)) (ha : ∀ e, adjP (adjT t) i e → T e) :
    ∃ lo hi, 0 ≤ lo ∧ lo ≤ (flawAt t i).lo ∧ (flawAt t i).hi ≤ hi ∧ hi < t.days ∧ (∀ d, lo ≤ d → d ≤ hi → d ∉ t.closed → T d) ∧
      ∀ j ∈ A, lo ≤ M j → M j ≤ hi → lo ≤ (flawAt t j).lo ∧ (flawAt t j).hi ≤ hi := by
  obtain ⟨s1, s2, s3⟩ := hs _ (flawAt_mem hi)
  obtain ⟨lo, l1, l2, l3, l4⟩ := low (T := T) t.closed _ _ rfl s1
  obtain ⟨hi', h1, h2, h3, h4⟩ := high (T := T) t.closed t.days _ _ rfl s3
  have hall : ∀ d, lo ≤ d → d ≤ hi' → d ∉ t.closed → T d := by
    intro d hd1 hd2 hd3
    by_cases e1 : d < (flawAt t i).lo
    · exact l3 d hd1 e1 hd3
    · by_cases e2 : (flawAt t i).hi < d
      · exact h3 d e2 hd2 hd3
      · exact ha d (mem_adjT.2 ⟨by omega, by omega, hd3⟩)
  refine ⟨lo, hi', l1, l2, h1, h2, hall, fun j hj hj1 hj2 => ?_⟩
  obtain ⟨r1, r2, r3⟩ := hs _ (flawAt_mem (hA j hj))
  have hok : M j ∈ adjT t j := hM.ok j hj
  obtain ⟨o1, o2, o3⟩ := mem_adjT.1 hok
  have hadj := hT.adj_of hM hj (hall _ hj1 hj2 o3)
  constructor
  · apply Classical.byContradiction
    intro hlt
    rcases l4 with e | e
    · omega
    · exact e fun hno => hadj _ (mem_adjT.2 ⟨by omega, by omega, hno⟩)
  · apply Classical.byContradiction
    intro hlt
    rcases h4 with e | e
    · omega
    · exact e fun hno => hadj _ (mem_adjT.2 ⟨by omega, by omega, hno⟩)

/-- The flaws mended whose days lie within a span. -/
def inSpan (t : Tour) (on : List Int) (lo hi : Int) : List Nat := (List.range on.length).filter fun i => decide (0 ≤ on.getD i (-1) ∧ lo ≤ (flawAt t i).lo ∧ (flawAt t i).hi ≤ hi)

theorem fullS_iff {t : Tour} {on : List Int} {lo hi merit : Int} : fullS t on lo hi merit = true ↔ (∀ k ∈ inSpan t on lo hi, merit ≤ (flawAt t (k : Int)).merit) ∧ (inSpan t on lo hi).length = roomS t lo hi := by
  simp only [fullS, inSpan, Bool.and_eq_true, List.all_eq_true, Bool.or_eq_true, Bool.not_eq_true', decide_eq_true_eq, decide_eq_false_iff_not, List.mem_filter, List.mem_range]
  constructor
  · rintro ⟨h1, h2⟩
    exact ⟨fun k hk => (h1 k hk.1).resolve_left (fun h => h hk.2), h2⟩
  · rintro ⟨h1, h2⟩
    exact ⟨fun k hk => Classical.byContradiction fun h => by
      rw [not_or] at h
      exact h.2 (h1 k ⟨hk, Classical.not_not.1 h.1⟩), h2⟩

theorem mem_inSpan {t : Tour} {on : List Int} {lo hi : Int} {k : Nat} : k ∈ inSpan t on lo hi ↔ (k : Int) ∈ onA on ∧ lo ≤ (flawAt t (k : Int)).lo ∧ (flawAt t (k : Int)).hi ≤ hi := by
  simp only [inSpan, List.mem_filter, List.mem_range, decide_eq_true_eq, mem_onA, at', Int.toNat_natCast]
  constructor
  · rintro ⟨a, b, c, d⟩; exact ⟨⟨⟨by omega, by omega⟩, b⟩, c, d⟩
  · rintro ⟨⟨⟨a, b⟩, c⟩, d, e⟩; exact ⟨by omega, c, d, e⟩

theorem inSpan_days {t : Tour} {on : List Int} (hf : Fit t on) (lo hi : Int) : ((inSpan t on lo hi).map fun (k : Nat) => at' on (k : Int)).Nodup ∧ ∀ d ∈ (inSpan t on lo hi).map (fun (k : Nat) => at' on (k : Int)), d ∈ opens t.closed lo hi := by
  have hm := hf.mat
  constructor
  · refine nodup_map (List.nodup_range.filter _) (fun x hx y hy he => ?_)
    have := hm.inj _ (mem_inSpan.1 hx).1 _ (mem_inSpan.1 hy).1 he
    omega
  · intro d hd
    obtain ⟨k, hk, rfl⟩ := List.mem_map.1 hd
    obtain ⟨hkA, h1, h2⟩ := mem_inSpan.1 hk
    have hok : at' on (k : Int) ∈ adjT t k := hm.ok _ hkA
    obtain ⟨o1, o2, o3⟩ := mem_adjT.1 hok
    exact mem_opens.2 ⟨by omega, by omega, o3⟩

/-- Days that are had by worthy flaws that can have no others: a full span. -/
theorem full_of_tight {t : Tour} (hs : ∀ f ∈ t.flaws, 0 ≤ f.lo ∧ f.lo ≤ f.hi ∧ f.hi < t.days) {on : List Int} (hf : Fit t on) {T : Int → Prop} {i : Int} (hi : 0 ≤ i ∧ i < (t.flaws.length : Int))
    (hT : Tight (adjP (adjT t)) (onA on) (at' on) T) (ha : ∀ e, adjP (adjT t) i e → T e) {merit : Int} (hw : ∀ j ∈ onA on, T (at' on j) → merit ≤ (flawAt t j).merit) :
    ∃ lo hi, 0 ≤ lo ∧ lo ≤ (flawAt t i).lo ∧ (flawAt t i).hi ≤ hi ∧ hi < t.days ∧ fullS t on lo hi merit = true := by
  have hl := hf.len
  obtain ⟨lo, hi', h1, h2, h3, h4, h5, h6⟩ := hull hs hf.mat (fun x hx => by have := (mem_onA.1 hx).1; omega) hT hi ha
  obtain ⟨d1, d2⟩ := inSpan_days hf lo hi'
  refine ⟨lo, hi', h1, h2, h3, h4, fullS_iff.2 ⟨fun k hk => ?_, ?_⟩⟩
  · have hmem := d2 _ (List.mem_map.2 ⟨k, hk, rfl⟩)
    obtain ⟨o1, o2, o3⟩ := mem_opens.1 hmem
    exact hw _ (mem_inSpan.1 hk).1 (h5 _ o1 o2 o3)
  · have a := nodup_len d1 d2
    have b := nodup_len (opens_nodup t.closed lo hi') (l2 := (inSpan t on lo hi').map fun (k : Nat) => at' on (k : Int)) (fun d hd => by
      obtain ⟨o1, o2, o3⟩ := mem_opens.1 hd
      obtain ⟨j, hj, he, _⟩ := hT d (h5 d o1 o2 o3)
      obtain ⟨⟨j0, _⟩, _⟩ := mem_onA.1 hj
      obtain ⟨k, rfl⟩ := Int.eq_ofNat_of_zero_le j0
      obtain ⟨r1, r2⟩ := h6 _ hj (by omega) (by omega)
      exact List.mem_map.2 ⟨k, mem_inSpan.2 ⟨hj, r1, r2⟩, he⟩)
    simp only [List.length_map] at a b
    unfold roomS; omega

/-- A full span: its open days are had by worthy flaws that can have no others. -/
theorem tight_of_full {t : Tour} {on : List Int} (hf : Fit t on) {lo hi merit : Int} (h : fullS t on lo hi merit = true) :
    Tight (adjP (adjT t)) (onA on) (at' on) (fun d => lo ≤ d ∧ d ≤ hi ∧ d ∉ t.closed) ∧ ∀ j ∈ onA on, (lo ≤ at' on j ∧ at' on j ≤ hi ∧ at' on j ∉ t.closed) → merit ≤ (flawAt t j).merit := by
  obtain ⟨h1, h2⟩ := fullS_iff.1 h
  obtain ⟨d1, d2⟩ := inSpan_days hf lo hi
  have hall := full_sub d1 d2 (by simp only [List.length_map, h2, roomS]; omega)
  constructor
  · rintro d ⟨a, b, c⟩
    obtain ⟨k, hk, he⟩ := List.mem_map.1 (hall d (mem_opens.2 ⟨a, b, c⟩))
    obtain ⟨m1, m2, m3⟩ := mem_inSpan.1 hk
    refine ⟨_, m1, he, fun e hje => ?_⟩
    obtain ⟨o1, o2, o3⟩ := mem_adjT.1 hje
    exact ⟨by omega, by omega, o3⟩
  · rintro j hj ⟨a, b, c⟩
    obtain ⟨k, hk, he⟩ := List.mem_map.1 (hall _ (mem_opens.2 ⟨a, b, c⟩))
    have := hf.mat.inj _ (mem_inSpan.1 hk).1 _ hj he
    rw [← this]
    exact h1 k hk

/-! ### jams -/
theorem not_ind_of_jam {t : Tour} {l : List Int} {lo hi : Int} (hj : jamS t l lo hi = true) : ¬ Ind (adjP (adjT t)) l := by
  rintro ⟨M, hM⟩
  have h : roomS t lo hi < withinS t lo hi l := by simpa [jamS] using hj
  have := nodup_len (l1 := (l.filter fun i => decide (lo ≤ (flawAt t i).lo ∧ (flawAt t i).hi ≤ hi)).map M) (l2 := opens t.closed lo hi)
    (nodup_map (hM.nd.filter _) (fun x hx y hy => hM.inj x (List.mem_filter.1 hx).1 y (List.mem_filter.1 hy).1))
    (fun d hd => by
      obtain ⟨x, hx, rfl⟩ := List.mem_map.1 hd
      obtain ⟨hx1, hx2⟩ := List.mem_filter.1 hx
      have hok : M x ∈ adjT t x := hM.ok x hx1
      obtain ⟨o1, o2, o3⟩ := mem_adjT.1 hok
      have hx2 : lo ≤ (flawAt t x).lo ∧ (flawAt t x).hi ≤ hi := by simpa using hx2
      exact mem_opens.2 ⟨by omega, by omega, o3⟩)
  simp only [List.length_map] at this
  unfold roomS withinS at h
  omega

theorem jam_of_tight {t : Tour} (hs : ∀ f ∈ t.flaws, 0 ≤ f.lo ∧ f.lo ≤ f.hi ∧ f.hi < t.days) {A l : List Int} {M : Int → Int} {T : Int → Prop} (hM : Mat (adjP (adjT t)) A M) (hA : ∀ x ∈ A, 0 ≤ x ∧ x < (t.flaws.length : Int))
    (hT : Tight (adjP (adjT t)) A M T) {i : Int} (hi : 0 ≤ i ∧ i < (t.flaws.length : Int)) (hiA : i ∉ A) (ha : ∀ e, adjP (adjT t) i e → T e) (hl : ∀ x ∈ i :: A, x ∈ l) :
    ∃ lo hi, 0 ≤ lo ∧ lo ≤ hi ∧ hi < t.days ∧ jamS t l lo hi = true := by
  obtain ⟨lo, hi', h1, h2, h3, h4, h5, h6⟩ := hull hs hM hA hT hi ha
  obtain ⟨s1, s2, s3⟩ := hs _ (flawAt_mem hi)
  refine ⟨lo, hi', h1, by omega, h4, ?_⟩
  have hroom := nodup_len (opens_nodup t.closed lo hi') (l2 := (A.filter fun j => decide (lo ≤ M j ∧ M j ≤ hi')).map M) (fun d hd => by
      obtain ⟨o1, o2, o3⟩ := mem_opens.1 hd
      obtain ⟨j, hj, he, _⟩ := hT d (h5 d o1 o2 o3)
      exact List.mem_map.2 ⟨j, List.mem_filter.2 ⟨hj, by simpa [he] using ⟨o1, o2⟩⟩, he⟩)
  have hin := nodup_len (l1 := i :: A.filter fun j => decide (lo ≤ M j ∧ M j ≤ hi')) (l2 := l.filter fun i => decide (lo ≤ (flawAt t i).lo ∧ (flawAt t i).hi ≤ hi'))
    (List.nodup_cons.2 ⟨fun h => hiA (List.mem_filter.1 h).1, hM.nd.filter _⟩)
    (fun x hx => by
      rcases List.mem_cons.1 hx with rfl | hx
      · exact List.mem_filter.2 ⟨hl _ (by simp), by simpa using ⟨h2, h3⟩⟩
      · obtain ⟨hx1, hx2⟩ := List.mem_filter.1 hx
        have hx2 : lo ≤ M x ∧ M x ≤ hi' := by simpa using hx2
        have := h6 x hx1 hx2.1 hx2.2
        exact List.mem_filter.2 ⟨hl _ (List.mem_cons_of_mem _ hx1), by simpa using this⟩)
  simp only [List.length_map, List.length_cons] at hroom hin
  unfold jamS roomS withinS
  simp only [decide_eq_true_eq]
  omega

end Mm
end Go.Proofs.YtkoejelglinmnaaGreat

/-
  Plain combinatorics: what meritS is: the most that can be worth.
-/
namespace Go.Proofs.YtkoejelglinmnaaGreat
namespace Mm

/-! ### insertion -/
theorem putIn_perm (less : Int → Int → Bool) (x : Int) (l : List Int) : (putIn less x l).Perm (x :: l) := by
  unfold putIn
  refine List.perm_middle.trans ?_
  rw [List.take_append_drop]

theorem sortS_perm (less : Int → Int → Bool) (l : List Int) : (sortS less l).Perm l := by
  have key : ∀ (l acc : List Int), (l.foldl (fun acc x => putIn less x acc) acc).Perm (acc ++ l) := by
    intro l
    induction l with
    | nil => intro acc; simp
    | cons x l ih =>
      intro acc
      rw [List.foldl_cons]
      refine (ih _).trans ?_
      refine ((putIn_perm less x acc).append_right l).trans ?_
      simpa using (List.perm_middle (l₁ := acc) (l₂ := l) (a := x)).symm
  simpa [sortS] using key l []

/-- What stands ahead of the place is not passed; what stands behind is. -/
theorem putAt_spec (less : Int → Int → Bool) (x : Int) (l : List Int) : (∀ y ∈ l.drop (putAt less x l), less x y = true) ∧ ∀ (h : 0 < putAt less x l), ∃ h' : putAt less x l - 1 < l.length, less x l[putAt less x l - 1] = false := by
  obtain ⟨m, hm⟩ : ∃ m, m = (l.reverse.takeWhile fun j => less x j).length := ⟨_, rfl⟩
  have hml : m ≤ l.length := by
    have := (List.takeWhile_sublist (fun j => less x j) (l := l.reverse)).length_le
    rw [hm]; simpa using this
  have hp : putAt less x l = l.length - m := by rw [putAt, hm]
  rw [hp]
  have htw : l.reverse.takeWhile (fun j => less x j) = l.reverse.take m := by
    have := (List.takeWhile_prefix (fun j => less x j) (l := l.reverse))
    rw [hm]; exact List.prefix_iff_eq_take.1 this
  constructor
  · intro y hy
    have hy' : y ∈ l.reverse.take m := by
      rw [List.take_reverse, List.mem_reverse]
      exact hy
    rw [← htw] at hy'
    exact List.all_eq_true.1 List.all_takeWhile y hy'
  · intro h
    refine ⟨by omega, ?_⟩
    have hlt : m < l.reverse.length := by simp; omega
    have hne : less x (l.reverse[m]) ≠ true := by
      intro ht
      have h1 : l.reverse.takeWhile (fun j => less x j) = l.reverse.take m := htw
      have h2 : (l.reverse.take m ++ l.reverse.drop m).takeWhile (fun j => less x j) = l.reverse.take m := by rw [List.take_append_drop]; exact h1
      rw [List.takeWhile_append_of_pos (fun y hy => by rw [← htw] at hy; exact List.all_eq_true.1 List.all_takeWhile y hy), List.drop_eq_getElem_cons hlt, List.takeWhile_cons, if_pos ht] at h2
      have := congrArg List.length h2
      simp at this
    have he : l.reverse[m] = l[l.length - m - 1]'(by omega) := by
      rw [List.getElem_reverse]
      congr 1; omega
    rw [he] at hne
    simpa using hne

/-- Sorted by a number that each has: the greatest first; those alike stay in order. -/
theorem putIn_sorted {less : Int → Int → Bool} (key : Int → Int) (hk : ∀ x y, less x y = decide (key y < key x)) {x : Int} {l : List Int} (h : l.Pairwise fun a b => key b ≤ key a) : (putIn less x l).Pairwise fun a b => key b ≤ key a := by
  obtain ⟨h1, h2⟩ := putAt_spec less x l
  obtain ⟨k, hkk⟩ : ∃ k, k = putAt less x l := ⟨_, rfl⟩
  unfold putIn
  rw [← hkk] at h1 h2 ⊢
  have hl : l.take k ++ l.drop k = l := List.take_append_drop k l
  rw [← hl] at h
  obtain ⟨p1, p2, p3⟩ := List.pairwise_append.1 h
  have hx1 : ∀ y ∈ l.drop k, key y ≤ key x := fun y hy => by have := h1 y hy; rw [hk] at this; simp at this; omega
  have hx2 : ∀ y ∈ l.take k, key x ≤ key y := by
    intro y hy
    have hpos : 0 < k := by
      rcases Nat.eq_zero_or_pos k with h0 | h0
      · rw [h0] at hy; simp at hy
      · exact h0
    obtain ⟨hlt, hf⟩ := h2 hpos
    rw [hk] at hf
    simp at hf
    obtain ⟨i, hi, rfl⟩ := List.getElem_of_mem hy
    rw [List.length_take] at hi
    by_cases e : i = k - 1
    · subst e; rw [List.getElem_take]; exact hf
    · have hlk : k - 1 < (l.take k).length := by rw [List.length_take]; omega
      have := List.pairwise_iff_getElem.1 p1 i (k - 1) (by rw [List.length_take]; omega) hlk (by omega)
      simp only [List.getElem_take] at this ⊢
      omega
  refine List.pairwise_append.2 ⟨p1, List.pairwise_cons.2 ⟨hx1, p2⟩, fun a ha b hb => ?_⟩
  rcases List.mem_cons.1 hb with rfl | hb
  · exact hx2 a ha
  · exact p3 a ha b hb

theorem sortS_sorted {less : Int → Int → Bool} (key : Int → Int) (hk : ∀ x y, less x y = decide (key y < key x)) (l : List Int) : (sortS less l).Pairwise fun a b => key b ≤ key a := by
  have h : ∀ (l acc : List Int), acc.Pairwise (fun a b => key b ≤ key a) → (l.foldl (fun acc x => putIn less x acc) acc).Pairwise (fun a b => key b ≤ key a) := by
    intro l
    induction l with
    | nil => intro acc h; exact h
    | cons x l ih => intro acc h; rw [List.foldl_cons]; exact ih _ (putIn_sorted key hk h)
  exact h l [] .nil

/-! ### the most -/
structure OptI (adj : Int → List Int) (w : Int → Nat) (m n : Nat) : Prop where
  ex : ∃ A, Ind (adjP adj) A ∧ (∀ x ∈ A, 0 ≤ x ∧ x < (m : Int)) ∧ sumw w A = n
  le : ∀ A, Ind (adjP adj) A → (∀ x ∈ A, 0 ≤ x ∧ x < (m : Int)) → sumw w A ≤ n

theorem OptI.unique {adj : Int → List Int} {w : Int → Nat} {m n n' : Nat} (h : OptI adj w m n) (h' : OptI adj w m n') : n = n' := by
  obtain ⟨A, h1, h2, h3⟩ := h.ex
  obtain ⟨B, g1, g2, g3⟩ := h'.ex
  have := h'.le A h1 h2
  have := h.le B g1 g2
  omega

theorem Ind.weak {adj adj' : Int → List Int} {A : List Int} (h : Ind (adjP adj) A) (ha : ∀ x ∈ A, ∀ d ∈ adj x, d ∈ adj' x) : Ind (adjP adj') A := by
  obtain ⟨M, hM⟩ := h
  exact ⟨M, hM.nd, fun l hl => ha l hl _ (hM.ok l hl), hM.inj⟩

theorem OptI.mono {adj adj' : Int → List Int} {w w' : Int → Nat} {m n n' : Nat} (h : OptI adj w m n) (h' : OptI adj' w' m n') (ha : ∀ x : Int, 0 ≤ x → x < m → ∀ d ∈ adj x, d ∈ adj' x) (hw : ∀ x : Int, 0 ≤ x → x < m → w x ≤ w' x) : n ≤ n' := by
  obtain ⟨A, h1, h2, h3⟩ := h.ex
  have h4 := h'.le A (h1.weak fun x hx => ha x (h2 x hx).1 (h2 x hx).2) h2
  have h5 := sumw_le (w := w) (v := w') (l := A) (fun x hx => hw x (h2 x hx).1 (h2 x hx).2)
  omega

theorem sumw_filter (w : Int → Nat) (p : Int → Bool) (l : List Int) : sumw w l = sumw w (l.filter p) + sumw w (l.filter fun x => !p x) := by
  induction l with
  | nil => rfl
  | cons a l ih => cases h : p a <;> simp [h, sumw] <;> omega

/-- With one day more, no more is gained than the greatest worth. -/
theorem OptI.day {adj adj' : Int → List Int} {w : Int → Nat} {m n n' most : Nat} {day : Int} (h : OptI adj w m n) (h' : OptI adj' w m n') (ha : ∀ x : Int, 0 ≤ x → x < m → ∀ d ∈ adj' x, d ∈ adj x ∨ d = day) (hw : ∀ x : Int, 0 ≤ x → x < m → w x ≤ most) : n' ≤ n + most := by
  obtain ⟨A, ⟨M, hM⟩, h2, h3⟩ := h'.ex
  have h4 := h.le (A.filter fun x => !decide (M x = day)) ⟨M, hM.nd.filter _, fun l hl => by
      obtain ⟨hl1, hl2⟩ := List.mem_filter.1 hl
      have hne : M l ≠ day := by simpa using hl2
      rcases ha l (h2 l hl1).1 (h2 l hl1).2 (M l) (hM.ok l hl1) with h | h
      · exact h
      · exact absurd h hne, fun l hl l' hl' => hM.inj l (List.mem_filter.1 hl).1 l' (List.mem_filter.1 hl').1⟩ (fun x hx => h2 x (List.mem_filter.1 hx).1)
  have h5 := sumw_filter w (fun x => decide (M x = day)) A
  have h6 : sumw w (A.filter fun x => decide (M x = day)) ≤ most := by
    cases hf : A.filter (fun x => decide (M x = day)) with
    | nil => simp [sumw]
    | cons a l =>
      have hmem : ∀ x ∈ a :: l, x ∈ A ∧ M x = day := fun x hx => by rw [← hf] at hx; obtain ⟨p, q⟩ := List.mem_filter.1 hx; exact ⟨p, by simpa using q⟩
      have hnd : (a :: l).Nodup := by rw [← hf]; exact hM.nd.filter _
      cases l with
      | nil =>
        obtain ⟨p, _⟩ := hmem a (by simp)
        simp only [sumw, Nat.add_zero]
        exact hw a (h2 a p).1 (h2 a p).2
      | cons b l =>
        obtain ⟨p, q⟩ := hmem a (by simp)
        obtain ⟨p', q'⟩ := hmem b (by simp)
        have := hM.inj a p b p' (by rw [q, q'])
        subst this
        simp at hnd
  omega

def wI (t : Tour) (i : Int) : Nat := (flawAt t i).merit.toNat

theorem meritOf_sum {t : Tour} (hme : ∀ f ∈ t.flaws, 0 ≤ f.merit) : ∀ (has : List Int), (∀ x ∈ has, x = -1 ∨ (0 ≤ x ∧ x < t.flaws.length)) → meritOf t has = (sumw (wI t) (hadBy has) : Nat)
  | [], _ => rfl
  | x :: l, h => by
    have ih := meritOf_sum hme l (fun y hy => h y (List.mem_cons_of_mem _ hy))
    have e : meritOf t (x :: l) = (if 0 ≤ x then (flawAt t x).merit else 0) + meritOf t l := by simp [meritOf]
    rw [e, ih]
    unfold hadBy
    rw [List.filter_cons]
    by_cases hx : 0 ≤ x
    · rcases h x (by simp) with h1 | h1
      · omega
      · have := hme _ (flawAt_mem h1)
        simp only [hx, if_true, decide_true, sumw, wI]
        omega
    · simp [hx]

/-- What is known of the best plan. -/
theorem best_greedy {t : Tour} (hdl : 0 ≤ t.days) (hdh : t.days ≤ 60) (hs : ∀ f ∈ t.flaws, 0 ≤ f.lo ∧ f.hi < t.days) : Greedy (adjT t) t.days.toNat t.flaws.length (wI t) (orderS (lessW t) t.flaws.length) (bestHas t) := by
  have hadj : ∀ i : Int, 0 ≤ i ∧ i < t.flaws.length → ∀ d ∈ adjT t i, 0 ≤ d ∧ d < t.days.toNat := by
    intro i hi d hd
    obtain ⟨a, b, _⟩ := mem_adjT.1 hd
    obtain ⟨c, e⟩ := hs _ (flawAt_mem hi)
    omega
  have hp : (orderS (lessW t) t.flaws.length).Perm (places t.flaws.length) := sortS_perm _ _
  have h := Greedy.all (w := wI t) hadj (by unfold fuel; omega) (orderS (lessW t) t.flaws.length) [] (noDays t) (Greedy.none _ _ _ _) (by simpa using hp.nodup_iff.2 (places_nodup _)) (fun x hx => mem_places.1 (hp.mem_iff.1 hx)) (by
    have := sortS_sorted (less := lessW t) (fun i => (flawAt t i).merit) (fun x y => rfl) (places t.flaws.length)
    refine List.Pairwise.imp ?_ (show List.Pairwise _ ([] ++ orderS (lessW t) t.flaws.length) from this)
    intro a b hab
    unfold wI; omega)
  exact h

theorem order_mem {t : Tour} {x : Int} : x ∈ orderS (lessW t) t.flaws.length ↔ 0 ≤ x ∧ x < t.flaws.length := by
  rw [orderS, (sortS_perm (lessW t) (places t.flaws.length)).mem_iff]; exact mem_places

theorem merit_optI {t : Tour} (hdl : 0 ≤ t.days) (hdh : t.days ≤ 60) (hs : ∀ f ∈ t.flaws, 0 ≤ f.lo ∧ f.hi < t.days) (hme : ∀ f ∈ t.flaws, 0 ≤ f.merit) : ∃ n : Nat, meritS t = n ∧ OptI (adjT t) (wI t) t.flaws.length n := by
  have g := best_greedy hdl hdh hs
  obtain ⟨hM, _, _⟩ := g.st.mat g.inv.len
  refine ⟨sumw (wI t) (hadBy (bestHas t)), meritOf_sum hme _ g.inv.ok, ⟨_, ⟨_, hM⟩, fun x hx => order_mem.1 (g.sub x hx), rfl⟩, fun A hA hin => ?_⟩
  exact cert_best hM g.cert hA (fun x hx => order_mem.2 (hin x hx))

theorem valid_opt {t : Tour} (h : Valid t) : ∃ n : Nat, meritS t = n ∧ OptI (adjT t) (wI t) t.flaws.length n :=
  merit_optI (by have := h.d1; omega) h.d2 (fun f hf => ⟨(h.fs f hf).1, (h.fs f hf).2.2⟩) (fun f hf => by have := h.fm f hf; omega)

end Mm
end Go.Proofs.YtkoejelglinmnaaGreat

/-
  Plain laws: a day more, a day less, wider days.
-/
namespace Go.Proofs.YtkoejelglinmnaaGreat
open Mm

theorem badClosed_of {days : Int} : ∀ {l : List Int} {p : Option Int}, (∀ d ∈ l, 0 ≤ d ∧ d < days) → l.Pairwise (· < ·) → (∀ q, p = some q → ∀ d ∈ l, q < d) → badClosed days p l = false
  | [], p, _, _, _ => badClosed_nil days p
  | d :: l, p, h1, h2, h3 => by
    have h2' := List.pairwise_cons.1 h2
    have hd := h1 d (by simp)
    have ih := badClosed_of (p := some d) (fun x hx => h1 x (List.mem_cons_of_mem _ hx)) h2'.2 (fun q hq x hx => by obtain rfl := Option.some.inj hq; exact h2'.1 x hx)
    rw [badClosed_cons, ih]
    have e1 : decide (0 ≤ d ∧ d ≤ days - 1) = true := by simp; omega
    rw [e1]
    cases p with
    | none => rfl
    | some q =>
      have := h3 q rfl d (by simp)
      simp; omega

theorem flawErr_of {days : Int} : ∀ {l : List Flaw} {had : List Int}, (∀ f ∈ l, 1 ≤ f.id ∧ f.id ≤ 1099511627776) → (∀ f ∈ l, 0 ≤ f.lo ∧ f.lo ≤ f.hi ∧ f.hi < days) → (∀ f ∈ l, 1 ≤ f.merit ∧ f.merit ≤ 1000) → (l.map (·.id)).Nodup → (∀ f ∈ l, f.id ∉ had) → flawErr days had l = 0
  | [], _, _, _, _, _, _ => rfl
  | f :: l, had, h1, h2, h3, h4, h5 => by
    have h4' := List.nodup_cons.1 (by simpa using h4 : (f.id :: l.map (·.id)).Nodup)
    have ih := flawErr_of (had := f.id :: had) (fun x hx => h1 x (List.mem_cons_of_mem _ hx)) (fun x hx => h2 x (List.mem_cons_of_mem _ hx)) (fun x hx => h3 x (List.mem_cons_of_mem _ hx)) h4'.2 (fun x hx hm => by
      rcases List.mem_cons.1 hm with h | h
      · exact h4'.1 (List.mem_map.2 ⟨x, hx, h⟩)
      · exact h5 x (List.mem_cons_of_mem _ hx) h)
    have hs : spanOk days f.lo f.hi = true := by simpa [spanOk] using h2 f (by simp)
    rw [flawErr, if_neg (by simp [h1 f (by simp), hs, h3 f (by simp)]), if_neg (h5 f (by simp)), ih]

theorem valid_chk {t : Tour} (h : Valid t) : chk t = 0 := by
  have h1 := h.d1; have h2 := h.d2; have h3 := h.fn
  rw [chk, if_neg (by omega), if_neg (by rw [badClosed_of h.cr h.cs (by simp)]; simp), if_neg (by omega)]
  exact flawErr_of h.fi h.fs h.fm h.nd (by simp)

theorem dayE_zero {t : Tour} (h : Valid t) {day : Int} (hd : 0 ≤ day ∧ day < t.days) : dayE t day = 0 := by
  rw [dayE, if_pos (valid_chk h), if_pos (by omega)]

/-! ### the greatest worth -/
def mostS (l : List Flaw) : Int := l.foldl (fun m f => if f.merit > m then f.merit else m) 0

theorem mostS_ge (l : List Flaw) : (∀ f ∈ l, f.merit ≤ mostS l) ∧ 0 ≤ mostS l := by
  have key : ∀ (l : List Flaw) (m : Int), m ≤ l.foldl (fun m f => if f.merit > m then f.merit else m) m ∧ ∀ f ∈ l, f.merit ≤ l.foldl (fun m f => if f.merit > m then f.merit else m) m := by
    intro l
    induction l with
    | nil => intro m; exact ⟨Int.le_refl _, by simp⟩
    | cons g l ih =>
      intro m
      obtain ⟨i1, i2⟩ := ih (if g.merit > m then g.merit else m)
      rw [List.foldl_cons]
      refine ⟨?_, fun f hf => ?_⟩
      · have : m ≤ if g.merit > m then g.merit else m := by split <;> omega
        omega
      · rcases List.mem_cons.1 hf with rfl | hf
        · have : f.merit ≤ if f.merit > m then f.merit else m := by split <;> omega
          omega
        · exact i2 f hf
  exact ⟨(key l 0).2, (key l 0).1⟩

theorem mem_adj_closed {t : Tour} {day x d : Int} : d ∈ adjT (closedS t day) x ↔ d ∈ adjT t x ∧ d ≠ day := by
  rw [mem_adjT, mem_adjT, mem_closedS]
  show ((flawAt t x).lo ≤ d ∧ d ≤ (flawAt t x).hi ∧ ¬(d = day ∨ d ∈ t.closed)) ↔ _
  rw [not_or]
  constructor
  · rintro ⟨a, b, c, e⟩; exact ⟨⟨a, b, e⟩, c⟩
  · rintro ⟨⟨a, b, e⟩, c⟩; exact ⟨a, b, c, e⟩

theorem mem_adj_open {t : Tour} {day x d : Int} : d ∈ adjT (openT t day) x ↔ (flawAt t x).lo ≤ d ∧ d ≤ (flawAt t x).hi ∧ (d ∉ t.closed ∨ d = day) := by
  rw [mem_adjT]
  show ((flawAt t x).lo ≤ d ∧ d ≤ (flawAt t x).hi ∧ d ∉ t.closed.filter fun d => !decide (d = day)) ↔ _
  rw [List.mem_filter]
  constructor
  · rintro ⟨a, b, c⟩
    refine ⟨a, b, ?_⟩
    by_cases e : d = day
    · exact .inr e
    · exact .inl fun h => c ⟨h, by simpa using e⟩
  · rintro ⟨a, b, c⟩
    refine ⟨a, b, fun h => ?_⟩
    rcases c with c | c
    · exact c h.1
    · subst c; simp at h

theorem merit_le {t u : Tour} (ht : Valid t) (hu : Valid u) (hf : u.flaws = t.flaws) (ha : ∀ x : Int, 0 ≤ x → x < t.flaws.length → ∀ d ∈ adjT t x, d ∈ adjT u x) : meritS t ≤ meritS u := by
  obtain ⟨n, h1, h2⟩ := valid_opt ht
  obtain ⟨m, h3, h4⟩ := valid_opt hu
  rw [hf] at h4
  have := h2.mono h4 ha (fun x _ _ => by unfold wI flawAt; rw [hf]; exact Nat.le_refl _)
  omega

theorem merit_day {t u : Tour} (ht : Valid t) (hu : Valid u) (hf : u.flaws = t.flaws) {day : Int} (ha : ∀ x : Int, 0 ≤ x → x < t.flaws.length → ∀ d ∈ adjT u x, d ∈ adjT t x ∨ d = day) : meritS u ≤ meritS t + mostS t.flaws := by
  obtain ⟨n, h1, h2⟩ := valid_opt ht
  obtain ⟨m, h3, h4⟩ := valid_opt hu
  rw [hf] at h4
  have hw : wI u = wI t := by funext x; unfold wI flawAt; rw [hf]
  rw [hw] at h4
  obtain ⟨m1, m2⟩ := mostS_ge t.flaws
  have := OptI.day (most := (mostS t.flaws).toNat) h2 h4 ha (fun x h0 hx => by
    have := m1 _ (flawAt_mem ⟨h0, hx⟩)
    unfold wI; omega)
  omega

theorem closed_same {t : Tour} {day : Int} (h : day ∈ t.closed) : closedS t day = t := by
  cases t; simp only [closedS] at *; rw [if_pos h]

theorem open_same {t : Tour} {day : Int} (h : day ∉ t.closed) : openT t day = t := by
  cases t with
  | mk a c f =>
    simp only [openT] at *
    congr 1
    exact List.filter_eq_self.2 fun x hx => by
      have : x ≠ day := fun e => h (e ▸ hx)
      simpa using this

theorem merit_congr {t u : Tour} (ht : Valid t) (hu : Valid u) (hf : u.flaws = t.flaws) (ha : ∀ x : Int, 0 ≤ x → x < t.flaws.length → ∀ d, d ∈ adjT t x ↔ d ∈ adjT u x) : meritS t = meritS u := by
  have h1 := merit_le ht hu hf (fun x a b d => (ha x a b d).1)
  have h2 := merit_le hu ht hf.symm (fun x a b d => (ha x a (by rw [← hf]; exact b) d).2)
  omega

/-- A day more, a day less. -/
theorem more_days {t : Tour} (hv : Valid t) {day : Int} (hd : 0 ≤ day ∧ day < t.days) :
    (0 ≤ gainR t day ∧ gainR t day ≤ mostS t.flaws) ∧ (0 ≤ lostR t day ∧ lostR t day ≤ mostS t.flaws) ∧ ¬ (0 < gainR t day ∧ 0 < lostR t day) ∧ dayE (closedS t day) day = 0 ∧ gainR (closedS t day) day = gainR t day + lostR t day := by
  have e := dayE_zero hv hd
  have ho := hv.opened day
  have hc := hv.close hd
  have ec : dayE (closedS t day) day = 0 := dayE_zero hc hd
  have hco := hc.opened day
  have g1 : gainR t day = meritS (openT t day) - meritS t := by rw [gainR, if_pos e]
  have l1 : lostR t day = meritS t - meritS (closedS t day) := by rw [lostR, if_pos e]
  have g2 : gainR (closedS t day) day = meritS (openT (closedS t day) day) - meritS (closedS t day) := by rw [gainR, if_pos ec]
  have a1 : meritS t ≤ meritS (openT t day) := merit_le hv ho rfl fun x _ _ d hd => by
    rw [mem_adj_open]; obtain ⟨p, q, r⟩ := mem_adjT.1 hd; exact ⟨p, q, .inl r⟩
  have a2 : meritS (openT t day) ≤ meritS t + mostS t.flaws := merit_day hv ho rfl (day := day) fun x _ _ d hd => by
    obtain ⟨p, q, r⟩ := mem_adj_open.1 hd
    rcases r with r | r
    · exact .inl (mem_adjT.2 ⟨p, q, r⟩)
    · exact .inr r
  have b1 : meritS (closedS t day) ≤ meritS t := merit_le hc hv rfl fun x _ _ d hd => (mem_adj_closed.1 hd).1
  have b2 : meritS t ≤ meritS (closedS t day) + mostS t.flaws := merit_day hc hv rfl (day := day) fun x _ _ d hd => by
    by_cases h : d = day
    · exact .inr h
    · exact .inl (mem_adj_closed.2 ⟨hd, h⟩)
  have c1 : meritS (openT (closedS t day) day) = meritS (openT t day) := merit_congr hco ho rfl fun x _ _ d => by
    rw [mem_adj_open, mem_adj_open]
    show ((flawAt t x).lo ≤ d ∧ d ≤ (flawAt t x).hi ∧ (d ∉ (closedS t day).closed ∨ d = day)) ↔ _
    rw [mem_closedS, not_or]
    constructor
    · rintro ⟨p, q, r | r⟩
      · exact ⟨p, q, .inl r.2⟩
      · exact ⟨p, q, .inr r⟩
    · rintro ⟨p, q, r⟩
      by_cases h : d = day
      · exact ⟨p, q, .inr h⟩
      · exact ⟨p, q, .inl ⟨h, r.resolve_right h⟩⟩
  have one : meritS (closedS t day) = meritS t ∨ meritS (openT t day) = meritS t := by
    by_cases h : day ∈ t.closed
    · left; rw [closed_same h]
    · right; rw [open_same h]
  refine ⟨⟨by omega, by omega⟩, ⟨by omega, by omega⟩, by omega, ec, by omega⟩

/-- Wider days of a flaw. -/
theorem more_wide {t : Tour} (hv : Valid t) {k : Nat} (hk : k < t.flaws.length) {lo hi : Int} (h1 : lo ≤ t.flaws[k].lo) (h2 : t.flaws[k].hi ≤ hi) (h3 : 0 ≤ lo ∧ hi < t.days) :
    widerE t t.flaws[k].id lo hi = 0 ∧ 0 ≤ widerR t t.flaws[k].id lo hi := by
  have hsp := hv.fs _ (List.getElem_mem hk)
  have hf := findS_at hv.nd hk
  have ho : spanOk t.days lo hi = true := by simp [spanOk]; omega
  have e1 : widerE t t.flaws[k].id lo hi = 0 := by rw [widerE, if_pos (valid_chk hv), hf, if_neg (by omega), if_pos ho]
  have e2 : widerR t t.flaws[k].id lo hi = meritS (widerT t k lo hi) - meritS t := by rw [widerR, if_pos (valid_chk hv), hf, if_neg (by omega), if_pos ho]; rfl
  refine ⟨e1, ?_⟩
  have hg : flawAt t (k : Int) = t.flaws[k] := flawAt_nat hk
  have hlen : (widerT t k lo hi).flaws.length = t.flaws.length := by simp [widerT]
  have hat : ∀ x : Int, 0 ≤ x → x < t.flaws.length → flawAt (widerT t k lo hi) x = if x = k then { t.flaws[k] with lo := lo, hi := hi } else flawAt t x := by
    intro x h0 hx
    have hxl : x.toNat < t.flaws.length := by omega
    unfold flawAt
    rw [List.getD_eq_getElem?_getD, List.getD_eq_getElem?_getD]
    show ((t.flaws.set k { flawAt t k with lo := lo, hi := hi })[x.toNat]?).getD _ = _
    rw [List.getElem?_set, hg]
    by_cases e : x = k
    · subst e
      simp [hk]
    · rw [if_neg (by omega), if_neg e]
  obtain ⟨n, p1, p2⟩ := valid_opt hv
  have hs := hv.small
  have hsw := small_wider hs hk (lo := lo) (hi := hi) h3
  obtain ⟨m, p3, p4⟩ := merit_optI hsw.dl hsw.dh hsw.sp (fun f hf => (hsw.me f hf).1)
  rw [hlen] at p4
  have := p2.mono p4 (fun x h0 hx d hd => by
    rw [mem_adjT] at hd ⊢
    rw [hat x h0 hx]
    show _ ∧ _ ∧ d ∉ t.closed
    by_cases e : x = k
    · subst e
      rw [if_pos rfl]
      rw [hg] at hd
      exact ⟨by have := hd.1; simp only; omega, by have := hd.2.1; simp only; omega, hd.2.2⟩
    · rw [if_neg e]; exact hd) (fun x h0 hx => by
    unfold wI
    rw [hat x h0 hx]
    by_cases e : x = k
    · subst e; rw [if_pos rfl, hg]; exact Nat.le_refl _
    · rw [if_neg e]; exact Nat.le_refl _)
  rw [e2]
  omega

end Go.Proofs.YtkoejelglinmnaaGreat

/-
  Plain laws: the best worth of a list of flaws, in whatever order; parts of the flaws.
-/
namespace Go.Proofs.YtkoejelglinmnaaGreat
open Mm

def adjF (c : List Int) (f : Flaw) (d : Int) : Prop := f.lo ≤ d ∧ d ≤ f.hi ∧ d ∉ c
def wF (f : Flaw) : Nat := f.merit.toNat

structure OptF (c : List Int) (fs : List Flaw) (n : Nat) : Prop where
  ex : ∃ A, Ind (adjF c) A ∧ (∀ x ∈ A, x ∈ fs) ∧ sumw wF A = n
  le : ∀ A, Ind (adjF c) A → (∀ x ∈ A, x ∈ fs) → sumw wF A ≤ n

theorem ind_map {F G : Type} {adj : F → Int → Prop} {adj' : G → Int → Prop} (g : F → G) {A : List F} (h : Ind adj A) (hg : ∀ x ∈ A, ∀ y ∈ A, g x = g y → x = y) (ha : ∀ x ∈ A, ∀ d, adj x d → adj' (g x) d) : Ind adj' (A.map g) := by
  obtain ⟨M, hM⟩ := h
  classical
  let N : G → Int := fun y => if h : ∃ x, x ∈ A ∧ g x = y then M (Classical.choose h) else 0
  have hN : ∀ x ∈ A, N (g x) = M x := by
    intro x hx
    have h : ∃ x', x' ∈ A ∧ g x' = g x := ⟨x, hx, rfl⟩
    have e : N (g x) = M (Classical.choose h) := dif_pos h
    have hc := Classical.choose_spec h
    rw [e, hg _ hc.1 x hx hc.2]
  have hnd : (A.map g).Nodup := by
    have : ∀ (l : List F), l.Nodup → (∀ x ∈ l, x ∈ A) → (l.map g).Nodup := by
      intro l
      induction l with
      | nil => intro _ _; simp
      | cons a l ih =>
        intro hn hs
        have hn' := List.nodup_cons.1 hn
        rw [List.map_cons, List.nodup_cons]
        refine ⟨fun hm => ?_, ih hn'.2 fun x hx => hs x (List.mem_cons_of_mem _ hx)⟩
        obtain ⟨y, hy, e⟩ := List.mem_map.1 hm
        have := hg y (hs y (List.mem_cons_of_mem _ hy)) a (hs a (by simp)) e
        exact hn'.1 (this ▸ hy)
    exact this A hM.nd fun _ h => h
  refine ⟨N, hnd, fun y hy => ?_, fun y hy z hz e => ?_⟩
  · obtain ⟨x, hx, rfl⟩ := List.mem_map.1 hy
    rw [hN x hx]
    exact ha x hx _ (hM.ok x hx)
  · obtain ⟨x, hx, rfl⟩ := List.mem_map.1 hy
    obtain ⟨x', hx', rfl⟩ := List.mem_map.1 hz
    rw [hN x hx, hN x' hx'] at e
    rw [hM.inj x hx x' hx' e]

theorem sumw_map {F G : Type} (w : G → Nat) (g : F → G) (A : List F) : sumw w (A.map g) = sumw (fun x => w (g x)) A := by
  induction A with
  | nil => rfl
  | cons a A ih => simp only [List.map_cons, sumw, ih]

theorem flawAt_inj {t : Tour} (hnd : (t.flaws.map (·.id)).Nodup) {x y : Int} (hx : 0 ≤ x ∧ x < t.flaws.length) (hy : 0 ≤ y ∧ y < t.flaws.length) (h : flawAt t x = flawAt t y) : x = y := by
  obtain ⟨a, rfl⟩ := Int.eq_ofNat_of_zero_le hx.1
  obtain ⟨b, rfl⟩ := Int.eq_ofNat_of_zero_le hy.1
  have ha : a < t.flaws.length := by omega
  have hb : b < t.flaws.length := by omega
  rw [flawAt_nat ha, flawAt_nat hb] at h
  have h1 := findS_at hnd ha
  have h2 := findS_at hnd hb
  rw [h] at h1
  rw [h1] at h2
  exact h2

theorem optF_of {t : Tour} (hnd : (t.flaws.map (·.id)).Nodup) {n : Nat} (h2 : OptI (adjT t) (wI t) t.flaws.length n) : OptF t.closed t.flaws n := by
  constructor
  · obtain ⟨A, a1, a2, a3⟩ := h2.ex
    refine ⟨A.map (flawAt t), ind_map (flawAt t) a1 (fun x hx y hy e => flawAt_inj hnd (a2 x hx) (a2 y hy) e) (fun x hx d hd => mem_adjT.1 hd), fun f hf => ?_, ?_⟩
    · obtain ⟨x, hx, rfl⟩ := List.mem_map.1 hf
      exact flawAt_mem (a2 x hx)
    · rw [sumw_map]; exact a3
  · intro A hA hm
    have hidx : ∀ f ∈ t.flaws, (0 ≤ findS f.id 0 t.flaws ∧ findS f.id 0 t.flaws < t.flaws.length) ∧ flawAt t (findS f.id 0 t.flaws) = f := by
      intro f hf
      obtain ⟨k, hk, rfl⟩ := List.mem_iff_getElem.1 hf
      rw [findS_at hnd hk]
      exact ⟨⟨by omega, by omega⟩, flawAt_nat hk⟩
    have := h2.le (A.map fun f => findS f.id 0 t.flaws) (ind_map _ hA (fun x hx y hy e => by rw [← (hidx x (hm x hx)).2, e, (hidx y (hm y hy)).2]) (fun x hx d hd => mem_adjT.2 (by rw [(hidx x (hm x hx)).2]; exact hd))) (fun x hx => by
      obtain ⟨f, hf, rfl⟩ := List.mem_map.1 hx
      exact (hidx f (hm f hf)).1)
    rw [sumw_map] at this
    rwa [sumw_congr (v := wF) fun f hf => by unfold wI wF; rw [(hidx f (hm f hf)).2]] at this

theorem valid_optF {t : Tour} (h : Valid t) : ∃ n : Nat, meritS t = n ∧ OptF t.closed t.flaws n := by
  obtain ⟨n, h1, h2⟩ := valid_opt h
  exact ⟨n, h1, optF_of h.nd h2⟩

theorem OptF.mono {c : List Int} {fs gs : List Flaw} {n m : Nat} (h : OptF c fs n) (h' : OptF c gs m) (hs : ∀ f ∈ fs, f ∈ gs) : n ≤ m := by
  obtain ⟨A, a1, a2, a3⟩ := h.ex
  have := h'.le A a1 fun x hx => hs x (a2 x hx)
  omega

theorem OptF.add {c : List Int} {fs gs ks : List Flaw} {n m k : Nat} (h : OptF c fs n) (h1 : OptF c gs m) (h2 : OptF c ks k) (hs : ∀ f ∈ fs, f ∈ gs ∨ f ∈ ks) : n ≤ m + k := by
  obtain ⟨A, a1, a2, a3⟩ := h.ex
  have key : ∀ (p : Flaw → Bool) (l : List Flaw), sumw wF l = sumw wF (l.filter p) + sumw wF (l.filter fun x => !p x) := by
    intro p l
    induction l with
    | nil => rfl
    | cons a l ih => cases h : p a <;> simp [h, sumw] <;> omega
  have hk := key (fun f => decide (f ∈ gs)) A
  have nd := a1.choose_spec.nd
  have e1 := h1.le (A.filter fun f => decide (f ∈ gs)) (a1.sub (nd.filter _) fun x hx => (List.mem_filter.1 hx).1) (fun x hx => by simpa using (List.mem_filter.1 hx).2)
  have e2 := h2.le (A.filter fun f => !decide (f ∈ gs)) (a1.sub (nd.filter _) fun x hx => (List.mem_filter.1 hx).1) (fun x hx => by
    obtain ⟨p, q⟩ := List.mem_filter.1 hx
    have hq : x ∉ gs := by simpa using q
    exact (hs x (a2 x p)).resolve_left hq)
  omega

theorem Valid.sub {t : Tour} (hv : Valid t) {l : List Flaw} (hl : l.length ≤ t.flaws.length) (hn : (l.map (·.id)).Nodup) (hs : ∀ f ∈ l, f ∈ t.flaws) : Valid { t with flaws := l } :=
  ⟨hv.d1, hv.d2, hv.cr, hv.cs, by have := hv.fn; exact Nat.le_trans hl this, fun f hf => hv.fi f (hs f hf), fun f hf => hv.fs f (hs f hf), fun f hf => hv.fm f (hs f hf), hn⟩

theorem plL_mem {t : Tour} {ids : List Int} {i : Int} (hi : i ∈ plL t ids) : ∃ (k : Nat) (h : k < t.flaws.length), i = k ∧ t.flaws[k].id ∈ ids := by
  have key : ∀ (ids : List Int) (p : Option Int) (l : List Int), listedS t.flaws p ids = some l → ∀ i ∈ l, ∃ (k : Nat) (h : k < t.flaws.length), i = k ∧ t.flaws[k].id ∈ ids := by
    intro ids
    induction ids with
    | nil => intro p l h; rw [listedS_nil] at h; obtain rfl := Option.some.inj h; simp
    | cons id ids ih =>
      intro p l h
      obtain ⟨hno, _, l', hl', rfl⟩ := listedS_some h
      intro i hi
      rcases List.mem_cons.1 hi with rfl | hi
      · rcases findS_ge id t.flaws with h | h
        · omega
        · obtain ⟨k, hk⟩ := Int.eq_ofNat_of_zero_le h.1
          have hkl : k < t.flaws.length := by omega
          exact ⟨k, hkl, hk, by rw [findS_id hkl hk]; simp⟩
      · obtain ⟨k, h1, h2, h3⟩ := ih _ l' hl' i hi
        exact ⟨k, h1, h2, List.mem_cons_of_mem _ h3⟩
  unfold plL at hi
  cases h : listedS t.flaws none ids with
  | none => rw [h] at hi; simp at hi
  | some l => rw [h] at hi; exact key ids none l h i (by simpa using hi)

theorem without_subl (t : Tour) (l : List Int) : (withoutS t l).flaws.Sublist t.flaws := by
  conv => rhs; rw [flaws_eq t]
  exact List.Sublist.map _ List.filter_sublist

theorem mem_without {t : Tour} {l : List Int} {f : Flaw} : f ∈ (withoutS t l).flaws ↔ ∃ (k : Nat) (h : k < t.flaws.length), (k : Int) ∉ l ∧ t.flaws[k] = f := by
  unfold withoutS
  simp only [List.mem_map, List.mem_filter, List.mem_range]
  constructor
  · rintro ⟨k, ⟨h1, h2⟩, rfl⟩
    exact ⟨k, h1, by simpa using h2, (flawAt_nat h1).symm⟩
  · rintro ⟨k, h1, h2, rfl⟩
    exact ⟨k, ⟨h1, by simpa using h2⟩, flawAt_nat h1⟩

theorem without_valid {t : Tour} (hv : Valid t) (l : List Int) : Valid (withoutS t l) := by
  have hs := without_subl t l
  exact hv.sub hs.length_le (hv.nd.sublist (hs.map _)) fun f hf => hs.subset hf

/-- The flaws from another one on, then the others. -/
def turned (l : List Flaw) (k n : Nat) : List Flaw := (List.range n).map fun j => l.getD ((j + k) % l.length) ⟨0, 0, 0, 0⟩

theorem turned_facts {l : List Flaw} (hnd : (l.map (·.id)).Nodup) (k : Nat) : ((turned l k l.length).map (·.id)).Nodup ∧ (turned l k l.length).length = l.length ∧ ∀ f, f ∈ turned l k l.length ↔ f ∈ l := by
  rcases Nat.eq_zero_or_pos l.length with h0 | hpos
  · have : l = [] := List.eq_nil_of_length_eq_zero h0
    subst this
    exact ⟨by simp [turned], by simp [turned], by simp [turned]⟩
  have hlt : ∀ j, (j + k) % l.length < l.length := fun j => Nat.mod_lt _ hpos
  have hget : ∀ j, l.getD ((j + k) % l.length) ⟨0, 0, 0, 0⟩ = l[(j + k) % l.length]'(hlt j) := fun j => by
    rw [List.getD_eq_getElem?_getD, List.getElem?_eq_getElem (hlt j)]; rfl
  have hlen : (turned l k l.length).length = l.length := by simp [turned]
  have hsub : ∀ f ∈ turned l k l.length, f ∈ l := by
    intro f hf
    obtain ⟨j, _, rfl⟩ := List.mem_map.1 hf
    rw [hget]; exact List.getElem_mem _
  have hmod : ∀ i j, i < l.length → j < l.length → (i + k) % l.length = (j + k) % l.length → i = j := by
    intro i j hi hj h
    have hr : k % l.length < l.length := Nat.mod_lt _ hpos
    have e : ∀ i, i < l.length → (i + k) % l.length = if i + k % l.length < l.length then i + k % l.length else i + k % l.length - l.length := by
      intro i hi
      rw [Nat.add_mod, Nat.mod_eq_of_lt hi]
      split
      · next h => exact Nat.mod_eq_of_lt h
      · next h => rw [Nat.mod_eq_sub_mod (by omega), Nat.mod_eq_of_lt (by omega)]
    rw [e i hi, e j hj] at h
    split at h <;> split at h <;> omega
  have hnd2 : ((turned l k l.length).map (·.id)).Nodup := by
    rw [turned, List.map_map]
    refine nodup_map List.nodup_range fun i hi j hj h => ?_
    simp only [Function.comp, hget] at h
    have hi' := List.mem_range.1 hi
    have hj' := List.mem_range.1 hj
    have h1 := findS_at hnd (hlt i)
    have h2 := findS_at hnd (hlt j)
    rw [h] at h1
    rw [h1] at h2
    exact hmod i j hi' hj' (by omega)
  have hnd3 : (turned l k l.length).Nodup := by
    have : ∀ (m : List Flaw), (m.map (·.id)).Nodup → m.Nodup := by
      intro m
      induction m with
      | nil => intro _; exact List.nodup_nil
      | cons a m ih =>
        intro h
        rw [List.map_cons, List.nodup_cons] at h
        exact List.nodup_cons.2 ⟨fun hm => h.1 (List.mem_map.2 ⟨a, hm, rfl⟩), ih h.2⟩
    exact this _ hnd2
  exact ⟨hnd2, hlen, fun f => ⟨hsub f, full_sub hnd3 hsub (by omega) f⟩⟩

/-- What MendParts asks for. -/
theorem parts_law {t : Tour} (hv : Valid t) (ids : List Int) (k : Nat) :
    chk { t with flaws := t.flaws.filter fun f => decide (f.id ∈ ids) } = 0 ∧ chk (withoutS t (plL t ids)) = 0 ∧ chk { t with flaws := turned t.flaws k t.flaws.length } = 0 ∧
      meritS t ≤ meritS { t with flaws := t.flaws.filter fun f => decide (f.id ∈ ids) } + meritS (withoutS t (plL t ids)) ∧
      meritS { t with flaws := t.flaws.filter fun f => decide (f.id ∈ ids) } ≤ meritS t ∧ meritS (withoutS t (plL t ids)) ≤ meritS t ∧
      meritS { t with flaws := turned t.flaws k t.flaws.length } = meritS t := by
  have hsb : (t.flaws.filter fun f => decide (f.id ∈ ids)).Sublist t.flaws := List.filter_sublist
  have v1 := hv.sub hsb.length_le (hv.nd.sublist (hsb.map _)) fun f hf => hsb.subset hf
  have v2 := without_valid hv (plL t ids)
  obtain ⟨r1, r2, r3⟩ := turned_facts hv.nd k
  have v3 := hv.sub (l := turned t.flaws k t.flaws.length) (by omega) r1 fun f hf => (r3 f).1 hf
  obtain ⟨n, e0, o0⟩ := valid_optF hv
  obtain ⟨a, e1, o1⟩ := valid_optF v1
  obtain ⟨b, e2, o2⟩ := valid_optF v2
  obtain ⟨c, e3, o3⟩ := valid_optF v3
  have hw := without_subl t (plL t ids)
  have g1 : n ≤ a + b := OptF.add o0 o1 o2 fun f hf => by
    obtain ⟨k, hk, rfl⟩ := List.mem_iff_getElem.1 hf
    by_cases h : (k : Int) ∈ plL t ids
    · obtain ⟨k', hk', e, h2⟩ := plL_mem h
      obtain rfl : k = k' := by omega
      exact .inl (List.mem_filter.2 ⟨hf, by simpa using h2⟩)
    · exact .inr (mem_without.2 ⟨k, hk, h, rfl⟩)
  have g2 : a ≤ n := o1.mono o0 fun f hf => hsb.subset hf
  have g3 : b ≤ n := OptF.mono o2 o0 fun f hf => hw.subset hf
  have g4 : c ≤ n := o3.mono o0 fun f hf => (r3 f).1 hf
  have g5 : n ≤ c := o0.mono o3 fun f hf => (r3 f).2 hf
  refine ⟨valid_chk v1, valid_chk v2, valid_chk v3, ?_, ?_, ?_, ?_⟩ <;> omega

end Go.Proofs.YtkoejelglinmnaaGreat

/-
  Plain laws: which flaws can be mended together; one more of the longer list; how many a best mending mends.
-/
namespace Go.Proofs.YtkoejelglinmnaaGreat
open Mm

/-! ### the day of each flaw -/
theorem at_set' {l : List Int} {i j : Int} (hi : 0 ≤ i ∧ i < l.length) (hj : 0 ≤ j) (d : Int) : at' (l.set i.toNat d) j = if j = i then d else at' l j := by
  unfold at'
  rw [List.getD_eq_getElem?_getD, List.getD_eq_getElem?_getD, List.getElem?_set]
  by_cases h : j = i
  · subst h; rw [if_pos rfl, if_pos rfl, if_pos (by omega)]; rfl
  · rw [if_neg (by omega), if_neg h]

theorem onF_at {n : Nat} : ∀ (has out : List Int) (d : Nat), out.length = n → (∀ x ∈ has, x = -1 ∨ (0 ≤ x ∧ x < n)) → (∀ i i' (h : i < has.length) (h' : i' < has.length), has[i] = has[i'] → 0 ≤ has[i] → i = i') → ∀ j : Int, 0 ≤ j →
    (∀ i (h : i < has.length), has[i] = j → at' (onF out d has) j = (d + i : Nat)) ∧ (j ∉ has → at' (onF out d has) j = at' out j)
  | [], out, d, _, _, _, j, _ => ⟨fun i h => absurd h (by simp), fun _ => rfl⟩
  | x :: has, out, d, hl, hr, hi, j, hj => by
    have hr' : ∀ y ∈ has, y = -1 ∨ (0 ≤ y ∧ y < n) := fun y hy => hr y (List.mem_cons_of_mem _ hy)
    have hi' : ∀ i i' (h : i < has.length) (h' : i' < has.length), has[i] = has[i'] → 0 ≤ has[i] → i = i' := fun i i' h h' e h0 => by
      have := hi (i + 1) (i' + 1) (by simp; omega) (by simp; omega) (by simpa using e) (by simpa using h0)
      omega
    have hl' : (if 0 ≤ x then out.set x.toNat (d : Int) else out).length = n := by split <;> simp [hl]
    obtain ⟨h1, h2⟩ := onF_at has (if 0 ≤ x then out.set x.toNat (d : Int) else out) (d + 1) hl' hr' hi' j hj
    have hx := hr x (by simp)
    constructor
    · intro i h e
      cases i with
      | zero =>
        have e : x = j := by simpa using e
        subst e
        have hno : x ∉ has := fun hm => by
          obtain ⟨k, hk, e⟩ := List.mem_iff_getElem.1 hm
          have := hi 0 (k + 1) (by simp) (by simp; omega) (by simp [e]) (by simpa using hj)
          omega
        show at' (onF _ (d + 1) has) x = _
        rw [h2 hno, if_pos hj, at_set' (by omega) hj, if_pos rfl]; simp
      | succ k =>
        have hk : k < has.length := by simpa using h
        show at' (onF _ (d + 1) has) j = _
        rw [h1 k hk (by simpa using e)]
        simp only [Int.natCast_add]; omega
    · intro hno
      rw [List.mem_cons, not_or] at hno
      show at' (onF _ (d + 1) has) j = _
      rw [h2 hno.2]
      split
      · rw [at_set' (by omega) hj, if_neg hno.1]
      · rfl

theorem rep_at (n : Nat) (j : Int) : at' (List.replicate n (-1)) j = -1 := by
  unfold at'
  rw [List.getD_eq_getElem?_getD, List.getElem?_replicate]
  split <;> rfl

/-- Which day a flaw has, and which flaw has a day. -/
theorem onOf_at {n m : Nat} {adj : Int → List Int} {has : List Int} {S : Int → Prop} (hg : GInv n m has []) (hst : St adj n has [] S) {j : Int} (hj : 0 ≤ j ∧ j < m) :
    (j ∈ hadBy has → at' (onOf m has) j = dayIn has j) ∧ (j ∉ hadBy has → at' (onOf m has) j = -1) := by
  have hinj : ∀ i i' (h : i < has.length) (h' : i' < has.length), has[i] = has[i'] → 0 ≤ has[i] → i = i' := by
    intro i i' h h' e h0
    have hlen := hg.len
    have e1 := at_nat h
    have e2 := at_nat h'
    have := hst.inj i i' (by omega) (by omega) (by simp) (by simp) (by rw [e1, e2]; exact e) (by rw [e1]; exact h0)
    omega
  obtain ⟨h1, h2⟩ := onF_at has (List.replicate m (-1)) 0 (by simp) hg.ok hinj j hj.1
  constructor
  · intro hm
    have hm' : j ∈ has := (List.mem_filter.1 hm).1
    have hlt : has.idxOf j < has.length := List.idxOf_lt_length_of_mem hm'
    have := h1 (has.idxOf j) hlt (List.getElem_idxOf hlt)
    rw [onOf, this, dayIn]; simp
  · intro hno
    have : j ∉ has := fun hm => hno (List.mem_filter.2 ⟨hm, by simpa using hj.1⟩)
    rw [onOf, h2 this, rep_at]

theorem onOf_had {n m : Nat} {adj : Int → List Int} {has : List Int} {S : Int → Prop} (hg : GInv n m has []) (hst : St adj n has [] S) {j : Int} : j ∈ onA (onOf m has) ↔ j ∈ hadBy has := by
  rw [mem_onA, onOf_len]
  constructor
  · rintro ⟨h, h0⟩
    apply Classical.byContradiction
    intro hno
    rw [(onOf_at hg hst h).2 hno] at h0
    exact absurd h0 (by decide)
  · intro hm
    have hm' := List.mem_filter.1 hm
    have h0 : 0 ≤ j := by simpa using hm'.2
    have hr := (hg.ok j hm'.1).resolve_left (by omega)
    exact ⟨hr, by rw [(onOf_at hg hst hr).1 hm]; simp [dayIn]⟩

/-! ### some flaws together -/
theorem canAll_ind {n m : Nat} {adj : Int → List Int} (hadj : ∀ i : Int, 0 ≤ i ∧ i < m → ∀ d ∈ adj i, 0 ≤ d ∧ d < n) (hf : n < fuel) : ∀ (l pre has : List Int), GInv n m has [] → St adj n has [] (fun j => j ∈ hadBy has) →
    (∀ j, j ∈ hadBy has ↔ j ∈ pre) → (pre ++ l).Nodup → (∀ x ∈ l, 0 ≤ x ∧ x < m) → (canAll adj has l = true ↔ Ind (adjP adj) (pre ++ l))
  | [], pre, has, hg, hst, hp, hn, _ => by
    have hM := (hst.mat hg.len).1
    rw [List.append_nil] at hn ⊢
    exact ⟨fun _ => ⟨_, hM.sub hn fun x hx => (hp x).2 hx⟩, fun _ => rfl⟩
  | i :: l, pre, has, hg, hst, hp, hn, hr => by
    have hn' := List.nodup_append.1 hn
    have hiA : i ∉ hadBy has := fun hm => hn'.2.2 i ((hp i).1 hm) i (by simp) rfl
    have hi := hr i (by simp)
    have e : pre ++ i :: l = (pre ++ [i]) ++ l := by simp
    rw [canAll, addS_eq]
    by_cases ht : (give adj fuel i has []).1 = true
    · rw [if_pos ht]
      obtain ⟨g1, _⟩ := give_true hadj fuel i has [] _ hi hg hst hiA ht
      obtain ⟨k1, _⟩ := give_inv hadj fuel i has [] hi hg
      obtain ⟨hM', hS', _⟩ := g1.mat k1.len
      rw [e] at hn ⊢
      refine canAll_ind hadj hf l (pre ++ [i]) _ (GInv.nil k1.len k1.ok) (g1.had k1.len) (fun j => ?_) hn (fun x hx => hr x (List.mem_cons_of_mem _ hx))
      rw [← hS' j, hp j]; simp
    · have ht : (give adj fuel i has []).1 = false := by simpa using ht
      rw [if_neg (by rw [ht]; simp)]
      refine ⟨fun h => (Bool.false_ne_true h).elim, fun h => ?_⟩
      obtain ⟨T, h1, h2⟩ := give_tight hadj hf hi hg hst ht
      have hM := (hst.mat hg.len).1
      refine absurd (h.sub (B := i :: hadBy has) (List.nodup_cons.2 ⟨hiA, hM.nd⟩) fun x hx => ?_) (not_ind hM h1 hiA h2)
      rcases List.mem_cons.1 hx with rfl | hx
      · simp
      · exact List.mem_append.2 (.inl ((hp x).1 hx))

theorem adjV {t : Tour} (hv : Valid t) : ∀ i : Int, 0 ≤ i ∧ i < t.flaws.length → ∀ d ∈ adjT t i, 0 ≤ d ∧ d < t.days.toNat := fun i hi d hd => adjT_rg hv.small rfl hi d hd

theorem can_ind {t : Tour} (hv : Valid t) {l : List Int} (hn : l.Nodup) (hr : ∀ x ∈ l, 0 ≤ x ∧ x < t.flaws.length) : canAll (adjT t) (noDays t) l = true ↔ Ind (adjP (adjT t)) l := by
  have h := Greedy.none (adjT t) t.days.toNat t.flaws.length (fun _ => 0)
  have hno : hadBy (List.replicate t.days.toNat (-1)) = [] := List.filter_eq_nil_iff.2 fun x hx => by rw [(List.mem_replicate.1 hx).2]; decide
  have := hv.d2
  have := canAll_ind (adjV hv) (by show t.days.toNat < 130; omega) l [] (noDays t) h.inv h.st (fun j => by rw [noDays, hno]) (by simpa using hn) hr
  simpa using this

/-- One more of the longer list. -/
theorem exch {n m : Nat} {adj : Int → List Int} (hadj : ∀ i : Int, 0 ≤ i ∧ i < m → ∀ d ∈ adj i, 0 ≤ d ∧ d < n) {A B : List Int} (hA : Ind (adjP adj) A) (hB : Ind (adjP adj) B) (hrA : ∀ x ∈ A, 0 ≤ x ∧ x < (m : Int)) (hrB : ∀ x ∈ B, 0 ≤ x ∧ x < (m : Int))
    (hl : A.length < B.length) : ∃ x ∈ B, x ∉ A ∧ Ind (adjP adj) (x :: A) := by
  apply Classical.byContradiction
  intro hno
  obtain ⟨M, hM⟩ := hA
  obtain ⟨N, hN⟩ := hB
  have ht : ∀ x ∈ B, x ∉ A → ∃ T, Tight (adjP adj) A M T ∧ ∀ e, adjP adj x e → T e := fun x hx hxA =>
    (dich hadj hM hrA (hrB x hx) hxA).resolve_left fun h => hno ⟨x, hx, hxA, h⟩
  have := count hM (T := fun d => ∃ x ∈ B, x ∉ A ∧ ∃ T, Tight (adjP adj) A M T ∧ T d) (by
    rintro d ⟨x, hx, hxA, T, hT, hd⟩
    obtain ⟨j, h1, h2, h3⟩ := hT d hd
    exact ⟨j, h1, h2, fun e he => ⟨x, hx, hxA, T, hT, h3 e he⟩⟩) hN (by
    intro i hi hiA e he
    obtain ⟨T, hT, h⟩ := ht i hi hiA
    exact ⟨i, hi, hiA, T, hT, h e he⟩)
  omega

/-- No more flaws can be mended than a best mending mends. -/
theorem best_many {t : Tour} (hv : Valid t) {l : List Int} (hl : Ind (adjP (adjT t)) l) (hr : ∀ x ∈ l, 0 ≤ x ∧ x < t.flaws.length) : l.length ≤ (onA (onOf t.flaws.length (bestHas t))).length := by
  have g := best_greedy (t := t) (by have := hv.d1; omega) hv.d2 (fun f hf => ⟨(hv.fs f hf).1, (hv.fs f hf).2.2⟩)
  obtain ⟨hM, _, _⟩ := g.st.mat g.inv.len
  obtain ⟨N, hN⟩ := hl
  have h1 := count hM (T := fun d => ∃ T, Tight (adjP (adjT t)) (hadBy (bestHas t)) (dayIn (bestHas t)) T ∧ T d) (by
    rintro d ⟨T, hT, hd⟩
    obtain ⟨j, h1, h2, h3⟩ := hT d hd
    exact ⟨j, h1, h2, fun e he => ⟨T, hT, h3 e he⟩⟩) hN (by
    intro i hi hiA e he
    obtain ⟨T, hT, h, _⟩ := g.cert i (order_mem.2 (hr i hi)) hiA
    exact ⟨T, hT, h e he⟩)
  have h2 := nodup_len (l1 := hadBy (bestHas t)) (l2 := onA (onOf t.flaws.length (bestHas t))) hM.nd fun x hx => (onOf_had g.inv g.st).2 hx
  omega

/-! ### lists of IDs -/
theorem listedS_iff {fl : List Flaw} : ∀ (ids : List Int) (p : Option Int), (listedS fl p ids).isSome = true ↔ (∀ x ∈ ids, 0 ≤ findS x 0 fl) ∧ ids.Pairwise (· < ·) ∧ ∀ q, p = some q → ∀ x ∈ ids, q < x
  | [], p => by rw [listedS_nil]; simp
  | id :: ids, p => by
    constructor
    · intro h
      obtain ⟨l, hl⟩ := Option.isSome_iff_exists.1 h
      obtain ⟨h1, h2, l', h3, _⟩ := listedS_some hl
      obtain ⟨i1, i2, i3⟩ := (listedS_iff ids (some id)).1 (by rw [h3]; rfl)
      refine ⟨fun x hx => ?_, List.pairwise_cons.2 ⟨fun x hx => i3 id rfl x hx, i2⟩, fun q hq x hx => ?_⟩
      · rcases List.mem_cons.1 hx with rfl | hx
        · exact h1
        · exact i1 x hx
      · rcases List.mem_cons.1 hx with rfl | hx
        · exact h2 q hq
        · have := h2 q hq; have := i3 id rfl x hx; omega
    · rintro ⟨h1, h2, h3⟩
      have h2' := List.pairwise_cons.1 h2
      have ih := (listedS_iff ids (some id)).2 ⟨fun x hx => h1 x (List.mem_cons_of_mem _ hx), h2'.2, fun q hq x hx => by obtain rfl := Option.some.inj hq; exact h2'.1 x hx⟩
      rw [listedS_cons]
      have h0 := h1 id (by simp)
      cases p with
      | none =>
        rw [if_neg (by simp; omega)]
        simpa using ih
      | some q =>
        have := h3 q rfl id (by simp)
        rw [if_neg (by simp; omega)]
        simpa using ih

theorem okL_iff {t : Tour} {ids : List Int} : okL t ids = true ↔ (∀ x ∈ ids, 0 ≤ findS x 0 t.flaws) ∧ ids.Pairwise (· < ·) := by
  rw [okL, listedS_iff]; simp

theorem plL_map {t : Tour} {ids : List Int} (h : okL t ids = true) : plL t ids = ids.map fun x => findS x 0 t.flaws := by
  have key : ∀ (ids : List Int) (p : Option Int) (l : List Int), listedS t.flaws p ids = some l → l = ids.map fun x => findS x 0 t.flaws := by
    intro ids
    induction ids with
    | nil => intro p l h; rw [listedS_nil] at h; obtain rfl := Option.some.inj h; rfl
    | cons id ids ih =>
      intro p l h
      obtain ⟨_, _, l', hl', rfl⟩ := listedS_some h
      rw [List.map_cons, ih _ l' hl']
  obtain ⟨l, hl⟩ := Option.isSome_iff_exists.1 h
  rw [plL, hl, Option.getD_some]
  exact key ids none l hl

theorem find_inj {fl : List Flaw} {x y : Int} (hx : 0 ≤ findS x 0 fl) (h : findS x 0 fl = findS y 0 fl) : x = y := by
  obtain ⟨k, hk⟩ := Int.eq_ofNat_of_zero_le hx
  have hkl : k < fl.length := by rcases findS_ge x fl with h | h <;> omega
  exact (findS_id hkl hk).symm.trans (findS_id hkl (h ▸ hk))

theorem plL_nodup {t : Tour} {ids : List Int} (h : okL t ids = true) : (plL t ids).Nodup := by
  rw [plL_map h]
  obtain ⟨h1, h2⟩ := okL_iff.1 h
  exact nodup_map (h2.imp fun h e => by omega) fun x hx y _ e => find_inj (h1 x hx) e

theorem canS_ind {t : Tour} (hv : Valid t) {ids : List Int} (h : okL t ids = true) : canS t ids = true ↔ Ind (adjP (adjT t)) (plL t ids) := by
  have he : flawsE t ids = 0 := by rw [flawsE, if_pos (valid_chk hv), if_pos h]
  rw [canS, if_pos he]
  exact can_ind hv (plL_nodup h) (plL_rg t ids)

/-- A list with one more, where it stands. -/
def moreStep (x : Int) (s : List Int × Bool) (y : Int) : List Int × Bool := if s.2 = false ∧ y > x then (s.1 ++ [x, y], true) else (s.1 ++ [y], s.2)
def moreS (x : Int) (l : List Int) : List Int × Bool := l.foldl (moreStep x) ([], false)
def moreF (x : Int) (s : List Int × Bool) : List Int := if s.2 then s.1 else s.1 ++ [x]
def moreE (x : Int) (l : List Int) : List Int := moreF x (moreS x l)

theorem more_facts {x : Int} {l : List Int} (hs : l.Pairwise (· < ·)) (hx : x ∉ l) : (moreE x l).Pairwise (· < ·) ∧ ∀ y, y ∈ moreE x l ↔ y = x ∨ y ∈ l := by
  have key : ∀ (l acc : List Int) (b : Bool), acc.Pairwise (· < ·) → l.Pairwise (· < ·) → (∀ u ∈ acc, ∀ v ∈ l, u < v) → x ∉ l → (b = false → ∀ u ∈ acc, u < x) → (b = true → ∀ v ∈ l, x < v) →
      (moreF x (l.foldl (moreStep x) (acc, b))).Pairwise (· < ·) ∧ ∀ y, y ∈ moreF x (l.foldl (moreStep x) (acc, b)) ↔ y ∈ acc ∨ y ∈ l ∨ (b = false ∧ y = x) := by
    intro l
    induction l with
    | nil =>
      intro acc b h1 _ _ _ h5 _
      cases b with
      | false =>
        refine ⟨List.pairwise_append.2 ⟨h1, by simp, fun u hu v hv => ?_⟩, fun y => by simp [moreF]⟩
        obtain rfl : v = x := by simpa using hv
        exact h5 rfl u hu
      | true => exact ⟨h1, fun y => by simp [moreF]⟩
    | cons a l ih =>
      intro acc b h1 h2 h3 h4 h5 h6
      have h2' := List.pairwise_cons.1 h2
      rw [List.mem_cons, not_or] at h4
      rw [List.foldl_cons]
      by_cases hc : b = false ∧ a > x
      · obtain ⟨rfl, hax⟩ := hc
        rw [show moreStep x (acc, false) a = (acc ++ [x, a], true) from if_pos ⟨rfl, hax⟩]
        obtain ⟨r1, r2⟩ := ih (acc ++ [x, a]) true (List.pairwise_append.2 ⟨h1, by simp; omega, fun u hu v hv => by
            rcases List.mem_cons.1 hv with rfl | hv
            · exact h5 rfl u hu
            · obtain rfl : v = a := by simpa using hv
              exact h3 u hu _ (by simp)⟩) h2'.2 (fun u hu v hv => by
            rcases List.mem_append.1 hu with hu | hu
            · exact h3 u hu v (List.mem_cons_of_mem _ hv)
            · have := h2'.1 v hv
              rcases List.mem_cons.1 hu with rfl | hu
              · omega
              · obtain rfl : u = a := by simpa using hu
                exact this) h4.2 (fun h => by cases h) (fun _ v hv => by have := h2'.1 v hv; omega)
        refine ⟨r1, fun y => ?_⟩
        rw [r2 y]
        simp only [List.mem_append, List.mem_cons, List.not_mem_nil, or_false, Bool.true_eq_false, false_and, true_and]
        grind
      · rw [moreStep, if_neg hc]
        obtain ⟨r1, r2⟩ := ih (acc ++ [a]) b (List.pairwise_append.2 ⟨h1, by simp, fun u hu v hv => by
            obtain rfl : v = a := by simpa using hv
            exact h3 u hu _ (by simp)⟩) h2'.2 (fun u hu v hv => by
            rcases List.mem_append.1 hu with hu | hu
            · exact h3 u hu v (List.mem_cons_of_mem _ hv)
            · obtain rfl : u = a := by simpa using hu
              exact h2'.1 v hv) h4.2 (fun hb u hu => by
            rcases List.mem_append.1 hu with hu | hu
            · exact h5 hb u hu
            · obtain rfl : u = a := by simpa using hu
              have : ¬ u > x := fun h => hc ⟨hb, h⟩
              omega) (fun hb v hv => h6 hb v (List.mem_cons_of_mem _ hv))
        refine ⟨r1, fun y => ?_⟩
        rw [r2 y]
        simp only [List.mem_append, List.mem_cons, List.not_mem_nil, or_false]
        grind
  obtain ⟨r1, r2⟩ := key l [] false (by simp) hs (by simp) hx (by simp) (by simp)
  refine ⟨r1, fun y => ?_⟩
  rw [show (y ∈ moreE x l ↔ y ∈ ([] : List Int) ∨ y ∈ l ∨ (false = false ∧ y = x)) from r2 y]
  simp [or_comm]

/-- What MendExchange asks for. -/
theorem exch_law {t : Tour} (hv : Valid t) {a b : List Int} (ha : okL t a = true) (hb : okL t b = true) (ca : canS t a = true) (cb : canS t b = true) :
    a.length ≤ (onA (onOf t.flaws.length (bestHas t))).length ∧ b.length ≤ (onA (onOf t.flaws.length (bestHas t))).length ∧
      (∀ x ∈ b, x ∉ a → okL t (moreE x a) = true) ∧ (a.length < b.length → ∃ x ∈ b, x ∉ a ∧ canS t (moreE x a) = true) := by
  have ia := (canS_ind hv ha).1 ca
  have ib := (canS_ind hv hb).1 cb
  have la : (plL t a).length = a.length := by rw [plL_map ha, List.length_map]
  have lb : (plL t b).length = b.length := by rw [plL_map hb, List.length_map]
  obtain ⟨a1, a2⟩ := okL_iff.1 ha
  obtain ⟨b1, b2⟩ := okL_iff.1 hb
  have hok : ∀ x ∈ b, x ∉ a → okL t (moreE x a) = true := fun x hx hxa => by
    obtain ⟨m1, m2⟩ := more_facts a2 hxa
    exact okL_iff.2 ⟨fun y hy => by
      rcases (m2 y).1 hy with rfl | hy
      · exact b1 y hx
      · exact a1 y hy, m1⟩
  refine ⟨by rw [← la]; exact best_many hv ia (plL_rg t a), by rw [← lb]; exact best_many hv ib (plL_rg t b), hok, fun hlt => ?_⟩
  obtain ⟨p, hp, hpa, hi⟩ := exch (adjV hv) ia ib (plL_rg t a) (plL_rg t b) (by omega)
  rw [plL_map hb] at hp
  obtain ⟨x, hx, rfl⟩ := List.mem_map.1 hp
  have hxa : x ∉ a := fun h => hpa (by rw [plL_map ha]; exact List.mem_map.2 ⟨x, h, rfl⟩)
  obtain ⟨m1, m2⟩ := more_facts a2 hxa
  have hk := hok x hx hxa
  refine ⟨x, hx, hxa, (canS_ind hv hk).2 (hi.sub (plL_nodup hk) fun p hp => ?_)⟩
  rw [plL_map hk] at hp
  obtain ⟨y, hy, rfl⟩ := List.mem_map.1 hp
  rcases (m2 y).1 hy with rfl | hy
  · simp
  · exact List.mem_cons_of_mem _ (by rw [plL_map ha]; exact List.mem_map.2 ⟨y, hy, rfl⟩)

end Go.Proofs.YtkoejelglinmnaaGreat

/-
  Plain laws: one day alone for a flaw; the earliest days.
-/
namespace Go.Proofs.YtkoejelglinmnaaGreat
open Mm

theorem ind_cons {F : Type} {adj adj' : F → Int → Prop} {A : List F} {g : F} {d : Int} (h : Ind adj' A) (hg : g ∉ A) (hd : adj g d) (ha : ∀ x ∈ A, ∀ e, adj' x e → adj x e ∧ e ≠ d) : Ind adj (g :: A) := by
  obtain ⟨M, hM⟩ := h
  classical
  have e1 : ∀ x ∈ A, x ≠ g := fun x hx e => hg (e ▸ hx)
  obtain ⟨N, hN⟩ : ∃ N : F → Int, ∀ f, N f = if f = g then d else M f := ⟨_, fun _ => rfl⟩
  have n1 : N g = d := by rw [hN, if_pos rfl]
  have n2 : ∀ x ∈ A, N x = M x := fun x hx => by rw [hN, if_neg (e1 x hx)]
  refine ⟨N, List.nodup_cons.2 ⟨hg, hM.nd⟩, fun f hf => ?_, fun f hf f' hf' e => ?_⟩
  · rcases List.mem_cons.1 hf with h | hA
    · rw [h, n1]; exact hd
    · rw [n2 f hA]; exact (ha f hA _ (hM.ok f hA)).1
  · rcases List.mem_cons.1 hf with h | hA
    · rcases List.mem_cons.1 hf' with h' | hA'
      · rw [h, h']
      · rw [h, n1, n2 f' hA'] at e
        exact absurd e.symm (ha f' hA' _ (hM.ok f' hA')).2
    · rcases List.mem_cons.1 hf' with h' | hA'
      · rw [h', n1, n2 f hA] at e
        exact absurd e (ha f hA _ (hM.ok f hA)).2
      · rw [n2 f hA, n2 f' hA'] at e
        exact hM.inj f hA f' hA' e

theorem flaw_inj {t : Tour} (hnd : (t.flaws.map (·.id)).Nodup) {j k : Nat} (hj : j < t.flaws.length) (hk : k < t.flaws.length) (h : t.flaws[j].id = t.flaws[k].id) : j = k := by
  have h1 := findS_at hnd hj
  have h2 := findS_at hnd hk
  rw [h] at h1
  omega

theorem adj_days {t : Tour} (hv : Valid t) {k : Nat} (hk : k < t.flaws.length) {d : Int} (hd : d ∈ adjT t k) : 0 ≤ d ∧ d < t.days := by
  have := adjV hv k ⟨by omega, by omega⟩ d hd
  have := hv.d1
  omega

theorem mem_adj_nat {t : Tour} {k : Nat} (hk : k < t.flaws.length) {d : Int} : d ∈ adjT t k ↔ adjF t.closed t.flaws[k] d := by
  rw [mem_adjT, flawAt_nat hk]; rfl

theorem not_in_without {t : Tour} (hnd : (t.flaws.map (·.id)).Nodup) {k : Nat} (hk : k < t.flaws.length) {f : Flaw} (hf : f ∈ (withoutS t [(k : Int)]).flaws) : f.id ≠ t.flaws[k].id := by
  obtain ⟨j, hj, hjk, rfl⟩ := mem_without.1 hf
  intro e
  exact hjk (by rw [flaw_inj hnd hj hk e]; simp)

theorem closed_adj {c : List Int} {t : Tour} {d e : Int} {f : Flaw} (h : adjF (closedS t d).closed f e) (hc : t.closed = c) : adjF c f e ∧ e ≠ d := by
  subst hc
  exact ⟨⟨h.1, h.2.1, fun hm => h.2.2 (mem_closedS.2 (.inr hm))⟩, fun hm => h.2.2 (mem_closedS.2 (.inl hm))⟩

theorem on_le {t : Tour} (hv : Valid t) {k : Nat} (hk : k < t.flaws.length) {d : Int} (hd : d ∈ adjT t k) : onS t k d ≤ meritS t := by
  obtain ⟨n, e0, o0⟩ := valid_optF hv
  obtain ⟨x, e1, o1⟩ := valid_optF ((hv.without [(k : Int)]).close (day := d) (adj_days hv hk hd))
  obtain ⟨A, a1, a2, a3⟩ := o1.ex
  have hg : t.flaws[k] ∉ A := fun h => not_in_without hv.nd hk (a2 _ h) rfl
  have := o0.le (t.flaws[k] :: A) (ind_cons a1 hg ((mem_adj_nat hk).1 hd) fun x _ e he => closed_adj he rfl) (fun f hf => by
    rcases List.mem_cons.1 hf with rfl | hf
    · exact List.getElem_mem hk
    · exact (without_subl t _).subset (a2 f hf))
  have hm := hv.fm _ (List.getElem_mem hk)
  rw [onS, flawAt_nat hk, e0, e1]
  have e2 : sumw wF (t.flaws[k] :: A) = t.flaws[k].merit.toNat + sumw wF A := rfl
  omega

theorem on_ex {t : Tour} (hv : Valid t) {k : Nat} (hk : k < t.flaws.length) : (∃ d ∈ adjT t k, onS t k d = meritS t) ∨ meritS (withoutS t [(k : Int)]) = meritS t := by
  obtain ⟨n, e0, o0⟩ := valid_optF hv
  obtain ⟨A, a1, a2, a3⟩ := o0.ex
  by_cases hf : t.flaws[k] ∈ A
  · left
    obtain ⟨M, hM⟩ := a1
    have hd : M t.flaws[k] ∈ adjT t k := (mem_adj_nat hk).2 (hM.ok _ hf)
    refine ⟨M t.flaws[k], hd, Int.le_antisymm (on_le hv hk hd) ?_⟩
    obtain ⟨x, e1, o1⟩ := valid_optF ((hv.without [(k : Int)]).close (day := M t.flaws[k]) (adj_days hv hk hd))
    have hp := List.perm_cons_erase hf
    have hs := sumw_perm (w := wF) hp
    have hin : ∀ x ∈ A.erase t.flaws[k], x ∈ A ∧ x ≠ t.flaws[k] := fun x hx => ⟨List.mem_of_mem_erase hx, fun e => by
      subst e
      exact absurd hx (hM.nd.not_mem_erase)⟩
    have := o1.le (A.erase t.flaws[k]) ⟨M, hM.nd.erase _, fun f hf' => by
      obtain ⟨h1, h2⟩ := hin f hf'
      have := hM.ok f h1
      refine ⟨this.1, this.2.1, fun hm => ?_⟩
      rcases mem_closedS.1 hm with e | hm
      · exact h2 (hM.inj f h1 _ hf e)
      · exact this.2.2 hm, fun f hf f' hf' e => hM.inj f (hin f hf).1 f' (hin f' hf').1 e⟩ (fun f hf' => by
      obtain ⟨h1, h2⟩ := hin f hf'
      obtain ⟨j, hj, rfl⟩ := List.mem_iff_getElem.1 (a2 f h1)
      refine mem_without.2 ⟨j, hj, fun hm => ?_, rfl⟩
      have : (j : Int) = k := by simpa using hm
      obtain rfl : j = k := by omega
      exact h2 rfl)
    have hm := hv.fm _ (List.getElem_mem hk)
    rw [onS, flawAt_nat hk, e0, e1]
    have e3 : sumw wF (t.flaws[k] :: A.erase t.flaws[k]) = t.flaws[k].merit.toNat + sumw wF (A.erase t.flaws[k]) := rfl
    omega
  · right
    obtain ⟨x, e1, o1⟩ := valid_optF (hv.without [(k : Int)])
    have h1 : x ≤ n := OptF.mono o1 o0 fun f hf => (without_subl t _).subset hf
    have h2 := o1.le A a1 (fun f hf' => by
      obtain ⟨j, hj, rfl⟩ := List.mem_iff_getElem.1 (a2 f hf')
      refine mem_without.2 ⟨j, hj, fun hm => ?_, rfl⟩
      have : (j : Int) = k := by simpa using hm
      obtain rfl : j = k := by omega
      exact hf hf')
    rw [e0, e1]; omega

theorem merit_none {t : Tour} (hv : Valid t) (h : t.flaws = []) : meritS t = 0 := by
  obtain ⟨n, e0, o0⟩ := valid_optF hv
  obtain ⟨A, a1, a2, a3⟩ := o0.ex
  have : A = [] := List.eq_nil_iff_forall_not_mem.2 fun x hx => by have := a2 x hx; rw [h] at this; simp at this
  subst this
  rw [e0, ← a3]; rfl

theorem first_facts {t : Tour} (hv : Valid t) (h : 0 < t.flaws.length) :
    (firstS t ∈ adjT t 0 ∧ 0 ≤ firstS t ∧ onS t 0 (firstS t) = meritS t) ∨ (firstS t = -1 ∧ meritS (withoutS t [0]) = meritS t) := by
  unfold firstS
  cases hf : (opens t.closed (flawAt t 0).lo (flawAt t 0).hi).find? fun d => decide (onS t 0 d = meritS t) with
  | some d =>
    left
    rw [Option.getD_some]
    have h1 := List.mem_of_find?_eq_some hf
    have h2 := List.find?_some hf
    have h3 : d ∈ adjT t (0 : Nat) := h1
    exact ⟨h1, (adj_days hv h h3).1, by simpa using h2⟩
  | none =>
    right
    rw [Option.getD_none]
    refine ⟨rfl, (on_ex hv h).resolve_left ?_⟩
    rintro ⟨d, hd, e⟩
    have := List.find?_eq_none.1 hf d hd
    exact this (by simpa using e)

theorem first_days (t : Tour) : firstS t = ((daysOfS t 0)[0]?).getD (-1) := by
  rw [firstS, daysOfS, ← List.head?_eq_getElem?, List.head?_filter]

def OnOk (c : List Int) (fs : List Flaw) (on : List Int) : Prop :=
  (∀ i (h : i < on.length) (h' : i < fs.length), on[i] = -1 ∨ (fs[i].lo ≤ on[i] ∧ on[i] ≤ fs[i].hi ∧ on[i] ∉ c)) ∧ on.Pairwise (fun a b => a = b → a = -1)

theorem OnOk.wrong {c : List Int} {fs : List Flaw} {on : List Int} (h : OnOk c fs on) (hl : on.length = fs.length) : wrongS c 0 fs on [] = -1 := by
  rw [wrongS_ok c 0 fs on [] hl]
  exact ⟨fun i h1 h2 => (h.1 i h1 h2).imp id fun ⟨a, b, c⟩ => ⟨a, b, c, by simp⟩, h.2⟩

theorem OnOk.cons {c c' : List Int} {f : Flaw} {fs : List Flaw} {d : Int} {on : List Int} (h : OnOk c' fs on) (hl : on.length = fs.length) (hd : d = -1 ∨ (adjF c f d ∧ d ∈ c')) (hc : ∀ x ∈ c, x ∈ c') : OnOk c (f :: fs) (d :: on) := by
  constructor
  · intro i h1 h2
    cases i with
    | zero => exact hd.imp id fun h => h.1
    | succ i =>
      have h1' : i < on.length := by simpa using h1
      rcases h.1 i h1' (by omega) with e | ⟨a, b, e⟩
      · exact .inl (by simpa using e)
      · exact .inr ⟨by simpa using a, by simpa using b, fun hm => e (hc _ (by simpa using hm))⟩
  · refine List.pairwise_cons.2 ⟨fun x hx e => ?_, h.2⟩
    rcases hd with h0 | ⟨_, h0⟩
    · exact h0
    · subst e
      obtain ⟨i, hi, rfl⟩ := List.mem_iff_getElem.1 hx
      rcases h.1 i hi (by omega) with e | ⟨_, _, e⟩
      · exact e
      · exact absurd h0 e

theorem earliest_facts : ∀ (n : Nat) (t : Tour), Valid t → t.flaws.length = n → (earliestF n t).length = n ∧ OnOk t.closed t.flaws (earliestF n t) ∧ worthS t.flaws (earliestF n t) = meritS t
  | 0, t, hv, h => by
    have h0 : t.flaws = [] := List.eq_nil_of_length_eq_zero h
    refine ⟨rfl, ⟨fun i h => by simp [earliestF] at h, by simp [earliestF]⟩, ?_⟩
    rw [merit_none hv h0, h0]; rfl
  | n + 1, t, hv, h => by
    have hw := without_zero t
    obtain ⟨f, fs, hfs⟩ : ∃ f fs, t.flaws = f :: fs := by
      cases hh : t.flaws with
      | nil => rw [hh] at h; simp at h
      | cons f fs => exact ⟨f, fs, rfl⟩
    have hd : (withoutS t [0]).flaws = fs := by rw [hw, hfs]; rfl
    have hlen : fs.length = n := by rw [hfs] at h; simpa using h
    have hv0 := hv.without [0]
    have hat : flawAt t 0 = f := by rw [flawAt, hfs]; rfl
    rcases first_facts hv (by omega) with ⟨h1, h2, h3⟩ | ⟨h1, h2⟩
    · have hdr := adj_days hv (k := 0) (by omega) h1
      have hn : nextT t = closedS (withoutS t [0]) (firstS t) := by rw [nextT, if_pos h2]
      have hvn := hv0.close (day := firstS t) hdr
      obtain ⟨i1, i2, i3⟩ := earliest_facts n (closedS (withoutS t [0]) (firstS t)) hvn (by show (withoutS t [0]).flaws.length = n; rw [hd]; exact hlen)
      have i2' : OnOk (closedS (withoutS t [0]) (firstS t)).closed fs (earliestF n (closedS (withoutS t [0]) (firstS t))) := by
        have : (closedS (withoutS t [0]) (firstS t)).flaws = fs := hd
        rw [this] at i2; exact i2
      have i3' : worthS fs (earliestF n (closedS (withoutS t [0]) (firstS t))) = meritS (closedS (withoutS t [0]) (firstS t)) := by
        have : (closedS (withoutS t [0]) (firstS t)).flaws = fs := hd
        rw [this] at i3; exact i3
      have ha := mem_adjT.1 h1
      rw [hat] at ha
      simp only [earliestF, hn]
      refine ⟨by simpa using i1, ?_, ?_⟩
      · rw [hfs]
        exact i2'.cons (by rw [i1, hlen]) (.inr ⟨ha, mem_closedS.2 (.inl rfl)⟩) fun x hx => mem_closedS.2 (.inr hx)
      · rw [hfs]
        show (if 0 ≤ firstS t then f.merit else 0) + _ = _
        rw [if_pos h2, i3', ← h3, onS, hat]
    · have hn : nextT t = withoutS t [0] := by rw [nextT, if_neg (by omega)]
      obtain ⟨i1, i2, i3⟩ := earliest_facts n (withoutS t [0]) hv0 (by rw [hd]; exact hlen)
      rw [hd] at i2 i3
      simp only [earliestF, hn, h1]
      refine ⟨by simpa using i1, ?_, ?_⟩
      · rw [hfs]
        exact i2.cons (by rw [i1, hlen]) (.inl rfl) fun x hx => hx
      · rw [hfs]
        show (if (0 : Int) ≤ -1 then f.merit else 0) + _ = _
        rw [if_neg (by decide), i3, h2]; omega

/-- One of its days alone is as good for a flaw. -/
theorem wider_day {t : Tour} (hv : Valid t) {k : Nat} (hk : k < t.flaws.length) {d : Int} (hd : d ∈ daysOfS t k) :
    widerE t t.flaws[k].id d d = 0 ∧ widerR t t.flaws[k].id d d = 0 := by
  obtain ⟨hda, hon⟩ := List.mem_filter.1 hd
  have hon : onS t k d = meritS t := by simpa using hon
  have hda : d ∈ adjT t k := hda
  have hdr := adj_days hv hk hda
  have hadj := (mem_adj_nat hk).1 hda
  have hf := findS_at hv.nd hk
  have ho : spanOk t.days d d = true := by simp [spanOk]; omega
  have e1 : widerE t t.flaws[k].id d d = 0 := by rw [widerE, if_pos (valid_chk hv), hf, if_neg (by omega), if_pos ho]
  have e2 : widerR t t.flaws[k].id d d = meritS (widerT t k d d) - meritS t := by rw [widerR, if_pos (valid_chk hv), hf, if_neg (by omega), if_pos ho]; rfl
  refine ⟨e1, ?_⟩
  obtain ⟨g, hgd⟩ : ∃ g : Flaw, g = { t.flaws[k] with lo := d, hi := d } := ⟨_, rfl⟩
  have hwf : (widerT t k d d).flaws = t.flaws.set k g := by rw [hgd, ← flawAt_nat hk]; rfl
  have hnd : ((widerT t k d d).flaws.map (·.id)).Nodup := by
    rw [hwf, List.map_set]
    have : (t.flaws.map (·.id)).set k g.id = t.flaws.map (·.id) := by
      have e : g.id = (t.flaws.map (·.id))[k]'(by simpa using hk) := by rw [hgd]; simp
      rw [e, List.set_getElem_self]
    rw [this]; exact hv.nd
  have hsw := small_wider hv.small hk (lo := d) (hi := d) ⟨hdr.1, hdr.2⟩
  obtain ⟨m, p3, p4⟩ := merit_optI hsw.dl hsw.dh hsw.sp (fun f hf => (hsw.me f hf).1)
  have o4 : OptF t.closed (t.flaws.set k g) m := by
    have := optF_of hnd p4
    rw [hwf] at this; exact this
  obtain ⟨n, e0, o0⟩ := valid_optF hv
  obtain ⟨x, e3, o1⟩ := valid_optF ((hv.without [(k : Int)]).close (day := d) hdr)
  have hm := hv.fm _ (List.getElem_mem hk)
  have hgm : g.merit = t.flaws[k].merit := by rw [hgd]
  have hgi : g.id = t.flaws[k].id := by rw [hgd]
  have hval : (n : Int) = t.flaws[k].merit + x := by
    rw [← e0, ← hon, onS, flawAt_nat hk, e3]
  have h1 : n ≤ m := by
    obtain ⟨A, a1, a2, a3⟩ := o1.ex
    have hg : g ∉ A := fun h => not_in_without hv.nd hk (a2 _ h) hgi
    have := o4.le (g :: A) (ind_cons a1 hg (by rw [hgd]; exact ⟨Int.le_refl _, Int.le_refl _, hadj.2.2⟩) fun x _ e he => closed_adj he rfl) (fun f hf => by
      rcases List.mem_cons.1 hf with rfl | hf
      · exact List.mem_set hk _
      · obtain ⟨j, hj, hjk, rfl⟩ := mem_without.1 (a2 f hf)
        have hne : k ≠ j := fun e => hjk (by rw [e]; simp)
        refine List.mem_iff_getElem.2 ⟨j, by simpa using hj, ?_⟩
        rw [List.getElem_set_ne hne])
    have e4 : sumw wF (g :: A) = g.merit.toNat + sumw wF A := rfl
    rw [hgm] at e4
    omega
  have h2 : m ≤ n := by
    obtain ⟨A, a1, a2, a3⟩ := o4.ex
    obtain ⟨back, hb⟩ : ∃ back : Flaw → Flaw, ∀ f, back f = if f = g then t.flaws[k] else f := ⟨_, fun _ => rfl⟩
    have hid : ∀ f ∈ A, (back f).id = f.id := fun f _ => by
      rw [hb]; split
      · next h => rw [h, hgi]
      · rfl
    have hmem : ∀ f ∈ A, back f ∈ t.flaws := fun f hf => by
      rw [hb]; split
      · exact List.getElem_mem hk
      · next h => exact (List.mem_or_eq_of_mem_set (a2 f hf)).resolve_right h
    have hidj : ∀ f ∈ A, ∀ f' ∈ A, f.id = f'.id → f = f' := by
      intro f hf f' hf' e
      obtain ⟨i, hi, rfl⟩ := List.mem_iff_getElem.1 (a2 f hf)
      obtain ⟨j, hj, rfl⟩ := List.mem_iff_getElem.1 (a2 f' hf')
      have q1 := findS_at (fl := t.flaws.set k g) (by rw [← hwf]; exact hnd) hi
      have q2 := findS_at (fl := t.flaws.set k g) (by rw [← hwf]; exact hnd) hj
      rw [e] at q1
      obtain rfl : i = j := by omega
      rfl
    have := o0.le (A.map back) (ind_map back a1 (fun f hf f' hf' e => hidj f hf f' hf' (by rw [← hid f hf, ← hid f' hf', e])) (fun f hf e he => by
      rw [hb]; split
      · next h =>
        rw [h, hgd] at he
        exact ⟨by have := hadj.1; have := he.1; have := he.2.1; simp only at *; omega, by have := hadj.2.1; have := he.1; have := he.2.1; simp only at *; omega, he.2.2⟩
      · exact he)) (fun f hf => by
      obtain ⟨f0, h0, rfl⟩ := List.mem_map.1 hf
      exact hmem f0 h0)
    rw [sumw_map, sumw_congr (v := wF) fun f hf => by
      rw [hb]; unfold wF; split
      · next h => rw [h, hgm]
      · rfl] at this
    omega
  rw [e2, p3, e0]
  omega

end Go.Proofs.YtkoejelglinmnaaGreat

/-
  Contracts: CheckJam; what a mending's days are worth; the proof that a mending is a best one.
-/
namespace Go.Proofs.YtkoejelglinmnaaGreat
open Sg Mm
set_option maxRecDepth 100000

def checkJamR (t : Tour) (ids : List Int) (lo hi : Int) : Int := if flawsE t ids = 0 then (if spanOk t.days lo hi = true ∧ jamS t (plL t ids) lo hi = true then 0 else 8) else flawsE t ids

theorem CheckJam_ok (w : World) (t : Tour) (ac af : Option Addr) (cc cf : Nat) (ai : Option Addr) (ci : Nat) (ids : List Int) (lo hi : Int) (hC : IL w ac t.closed) (hF : FL w af t.flaws) (hcl : t.closed.length ≤ 1000) (hfl : t.flaws.length ≤ 1000) (hI : IL w ai ids) (hn : ids.length ≤ 1000) :
    Ret Tryz.prog 40 #[.agg #[.int .i64 t.days, .slice ac t.closed.length cc, .slice af t.flaws.length cf], .slice ai ids.length ci, .agg #[.int .i64 lo, .int .i64 hi]] w fun v w' => v = .int .i64 (checkJamR t ids lo hi) ∧ Chg [] w w' := by
  have hLl := flawsL_len t ids
  refine Ret.of_W (n := 29) Tryz.func40 rfl rfl (Nat.le_of_ble_eq_true rfl) ?_
  refine W.seq fun K hK => ?_
  refine W.region (by rfl) ?_
  refine Flow.box rfl (cs := [_, _, _]) rfl fun w1 c1 s1 b1 => ?_
  refine Flow.box rfl (cs := [_, _]) rfl fun w2 c2 s2 b2 => ?_
  refine Flow.assignC ?_
  refine hK _ _ _ ?_
  clear hK K
  have b12 := b1.chg c2 (by simp)
  have c12 := c1.then c2
  refine W.seq fun K hK => ?_
  refine W.region (by rfl) ?_
  refine Flow.loadA Tf.ty_25 rfl rfl (b12.cells0) ?_
  refine Flow.move (v := .slice _ _ _) rfl ?_
  refine Flow.call2 Tf.hb_95 (v1 := .agg _) rfl (v2 := .slice _ _ _) rfl ?_
  refine Ret.mono (flaws_ok _ t ac af cc cf ai ci ids (hC.ext c12) (hF.ext c12) hcl hfl (hI.ext c12) hn) ?_
  rintro _ w3 ⟨⟨a, c, rfl, hL, _⟩, c3⟩
  refine Flow.move (v := .tuple _) rfl ?_
  refine Flow.extract (v := .slice _ _ _) rfl rfl ?_
  refine Flow.extract (v := .int _ _) rfl rfl ?_
  refine Flow.assign (v := .slice _ _ _) rfl ?_
  refine Flow.assign (v := .int _ _) rfl ?_
  refine hK _ _ _ ?_
  clear hK K
  have c13 := c12.then c3
  have b13 := b12.chg c3 (by simp)
  have b23 := b2.chg c3 (by simp)
  refine W.seq fun K2 hK2 => ?_
  refine W.seq fun K hK => ?_
  refine W.region (by rfl) ?_
  refine Flow.move (v := .int _ _) rfl ?_
  refine Flow.neq rfl rfl ?_
  refine hK _ _ _ ?_
  clear hK K
  refine W.cond rfl (fun h => ?_) (fun h => W.skip (hK2 _ _ _ ?_))
  · have h0 : flawsE t ids ≠ 0 := by simpa using h
    refine W.seq fun K hK => ?_
    refine W.region (by rfl) ?_
    refine Flow.move (v := .int _ _) rfl ?_
    refine Flow.assign (v := .int _ _) rfl ?_
    refine hK _ _ _ ?_
    clear hK K
    exact W.ret ⟨_, res1 rfl (v := .int _ _) rfl, by rw [checkJamR, if_neg h0], c13⟩
  have h0 : flawsE t ids = 0 := by simpa using h
  have hs : Small t := chk_small (flawsE_chk h0)
  have hpl : flawsL t ids = plL t ids := by rw [flawsL, if_pos h0]
  rw [hpl] at hL hLl ⊢
  refine W.seq fun K4 hK4 => ?_
  refine W.seq fun K hK => ?_
  refine W.region (by rfl) ?_
  refine Flow.loadA Tf.ty_25 rfl rfl (b13.cells0) ?_
  refine Flow.loadA Tf.ty_44 rfl rfl (b23.cells0) ?_
  refine Flow.call2 Tf.hb_88 (v1 := .agg _) rfl (v2 := .agg _) rfl ?_
  refine Ret.mono (span_ok _ _ _ _ _ _ _ _ _ _) ?_
  rintro _ w4 ⟨rfl, c4⟩
  refine Flow.not rfl ?_
  have c14 := c13.then c4
  have b14 := b13.chg c4 (by simp)
  have b24 := b23.chg c4 (by simp)
  cases hsp : spanOk t.days lo hi with
  | false =>
    refine Flow.move (v := .bool _) rfl ?_
    refine Flow.off (c := true) rfl rfl rfl ?_
    refine Flow.off (c := true) rfl rfl rfl ?_
    refine Flow.off (c := true) rfl rfl rfl ?_
    refine Flow.off (c := true) rfl rfl rfl ?_
    refine Flow.off (c := true) rfl rfl rfl ?_
    refine Flow.pickT rfl rfl ?_
    refine hK _ _ _ ?_
    clear hK K
    refine W.cond (t := true) rfl (fun _ => ?_) (fun h => by simp at h)
    refine W.seq fun K hK => ?_
    refine W.region (by rfl) ?_
    refine Flow.assignC ?_
    refine hK _ _ _ ?_
    clear hK K
    exact W.ret ⟨_, res1 rfl (v := .int _ _) rfl, by rw [checkJamR, if_pos h0, if_neg (by rw [hsp]; simp)], c14⟩
  | true =>
    have hbd : 0 ≤ lo ∧ lo ≤ hi ∧ hi < t.days := by simpa [spanOk] using hsp
    have hdh := hs.dh
    refine Flow.move (v := .bool _) rfl ?_
    refine Flow.on rfl rfl ?_
    refine Flow.loadA Tf.ty_25 rfl rfl (b14.cells0) ?_
    refine Flow.on rfl rfl ?_
    refine Flow.move (v := .slice _ _ _) rfl ?_
    refine Flow.on rfl rfl ?_
    refine Flow.loadA Tf.ty_44 rfl rfl (b24.cells0) ?_
    refine Flow.on rfl rfl ?_
    refine Flow.call3 Tf.hb_101 (v1 := .agg _) rfl (v2 := .slice _ _ _) rfl (v3 := .agg _) rfl ?_
    refine Ret.mono (jam_ok _ t ac af cc cf a c (plL t ids) lo hi (hC.ext c14) (hF.ext c14) hs (hL.ext c4) (by omega) (plL_rg t ids) (by omega)) ?_
    rintro _ w5 ⟨rfl, c5⟩
    refine Flow.on rfl rfl ?_
    refine Flow.not rfl ?_
    refine Flow.pickF rfl rfl ?_
    refine hK _ _ _ ?_
    clear hK K
    cases hj : jamS t (plL t ids) lo hi with
    | false =>
      refine W.cond (t := true) rfl (fun _ => ?_) (fun h => by simp at h)
      refine W.seq fun K hK => ?_
      refine W.region (by rfl) ?_
      refine Flow.assignC ?_
      refine hK _ _ _ ?_
      clear hK K
      exact W.ret ⟨_, res1 rfl (v := .int _ _) rfl, by rw [checkJamR, if_pos h0, if_neg (by rw [hj]; simp)], c14.then c5⟩
    | true =>
      refine W.cond (t := false) rfl (fun h => by simp at h) (fun _ => W.skip (hK4 _ _ _ ?_))
      refine W.seq fun K hK => ?_
      refine W.region (by rfl) ?_
      refine Flow.assignC ?_
      refine hK _ _ _ ?_
      clear hK K
      exact W.ret ⟨_, res1 rfl (v := .int _ _) rfl, by rw [checkJamR, if_pos h0, if_pos ⟨hsp, hj⟩], c14.then c5⟩

theorem mworth_ok (w : World) (t : Tour) (ac af : Option Addr) (cc cf : Nat) (ao : Option Addr) (co : Nat) (on : List Int) (hF : FL w af t.flaws) (hs : Small t) (hO : IL w ao on) (hn : on.length = t.flaws.length) :
    Ret Tryz.prog 118 #[.agg #[.int .i64 t.days, .slice ac t.closed.length cc, .slice af t.flaws.length cf], .slice ao on.length co] w fun v w' => v = .int .i64 (worthS t.flaws on) ∧ Chg [] w w' := by
  have hfl := hs.fl
  refine Ret.of_W (n := 27) Tryz.func118 rfl rfl (Nat.le_of_ble_eq_true rfl) ?_
  refine W.seq fun K hK => ?_
  refine W.region (by rfl) ?_
  refine Flow.box rfl (cs := [_, _, _]) rfl fun w1 c1 s1 b1 => ?_
  refine Flow.assignC ?_
  refine hK _ _ _ ?_
  clear hK K
  refine W.seq fun K hK => ?_
  refine W.region (by rfl) ?_
  refine Flow.assignC ?_
  refine hK _ _ _ ?_
  clear hK K
  refine W.seq fun K0 hK0 => ?_
  refine W.seq fun K hK => ?_
  refine W.region (by rfl) ?_
  refine Flow.move (v := .slice _ _ _) rfl ?_
  refine Flow.len rfl Tf.us_22 rfl rfl ?_
  refine Flow.moveC ?_
  refine hK _ _ _ ?_
  clear hK K
  refine W.block ?_
  refine W.loop (ι := Nat × Int) (fun k ds e w' => ds = [] ∧ k.1 ≤ on.length ∧ AllAt e [(2, .pointer (some ⟨w.heap.size, 0, none⟩)), (5, .int .i64 k.2), (8, .slice ao on.length co), (9, .int .i64 on.length), (10, .int .i64 k.1)] ∧ Chg [] w1 w' ∧
      worthS t.flaws on = k.2 + worthS (t.flaws.drop k.1) (on.drop k.1) ∧ 0 ≤ k.2 ∧ k.2 ≤ k.1 * 4194304)
    (fun k => on.length - k.1) (i0 := (0, 0)) ⟨rfl, by omega, ⟨rfl, rfl, rfl, rfl, rfl, trivial⟩, Chg.refl _ _, by simp, by simp, by simp⟩ ?_
  rintro ⟨k, n⟩ ds e w2 ⟨rfl, hk, hE, hc, hw, hn0, hn1⟩
  obtain ⟨e, rfl⟩ : ∃ e0, e = putL e0 _ := ⟨e, putL_self hE⟩
  clear hE
  simp only at hk hw hn0 hn1 ⊢
  have b12 := b1.chg hc (by simp)
  refine W.seq fun K hK => ?_
  refine W.region (by rfl) ?_
  refine Flow.lss rfl rfl ?_
  refine hK _ _ _ ?_
  clear hK K
  refine W.seq fun K2 hK2 => ?_
  refine W.cond rfl (fun h => W.skip (hK2 _ _ _ ?_)) (fun h => W.exit ?_)
  case refine_2 =>
    have hge : ¬ k < on.length := by simpa using h
    rw [List.drop_eq_nil_of_le (by omega : on.length ≤ k), worthS_nil, Int.add_zero] at hw
    refine hK0 _ _ _ ?_
    refine W.seq fun K hK => ?_
    refine W.region (by rfl) ?_
    refine Flow.move (v := .int _ _) rfl ?_
    refine Flow.assign (v := .int _ _) rfl ?_
    refine hK _ _ _ ?_
    clear hK K
    exact W.ret ⟨_, res1 rfl (v := .int _ _) rfl, by rw [hw], c1.then hc⟩
  have hlt : k < on.length := by simpa using h
  have hlt2 : k < t.flaws.length := by omega
  obtain ⟨bo, oo, rfl, hcellO⟩ := (hO.ext (c1.then hc)).get hlt
  obtain ⟨bf, of_, rfl, hcellF⟩ := (hF.ext (c1.then hc)).get hlt2
  have hme := hs.me _ (List.getElem_mem hlt2)
  rw [List.drop_eq_getElem_cons hlt, List.drop_eq_getElem_cons hlt2, worthS] at hw
  refine W.seq fun K3 hK3 => ?_
  refine W.block ?_
  refine W.seq fun K hK => ?_
  refine W.region (by rfl) ?_
  refine Flow.move (v := .int _ _) rfl ?_
  refine Flow.indexAddr1 Tf.sl_22 rfl rfl (by omega) (by omega) ?_
  refine Flow.load1 Tf.ty_3 rfl (hcellO k hlt) ?_
  refine Flow.assign (v := .int _ _) rfl ?_
  refine Flow.assign (v := .int _ _) rfl ?_
  refine hK _ _ _ ?_
  clear hK K
  refine W.seq fun K hK => ?_
  refine W.region (by rfl) ?_
  refine Flow.move (v := .int _ _) rfl ?_
  refine Flow.geq rfl rfl ?_
  refine hK _ _ _ ?_
  clear hK K
  refine W.cond rfl (fun h => ?_) (fun h => W.skip (hK3 _ _ _ ?_))
  · have h0 : 0 ≤ on[k] := by simpa using h
    rw [if_pos h0] at hw
    refine W.region (by rfl) ?_
    refine Flow.move (v := .int _ _) rfl ?_
    refine Flow.fieldAddr Tf.fo_25_2 rfl ?_
    refine Flow.load1 Tf.ty_23 rfl (b12.cell 2) ?_
    refine Flow.move (v := .int _ _) rfl ?_
    refine Flow.indexAddr Tf.sl_23 rfl rfl (by omega) (by omega) ?_
    refine Flow.fieldAddr Tf.fo_81_2 rfl ?_
    refine Flow.load1 Tf.ty_3 rfl ((hcellF k hlt2).2.2.2.1) ?_
    refine Flow.add rfl rfl (by omega) (by omega) ?_
    refine Flow.assign (v := .int _ _) rfl ?_
    refine Flow.nil (hK3 _ _ _ ?_)
    refine W.region (by rfl) ?_
    refine Flow.add rfl rfl (by omega) (by omega) ?_
    refine Flow.move (v := .int _ _) rfl ?_
    exact Flow.nil ⟨(k + 1, n + t.flaws[k].merit), by simp only; omega, rfl, by simp only; omega, ⟨rfl, rfl, rfl, rfl, rfl, trivial⟩, hc, by simp only; omega, by simp only; omega, by simp only; omega⟩
  · have h0 : ¬ 0 ≤ on[k] := by simpa using h
    rw [if_neg h0] at hw
    refine W.region (by rfl) ?_
    refine Flow.add rfl rfl (by omega) (by omega) ?_
    refine Flow.move (v := .int _ _) rfl ?_
    exact Flow.nil ⟨(k + 1, n), by simp only; omega, rfl, by simp only; omega, ⟨rfl, rfl, rfl, rfl, rfl, trivial⟩, hc, by simp only; omega, by simp only; omega, by simp only; omega⟩

/-- A span that proves that a flaw isn't mended; none where it is. -/
def FullOk (t : Tour) (on : List Int) (k : Nat) (s : Int × Int) : Prop :=
  if 0 ≤ at' on k then s = (0, 0) else spanOk t.days s.1 s.2 = true ∧ (s.1 ≤ (flawAt t k).lo ∧ (flawAt t k).hi ≤ s.2) ∧ fullS t on s.1 s.2 (flawAt t k).merit = true

structure Proved (t : Tour) (on : List Int) (mer : Int) (full : List (Int × Int)) : Prop where
  len : on.length = t.flaws.length
  flen : full.length = t.flaws.length
  fit : wrongS t.closed 0 t.flaws on [] < 0
  worth : worthS t.flaws on = mer
  full : ∀ k (h : k < full.length), FullOk t on k full[k]

set_option maxHeartbeats 2000000 in
theorem proved_ok (w : World) (t : Tour) (ac af : Option Addr) (cc cf : Nat) (ao : Option Addr) (co : Nat) (on : List Int) (mer : Int) (ar : Option Addr) (cr : Nat) (full : List (Int × Int)) (hC : IL w ac t.closed) (hF : FL w af t.flaws) (hs : Small t) (hO : IL w ao on) (hR : SL w ar full) :
    Ret Tryz.prog 106 #[.agg #[.int .i64 t.days, .slice ac t.closed.length cc, .slice af t.flaws.length cf], .agg #[.slice ao on.length co, .int .i64 mer, .slice ar full.length cr]] w fun v w' => (∃ b, v = .bool b ∧ (b = true ↔ Proved t on mer full)) ∧ Chg [] w w' := by
  have hfl := hs.fl
  have hdh := hs.dh
  refine Ret.of_W (n := 86) Tryz.func106 rfl rfl (Nat.le_of_ble_eq_true rfl) ?_
  refine W.seq fun K hK => ?_
  refine W.region (by rfl) ?_
  refine Flow.box rfl (cs := [_, _, _]) rfl fun w1 c1 s1 b1 => ?_
  refine Flow.box rfl (cs := [_, _, _]) rfl fun w2 c2 s2 b2 => ?_
  refine Flow.assignC ?_
  refine hK _ _ _ ?_
  clear hK K
  have b12 := b1.chg c2 (by simp)
  have c12 := c1.then c2
  refine W.seq fun K1 hK1 => ?_
  by_cases hl : on.length = t.flaws.length
  case neg =>
    refine W.seq fun K hK => ?_
    refine W.regionD [20, 27] [] (by kernel_rfl) (by kernel_rfl) fun w3 c3 h3 => ?_
    refine FD.val (fun _ hw => Rn.fieldAddr Tf.fo_51_0 rfl) ?_
    refine FD.val (fun _ hw => Rn.load1 Tf.ty_22 rfl ((b2.chg c3 (by simp)).cell 0) (hw rfl rfl)) ?_
    refine FD.val (fun _ hw => Rn.len rfl Tf.us_22 rfl rfl) ?_
    refine FD.val (fun _ hw => Rn.fieldAddr Tf.fo_25_2 rfl) ?_
    refine FD.val (fun _ hw => Rn.load1 Tf.ty_23 rfl ((b12.chg c3 (by simp)).cell 2) (hw rfl rfl)) ?_
    refine FD.val (fun _ hw => Rn.len rfl Tf.us_23 rfl rfl) ?_
    refine FD.val (fun _ hw => Rn.neqD (c := true) rfl rfl (decide_eq_true (by omega))) ?_
    refine FD.val (fun _ hw => Rn.move (v := .bool _) rfl) ?_
    refine FD.off (c := true) rfl rfl rfl ?_
    refine FD.off (c := true) rfl rfl rfl ?_
    refine FD.off (c := true) rfl rfl rfl ?_
    refine FD.off (c := true) rfl rfl rfl ?_
    refine FD.off (c := true) rfl rfl rfl ?_
    refine FD.off (c := true) rfl rfl rfl ?_
    refine FD.off (c := true) rfl rfl rfl ?_
    refine FD.val (fun _ hw => Rn.pickT rfl rfl) ?_
    refine FD.val (fun _ hw => Rn.move (v := .bool _) rfl) ?_
    refine FD.off (c := true) rfl rfl rfl ?_
    refine FD.off (c := true) rfl rfl rfl ?_
    refine FD.off (c := true) rfl rfl rfl ?_
    refine FD.off (c := true) rfl rfl rfl ?_
    refine FD.off (c := true) rfl rfl rfl ?_
    refine FD.val (fun _ hw => Rn.pickT rfl rfl) ?_
    refine FD.val (fun _ hw => Rn.move (v := .bool _) rfl) ?_
    refine FD.off (c := true) rfl rfl rfl ?_
    refine FD.off (c := true) rfl rfl rfl ?_
    refine FD.off (c := true) rfl rfl rfl ?_
    refine FD.off (c := true) rfl rfl rfl ?_
    refine FD.off (c := true) rfl rfl rfl ?_
    refine FD.off (c := true) rfl rfl rfl ?_
    refine FD.off (c := true) rfl rfl rfl ?_
    refine FD.val (fun _ hw => Rn.pickT rfl rfl) ?_
    refine FD.nil ?_
    refine hK _ _ _ ?_
    clear hK K
    refine W.cond (t := true) rfl (fun _ => ?_) (fun h => by simp at h)
    refine W.seq fun K hK => ?_
    refine W.region (by rfl) ?_
    refine Flow.assignC ?_
    refine hK _ _ _ ?_
    clear hK K
    exact W.ret ⟨_, res1 rfl (v := .bool _) rfl, ⟨_, rfl, ⟨fun h => (Bool.false_ne_true h).elim, fun h => absurd h.len hl⟩⟩, c12.then c3⟩
  by_cases hl2 : full.length = t.flaws.length
  case neg =>
    refine W.seq fun K hK => ?_
    refine W.regionD [20, 27] [] (by kernel_rfl) (by kernel_rfl) fun w3 c3 h3 => ?_
    refine FD.val (fun _ hw => Rn.fieldAddr Tf.fo_51_0 rfl) ?_
    refine FD.val (fun _ hw => Rn.load1 Tf.ty_22 rfl ((b2.chg c3 (by simp)).cell 0) (hw rfl rfl)) ?_
    refine FD.val (fun _ hw => Rn.len rfl Tf.us_22 rfl rfl) ?_
    refine FD.val (fun _ hw => Rn.fieldAddr Tf.fo_25_2 rfl) ?_
    refine FD.val (fun _ hw => Rn.load1 Tf.ty_23 rfl ((b12.chg c3 (by simp)).cell 2) (hw rfl rfl)) ?_
    refine FD.val (fun _ hw => Rn.len rfl Tf.us_23 rfl rfl) ?_
    refine FD.val (fun _ hw => Rn.neqD (c := false) rfl rfl (decide_eq_false (by omega))) ?_
    refine FD.val (fun _ hw => Rn.move (v := .bool _) rfl) ?_
    refine FD.on rfl rfl ?_
    refine FD.val (fun _ hw => Rn.fieldAddr Tf.fo_51_2 rfl) ?_
    refine FD.on rfl rfl ?_
    refine FD.val (fun _ hw => Rn.load1 Tf.ty_49 rfl ((b2.chg c3 (by simp)).cell 2) (hw rfl rfl)) ?_
    refine FD.on rfl rfl ?_
    refine FD.val (fun _ hw => Rn.len rfl Tf.us_49 rfl rfl) ?_
    refine FD.on rfl rfl ?_
    refine FD.val (fun _ hw => Rn.fieldAddr Tf.fo_25_2 rfl) ?_
    refine FD.on rfl rfl ?_
    refine FD.val (fun _ hw => Rn.load1 Tf.ty_23 rfl ((b12.chg c3 (by simp)).cell 2) (hw rfl rfl)) ?_
    refine FD.on rfl rfl ?_
    refine FD.val (fun _ hw => Rn.len rfl Tf.us_23 rfl rfl) ?_
    refine FD.on rfl rfl ?_
    refine FD.val (fun _ hw => Rn.neqD (c := true) rfl rfl (decide_eq_true (by omega))) ?_
    refine FD.val (fun _ hw => Rn.pickF rfl rfl) ?_
    refine FD.val (fun _ hw => Rn.move (v := .bool _) rfl) ?_
    refine FD.off (c := true) rfl rfl rfl ?_
    refine FD.off (c := true) rfl rfl rfl ?_
    refine FD.off (c := true) rfl rfl rfl ?_
    refine FD.off (c := true) rfl rfl rfl ?_
    refine FD.off (c := true) rfl rfl rfl ?_
    refine FD.val (fun _ hw => Rn.pickT rfl rfl) ?_
    refine FD.val (fun _ hw => Rn.move (v := .bool _) rfl) ?_
    refine FD.off (c := true) rfl rfl rfl ?_
    refine FD.off (c := true) rfl rfl rfl ?_
    refine FD.off (c := true) rfl rfl rfl ?_
    refine FD.off (c := true) rfl rfl rfl ?_
    refine FD.off (c := true) rfl rfl rfl ?_
    refine FD.off (c := true) rfl rfl rfl ?_
    refine FD.off (c := true) rfl rfl rfl ?_
    refine FD.val (fun _ hw => Rn.pickT rfl rfl) ?_
    refine FD.nil ?_
    refine hK _ _ _ ?_
    clear hK K
    refine W.cond (t := true) rfl (fun _ => ?_) (fun h => by simp at h)
    refine W.seq fun K hK => ?_
    refine W.region (by rfl) ?_
    refine Flow.assignC ?_
    refine hK _ _ _ ?_
    clear hK K
    exact W.ret ⟨_, res1 rfl (v := .bool _) rfl, ⟨_, rfl, ⟨fun h => (Bool.false_ne_true h).elim, fun h => absurd h.flen hl2⟩⟩, c12.then c3⟩
  by_cases hw : wrongS t.closed 0 t.flaws on [] < 0
  case neg =>
    refine W.seq fun K hK => ?_
    refine W.regionD [20, 27] [] (by kernel_rfl) (by kernel_rfl) fun w3 c3 h3 => ?_
    refine FD.val (fun _ hw => Rn.fieldAddr Tf.fo_51_0 rfl) ?_
    refine FD.val (fun _ hw => Rn.load1 Tf.ty_22 rfl ((b2.chg c3 (by simp)).cell 0) (hw rfl rfl)) ?_
    refine FD.val (fun _ hw => Rn.len rfl Tf.us_22 rfl rfl) ?_
    refine FD.val (fun _ hw => Rn.fieldAddr Tf.fo_25_2 rfl) ?_
    refine FD.val (fun _ hw => Rn.load1 Tf.ty_23 rfl ((b12.chg c3 (by simp)).cell 2) (hw rfl rfl)) ?_
    refine FD.val (fun _ hw => Rn.len rfl Tf.us_23 rfl rfl) ?_
    refine FD.val (fun _ hw => Rn.neqD (c := false) rfl rfl (decide_eq_false (by omega))) ?_
    refine FD.val (fun _ hw => Rn.move (v := .bool _) rfl) ?_
    refine FD.on rfl rfl ?_
    refine FD.val (fun _ hw => Rn.fieldAddr Tf.fo_51_2 rfl) ?_
    refine FD.on rfl rfl ?_
    refine FD.val (fun _ hw => Rn.load1 Tf.ty_49 rfl ((b2.chg c3 (by simp)).cell 2) (hw rfl rfl)) ?_
    refine FD.on rfl rfl ?_
    refine FD.val (fun _ hw => Rn.len rfl Tf.us_49 rfl rfl) ?_
    refine FD.on rfl rfl ?_
    refine FD.val (fun _ hw => Rn.fieldAddr Tf.fo_25_2 rfl) ?_
    refine FD.on rfl rfl ?_
    refine FD.val (fun _ hw => Rn.load1 Tf.ty_23 rfl ((b12.chg c3 (by simp)).cell 2) (hw rfl rfl)) ?_
    refine FD.on rfl rfl ?_
    refine FD.val (fun _ hw => Rn.len rfl Tf.us_23 rfl rfl) ?_
    refine FD.on rfl rfl ?_
    refine FD.val (fun _ hw => Rn.neqD (c := false) rfl rfl (decide_eq_false (by omega))) ?_
    refine FD.val (fun _ hw => Rn.pickF rfl rfl) ?_
    refine FD.val (fun _ hw => Rn.move (v := .bool _) rfl) ?_
    refine FD.on rfl rfl ?_
    refine FD.val (fun _ hw => Rn.loadA Tf.ty_25 rfl rfl ((b12.chg c3 (by simp)).cells0) (hw rfl rfl)) ?_
    refine FD.on rfl rfl ?_
    refine FD.val (fun _ hw => Rn.fieldAddr Tf.fo_51_0 rfl) ?_
    refine FD.on rfl rfl ?_
    refine FD.val (fun _ hw => Rn.load1 Tf.ty_22 rfl ((b2.chg c3 (by simp)).cell 0) (hw rfl rfl)) ?_
    refine FD.on rfl rfl ?_
    refine FD.eff (by rfl) (Chg.refl _ _) ?_
    refine Flow.call2 Tf.hb_90 (v1 := .agg _) rfl (v2 := .slice _ _ _) rfl ?_
    refine Ret.mono (wrong_ok _ t ac af ao cc cf co on (hC.ext (c12.then c3)) (hF.ext (c12.then c3)) (hO.ext (c12.then c3)) hs (by omega)) ?_
    rintro _ w4 ⟨rfl, c4⟩
    refine Flow.nil ⟨c4, ?_⟩
    refine FD.on rfl rfl ?_
    refine FD.val (fun _ hw => Rn.geqD (c := true) rfl rfl (decide_eq_true (by omega))) ?_
    refine FD.val (fun _ hw => Rn.pickF rfl rfl) ?_
    refine FD.val (fun _ hw => Rn.move (v := .bool _) rfl) ?_
    refine FD.off (c := true) rfl rfl rfl ?_
    refine FD.off (c := true) rfl rfl rfl ?_
    refine FD.off (c := true) rfl rfl rfl ?_
    refine FD.off (c := true) rfl rfl rfl ?_
    refine FD.off (c := true) rfl rfl rfl ?_
    refine FD.off (c := true) rfl rfl rfl ?_
    refine FD.off (c := true) rfl rfl rfl ?_
    refine FD.val (fun _ hw => Rn.pickT rfl rfl) ?_
    refine FD.nil ?_
    refine hK _ _ _ ?_
    clear hK K
    refine W.cond (t := true) rfl (fun _ => ?_) (fun h => by simp at h)
    refine W.seq fun K hK => ?_
    refine W.region (by rfl) ?_
    refine Flow.assignC ?_
    refine hK _ _ _ ?_
    clear hK K
    exact W.ret ⟨_, res1 rfl (v := .bool _) rfl, ⟨_, rfl, ⟨fun h => (Bool.false_ne_true h).elim, fun h => absurd h.fit hw⟩⟩, c12.then (c3.then c4)⟩
  refine W.seq fun K hK => ?_
  refine W.regionD [20, 27] [] (by kernel_rfl) (by kernel_rfl) fun w3 c3 h3 => ?_
  refine FD.val (fun _ hw => Rn.fieldAddr Tf.fo_51_0 rfl) ?_
  refine FD.val (fun _ hw => Rn.load1 Tf.ty_22 rfl ((b2.chg c3 (by simp)).cell 0) (hw rfl rfl)) ?_
  refine FD.val (fun _ hw => Rn.len rfl Tf.us_22 rfl rfl) ?_
  refine FD.val (fun _ hw => Rn.fieldAddr Tf.fo_25_2 rfl) ?_
  refine FD.val (fun _ hw => Rn.load1 Tf.ty_23 rfl ((b12.chg c3 (by simp)).cell 2) (hw rfl rfl)) ?_
  refine FD.val (fun _ hw => Rn.len rfl Tf.us_23 rfl rfl) ?_
  refine FD.val (fun _ hw => Rn.neqD (c := false) rfl rfl (decide_eq_false (by omega))) ?_
  refine FD.val (fun _ hw => Rn.move (v := .bool _) rfl) ?_
  refine FD.on rfl rfl ?_
  refine FD.val (fun _ hw => Rn.fieldAddr Tf.fo_51_2 rfl) ?_
  refine FD.on rfl rfl ?_
  refine FD.val (fun _ hw => Rn.load1 Tf.ty_49 rfl ((b2.chg c3 (by simp)).cell 2) (hw rfl rfl)) ?_
  refine FD.on rfl rfl ?_
  refine FD.val (fun _ hw => Rn.len rfl Tf.us_49 rfl rfl) ?_
  refine FD.on rfl rfl ?_
  refine FD.val (fun _ hw => Rn.fieldAddr Tf.fo_25_2 rfl) ?_
  refine FD.on rfl rfl ?_
  refine FD.val (fun _ hw => Rn.load1 Tf.ty_23 rfl ((b12.chg c3 (by simp)).cell 2) (hw rfl rfl)) ?_
  refine FD.on rfl rfl ?_
  refine FD.val (fun _ hw => Rn.len rfl Tf.us_23 rfl rfl) ?_
  refine FD.on rfl rfl ?_
  refine FD.val (fun _ hw => Rn.neqD (c := false) rfl rfl (decide_eq_false (by omega))) ?_
  refine FD.val (fun _ hw => Rn.pickF rfl rfl) ?_
  refine FD.val (fun _ hw => Rn.move (v := .bool _) rfl) ?_
  refine FD.on rfl rfl ?_
  refine FD.val (fun _ hw => Rn.loadA Tf.ty_25 rfl rfl ((b12.chg c3 (by simp)).cells0) (hw rfl rfl)) ?_
  refine FD.on rfl rfl ?_
  refine FD.val (fun _ hw => Rn.fieldAddr Tf.fo_51_0 rfl) ?_
  refine FD.on rfl rfl ?_
  refine FD.val (fun _ hw => Rn.load1 Tf.ty_22 rfl ((b2.chg c3 (by simp)).cell 0) (hw rfl rfl)) ?_
  refine FD.on rfl rfl ?_
  refine FD.eff (by rfl) (Chg.refl _ _) ?_
  refine Flow.call2 Tf.hb_90 (v1 := .agg _) rfl (v2 := .slice _ _ _) rfl ?_
  refine Ret.mono (wrong_ok _ t ac af ao cc cf co on (hC.ext (c12.then c3)) (hF.ext (c12.then c3)) (hO.ext (c12.then c3)) hs (by omega)) ?_
  rintro _ w4 ⟨rfl, c4⟩
  refine Flow.nil ⟨c4, ?_⟩
  refine FD.on rfl rfl ?_
  refine FD.val (fun _ hw => Rn.geqD (c := false) rfl rfl (decide_eq_false (by omega))) ?_
  refine FD.val (fun _ hw => Rn.pickF rfl rfl) ?_
  refine FD.val (fun _ hw => Rn.move (v := .bool _) rfl) ?_
  refine FD.on rfl rfl ?_
  refine FD.val (fun _ hw => Rn.loadA Tf.ty_25 rfl rfl ((b12.chg c3 (by simp)).cells0) (hw rfl rfl)) ?_
  refine FD.on rfl rfl ?_
  refine FD.val (fun _ hw => Rn.fieldAddr Tf.fo_51_0 rfl) ?_
  refine FD.on rfl rfl ?_
  refine FD.val (fun _ hw => Rn.load1 Tf.ty_22 rfl ((b2.chg c3 (by simp)).cell 0) (hw rfl rfl)) ?_
  refine FD.on rfl rfl ?_
  refine FD.eff (by rfl) (c4) ?_
  refine Flow.call2 Tf.hb_118 (v1 := .agg _) rfl (v2 := .slice _ _ _) rfl ?_
  refine Ret.mono (mworth_ok _ t ac af cc cf ao co on (hF.ext (c12.then (c3.then c4))) hs (hO.ext (c12.then (c3.then c4))) hl) ?_
  rintro _ w5 ⟨rfl, c5⟩
  refine Flow.nil ⟨c5, ?_⟩
  refine FD.on rfl rfl ?_
  refine FD.val (fun _ hw => Rn.fieldAddr Tf.fo_51_1 rfl) ?_
  refine FD.on rfl rfl ?_
  refine FD.val (fun _ hw => Rn.load1 Tf.ty_3 rfl ((b2.chg c3 (by simp)).cell 1) (hw rfl rfl)) ?_
  refine FD.on rfl rfl ?_
  refine FD.val (fun _ hw => Rn.neqD rfl rfl rfl) ?_
  refine FD.val (fun _ hw => Rn.pickF rfl rfl) ?_
  refine FD.nil ?_
  refine hK _ _ _ ?_
  clear hK K
  have c15 := c12.then (c3.then (c4.then c5))
  have b15 := b12.chg (c3.then (c4.then c5)) (by simp)
  have b25 := b2.chg (c3.then (c4.then c5)) (by simp)
  refine W.cond rfl (fun h => ?_) (fun h => W.skip (hK1 _ _ _ ?_))
  · have hne : worthS t.flaws on ≠ mer := by simpa using h
    refine W.seq fun K hK => ?_
    refine W.region (by rfl) ?_
    refine Flow.assignC ?_
    refine hK _ _ _ ?_
    clear hK K
    exact W.ret ⟨_, res1 rfl (v := .bool _) rfl, ⟨_, rfl, ⟨fun h => (Bool.false_ne_true h).elim, fun h => absurd h.worth hne⟩⟩, c15⟩
  have hwm : worthS t.flaws on = mer := by simpa using h
  clear h hK1 K1
  refine W.forget [(2, .pointer (some ⟨w.heap.size, 0, none⟩)), (3, .pointer (some ⟨w1.heap.size, 0, none⟩))] ⟨rfl, rfl, trivial⟩ fun e => ?_
  refine W.seq fun K3 hK3 => ?_
  refine W.seq fun K hK => ?_
  refine W.region (by rfl) ?_
  refine Flow.fieldAddr Tf.fo_51_2 rfl ?_
  refine Flow.load1 Tf.ty_49 rfl (b25.cell 2) ?_
  refine Flow.len rfl Tf.us_49 rfl rfl ?_
  refine Flow.moveC ?_
  refine hK _ _ _ ?_
  clear hK K
  refine W.block ?_
  refine W.loop (ι := Nat) (fun k ds e w' => ds = [] ∧ k ≤ full.length ∧ AllAt e [(2, .pointer (some ⟨w.heap.size, 0, none⟩)), (3, .pointer (some ⟨w1.heap.size, 0, none⟩)), (40, .slice ar full.length cr), (41, .int .i64 full.length), (42, .int .i64 k)] ∧ Chg [] w5 w' ∧ ∀ j (h : j < full.length), j < k → FullOk t on j full[j])
    (fun k => full.length - k) (i0 := 0) ⟨rfl, by omega, ⟨rfl, rfl, rfl, rfl, rfl, trivial⟩, Chg.refl _ _, fun j _ h => by omega⟩ ?_
  rintro k ds e w6 ⟨rfl, hk, hE, hc, hbef⟩
  obtain ⟨e, rfl⟩ : ∃ e0, e = putL e0 _ := ⟨e, putL_self hE⟩
  clear hE
  refine W.seq fun K hK => ?_
  refine W.region (by rfl) ?_
  refine Flow.lss rfl rfl ?_
  refine hK _ _ _ ?_
  clear hK K
  refine W.seq fun K4 hK4 => ?_
  refine W.cond rfl (fun h => W.skip (hK4 _ _ _ ?_)) (fun h => W.exit ?_)
  case refine_2 =>
    have hge : ¬ k < full.length := by simpa using h
    refine hK3 _ _ _ ?_
    refine W.seq fun K hK => ?_
    refine W.region (by rfl) ?_
    refine Flow.assignC ?_
    refine hK _ _ _ ?_
    clear hK K
    exact W.ret ⟨_, res1 rfl (v := .bool _) rfl, ⟨_, rfl, ⟨fun _ => ⟨hl, hl2, hw, hwm, fun j hj => hbef j hj (by omega)⟩, fun _ => rfl⟩⟩, c15.then hc⟩
  have hlt : k < full.length := by simpa using h
  have hlt2 : k < t.flaws.length := by omega
  have hlt3 : k < on.length := by omega
  have c16 := c15.then hc
  have b16 := b15.chg hc (by simp)
  have b26 := b25.chg hc (by simp)
  obtain ⟨br, or_, rfl, hcR⟩ := (hR.ext c16).get hlt
  obtain ⟨bo, oo, rfl, hcO⟩ := (hO.ext c16).get hlt3
  obtain ⟨bf, of_, rfl, hcF⟩ := (hF.ext c16).get hlt2
  obtain ⟨⟨lo, hi⟩, hsp⟩ : ∃ p, p = full[k] := ⟨_, rfl⟩
  have hcRk := hcR k hlt
  rw [← hsp] at hcRk
  have hatk : at' on k = on[k] := at_nat hlt3
  have hflk : flawAt t (k : Int) = t.flaws[k] := flawAt_get (by simpa using hlt2)
  refine W.seq fun K11 hK11 => ?_
  have hnext : ∀ e w', AllAt e [(2, .pointer (some ⟨w.heap.size, 0, none⟩)), (3, .pointer (some ⟨w1.heap.size, 0, none⟩)), (40, .slice (some ⟨br, or_, none⟩) full.length cr), (41, .int .i64 full.length), (42, .int .i64 k)] → Chg [] w5 w' → FullOk t on k (lo, hi) → K11 [] e w' := by
    intro e w' hE hc' hok
    refine hK11 _ _ _ ?_
    obtain ⟨e, rfl⟩ : ∃ e0, e = putL e0 _ := ⟨e, putL_self hE⟩
    clear hE
    refine W.region (by rfl) ?_
    refine Flow.add rfl rfl (by omega) (by omega) ?_
    refine Flow.move (v := .int _ _) rfl ?_
    refine Flow.nil ⟨k + 1, by omega, rfl, by omega, ⟨rfl, rfl, rfl, rfl, rfl, trivial⟩, hc', fun j hj hjk => ?_⟩
    by_cases e : j = k
    · subst e; rw [← hsp]; exact hok
    · exact hbef j hj (by omega)
  refine W.block ?_
  refine W.seq fun K hK => ?_
  refine W.region (by rfl) ?_
  refine Flow.move (v := .int _ _) rfl ?_
  refine Flow.indexAddr Tf.sl_49 rfl rfl (by omega) (by omega) ?_
  refine Flow.loadA Tf.ty_44 rfl rfl (hcRk) ?_
  refine Flow.alloc Tf.ty_44 (cs := [_, _]) rfl fun w7 c7 s7 b7 => ?_
  refine Flow.assign (v := .int _ _) rfl ?_
  refine Flow.store Tf.ty_44 rfl rfl (b7) (vs := [_, _]) rfl rfl (by simp) rfl fun w8 c8 s8 b8 => ?_
  refine hK _ _ _ ?_
  clear hK K
  have c68 : Chg [] w6 w8 := c7.step c8 (by simp)
  have c18 := c16.then c68
  have b18 := b16.chg c68 (by simp)
  have b28 := b26.chg c68 (by simp)
  refine W.seq fun K6 hK6 => ?_
  refine W.seq fun K hK => ?_
  refine W.region (by rfl) ?_
  refine Flow.fieldAddr Tf.fo_51_0 rfl ?_
  refine Flow.load1 Tf.ty_22 rfl (b28.cell 0) ?_
  refine Flow.move (v := .int _ _) rfl ?_
  refine Flow.indexAddr1 Tf.sl_22 rfl rfl (by omega) (by omega) ?_
  refine Flow.load1 Tf.ty_3 rfl (cell_chg (hcO k hlt3) c68 (by simp)) ?_
  refine Flow.geq rfl rfl ?_
  refine hK _ _ _ ?_
  clear hK K
  refine W.cond rfl (fun h => ?_) (fun h => W.skip (hK6 _ _ _ ?_))
  · have h0 : 0 ≤ on[k] := by simpa using h
    refine W.seq fun K7 hK7 => ?_
    refine W.seq fun K hK => ?_
    refine W.region (by rfl) ?_
    refine Flow.loadA Tf.ty_44 rfl rfl (b8.cells0) ?_
    refine Flow.buildL Tf.ty_44 Tf.pl_44 (l := []) (zs := [_, _]) (cs := [_, _]) rfl rfl rfl ?_
    refine Flow.nePair pair_span rfl rfl ?_
    refine hK _ _ _ ?_
    clear hK K
    refine W.cond rfl (fun h => ?_) (fun h => W.skip (hK7 _ _ _ ?_))
    · have hne : ¬ (lo = 0 ∧ hi = 0) := by
        intro hh
        simp [hh.1, hh.2] at h
      refine W.seq fun K hK => ?_
      refine W.region (by rfl) ?_
      refine Flow.assignC ?_
      refine hK _ _ _ ?_
      clear hK K
      refine W.ret ⟨_, res1 rfl (v := .bool _) rfl, ⟨_, rfl, ⟨fun h => (Bool.false_ne_true h).elim, fun h => ?_⟩⟩, c18⟩
      have := h.full k hlt
      rw [← hsp, FullOk, hatk, if_pos h0] at this
      exact absurd ⟨congrArg Prod.fst this, congrArg Prod.snd this⟩ hne
    · have he : lo = 0 ∧ hi = 0 := by simpa using h
      refine W.exit ?_
      exact hnext _ _ ⟨rfl, rfl, rfl, rfl, rfl, trivial⟩ (hc.then c68) (by rw [FullOk, hatk, if_pos h0, he.1, he.2])
  have h0 : ¬ 0 ≤ on[k] := by simpa using h
  have hneg : ∀ (hf : ¬ (spanOk t.days lo hi = true ∧ (lo ≤ t.flaws[k].lo ∧ t.flaws[k].hi ≤ hi) ∧ fullS t on lo hi t.flaws[k].merit = true)), ¬ Proved t on mer full := fun hf hp => by
    have := hp.full k hlt
    rw [← hsp, FullOk, hatk, if_neg h0, hflk] at this
    exact hf this
  have hcFk := hcF k hlt2
  have hcF8 := Cells.chg c68 (by simp) hcFk
  have hbo := hO.ext c18
  refine W.seq fun K hK => ?_
  refine W.regionD [2, 12, 26] [] (by kernel_rfl) (by kernel_rfl) fun w9 c9 h9 => ?_
  refine FD.val (fun _ hw => Rn.loadA Tf.ty_25 rfl rfl ((b18.chg c9 (by simp)).cells0) (hw rfl rfl)) ?_
  refine FD.val (fun _ hw => Rn.loadA Tf.ty_44 rfl rfl ((b8.chg c9 (by simp)).cells0) (hw rfl rfl)) ?_
  refine FD.eff (by rfl) (Chg.refl _ _) ?_
  refine Flow.call2 Tf.hb_88 (v1 := .agg _) rfl (v2 := .agg _) rfl ?_
  refine Ret.mono (span_ok _ _ _ _ _ _ _ _ _ _) ?_
  rintro _ w10 ⟨rfl, c10⟩
  refine Flow.nil ⟨c10, ?_⟩
  cases hso : spanOk t.days lo hi with
  | false =>
    refine FD.val (fun _ hw => Rn.not rfl) ?_
    refine FD.val (fun _ hw => Rn.move (v := .bool _) rfl) ?_
    refine FD.off (c := true) rfl rfl rfl ?_
    refine FD.off (c := true) rfl rfl rfl ?_
    refine FD.off (c := true) rfl rfl rfl ?_
    refine FD.off (c := true) rfl rfl rfl ?_
    refine FD.off (c := true) rfl rfl rfl ?_
    refine FD.off (c := true) rfl rfl rfl ?_
    refine FD.off (c := true) rfl rfl rfl ?_
    refine FD.off (c := true) rfl rfl rfl ?_
    refine FD.off (c := true) rfl rfl rfl ?_
    refine FD.val (fun _ hw => Rn.pickT rfl rfl) ?_
    refine FD.val (fun _ hw => Rn.move (v := .bool _) rfl) ?_
    refine FD.off (c := true) rfl rfl rfl ?_
    refine FD.off (c := true) rfl rfl rfl ?_
    refine FD.off (c := true) rfl rfl rfl ?_
    refine FD.off (c := true) rfl rfl rfl ?_
    refine FD.off (c := true) rfl rfl rfl ?_
    refine FD.off (c := true) rfl rfl rfl ?_
    refine FD.off (c := true) rfl rfl rfl ?_
    refine FD.off (c := true) rfl rfl rfl ?_
    refine FD.off (c := true) rfl rfl rfl ?_
    refine FD.off (c := true) rfl rfl rfl ?_
    refine FD.off (c := true) rfl rfl rfl ?_
    refine FD.off (c := true) rfl rfl rfl ?_
    refine FD.val (fun _ hw => Rn.pickT rfl rfl) ?_
    refine FD.nil ?_
    refine hK _ _ _ ?_
    clear hK K
    refine W.cond (t := true) rfl (fun _ => ?_) (fun h => by simp at h)
    refine W.seq fun K hK => ?_
    refine W.region (by rfl) ?_
    refine Flow.assignC ?_
    refine hK _ _ _ ?_
    clear hK K
    exact W.ret ⟨_, res1 rfl (v := .bool _) rfl, ⟨_, rfl, ⟨fun h => (Bool.false_ne_true h).elim, fun h => absurd h (hneg fun hh => by rw [hso] at hh; simp at hh)⟩⟩, c18.then (c9.then c10)⟩
  | true =>
  have hbd : 0 ≤ lo ∧ lo ≤ hi ∧ hi < t.days := by simpa [spanOk] using hso
  refine FD.val (fun _ hw => Rn.not rfl) ?_
  refine FD.val (fun _ hw => Rn.move (v := .bool _) rfl) ?_
  refine FD.on rfl rfl ?_
  refine FD.val (fun _ hw => Rn.fieldAddr Tf.fo_25_2 rfl) ?_
  refine FD.on rfl rfl ?_
  refine FD.val (fun _ hw => Rn.load1 Tf.ty_23 rfl ((b18.chg c9 (by simp)).cell 2) (hw rfl rfl)) ?_
  refine FD.on rfl rfl ?_
  refine FD.val (fun _ hw => Rn.move (v := .int _ _) rfl) ?_
  refine FD.on rfl rfl ?_
  refine FD.val (fun _ hw => Rn.indexAddr Tf.sl_23 rfl rfl (by omega) (by omega)) ?_
  refine FD.on rfl rfl ?_
  refine FD.val (fun _ hw => Rn.fieldAddr Tf.fo_81_1 rfl) ?_
  refine FD.on rfl rfl ?_
  refine FD.val (fun _ hw => Rn.loadA Tf.ty_44 rfl rfl (fSpan (Cells.chg c9 (by simp) hcF8)) (hw rfl rfl)) ?_
  refine FD.on rfl rfl ?_
  refine FD.val (fun _ hw => Rn.loadA Tf.ty_44 rfl rfl ((b8.chg c9 (by simp)).cells0) (hw rfl rfl)) ?_
  refine FD.on rfl rfl ?_
  refine FD.eff (by rfl) (c10) ?_
  refine Flow.call2 Tf.hb_143 (v1 := .agg _) rfl (v2 := .agg _) rfl ?_
  refine Ret.mono (in_ok _ _ _ _ _) ?_
  rintro _ w11 ⟨rfl, c11⟩
  refine Flow.nil ⟨c11, ?_⟩
  by_cases hin : lo ≤ t.flaws[k].lo ∧ t.flaws[k].hi ≤ hi
  case neg =>
    rw [decide_eq_false hin]
    refine FD.on rfl rfl ?_
    refine FD.val (fun _ hw => Rn.not rfl) ?_
    refine FD.val (fun _ hw => Rn.pickF rfl rfl) ?_
    refine FD.val (fun _ hw => Rn.move (v := .bool _) rfl) ?_
    refine FD.off (c := true) rfl rfl rfl ?_
    refine FD.off (c := true) rfl rfl rfl ?_
    refine FD.off (c := true) rfl rfl rfl ?_
    refine FD.off (c := true) rfl rfl rfl ?_
    refine FD.off (c := true) rfl rfl rfl ?_
    refine FD.off (c := true) rfl rfl rfl ?_
    refine FD.off (c := true) rfl rfl rfl ?_
    refine FD.off (c := true) rfl rfl rfl ?_
    refine FD.off (c := true) rfl rfl rfl ?_
    refine FD.off (c := true) rfl rfl rfl ?_
    refine FD.off (c := true) rfl rfl rfl ?_
    refine FD.off (c := true) rfl rfl rfl ?_
    refine FD.val (fun _ hw => Rn.pickT rfl rfl) ?_
    refine FD.nil ?_
    refine hK _ _ _ ?_
    clear hK K
    refine W.cond (t := true) rfl (fun _ => ?_) (fun h => by simp at h)
    refine W.seq fun K hK => ?_
    refine W.region (by rfl) ?_
    refine Flow.assignC ?_
    refine hK _ _ _ ?_
    clear hK K
    exact W.ret ⟨_, res1 rfl (v := .bool _) rfl, ⟨_, rfl, ⟨fun h => (Bool.false_ne_true h).elim, fun h => absurd h (hneg fun hh => hin hh.2.1)⟩⟩, c18.then (c9.then (c10.then c11))⟩
  rw [decide_eq_true hin]
  have c111 := c18.then (c9.then (c10.then c11))
  refine FD.on rfl rfl ?_
  refine FD.val (fun _ hw => Rn.not rfl) ?_
  refine FD.val (fun _ hw => Rn.pickF rfl rfl) ?_
  refine FD.val (fun _ hw => Rn.move (v := .bool _) rfl) ?_
  refine FD.on rfl rfl ?_
  refine FD.val (fun _ hw => Rn.loadA Tf.ty_25 rfl rfl ((b18.chg c9 (by simp)).cells0) (hw rfl rfl)) ?_
  refine FD.on rfl rfl ?_
  refine FD.val (fun _ hw => Rn.fieldAddr Tf.fo_51_0 rfl) ?_
  refine FD.on rfl rfl ?_
  refine FD.val (fun _ hw => Rn.load1 Tf.ty_22 rfl ((b28.chg c9 (by simp)).cell 0) (hw rfl rfl)) ?_
  refine FD.on rfl rfl ?_
  refine FD.val (fun _ hw => Rn.loadA Tf.ty_44 rfl rfl ((b8.chg c9 (by simp)).cells0) (hw rfl rfl)) ?_
  refine FD.on rfl rfl ?_
  refine FD.val (fun _ hw => Rn.fieldAddr Tf.fo_25_2 rfl) ?_
  refine FD.on rfl rfl ?_
  refine FD.val (fun _ hw => Rn.load1 Tf.ty_23 rfl ((b18.chg c9 (by simp)).cell 2) (hw rfl rfl)) ?_
  refine FD.on rfl rfl ?_
  refine FD.val (fun _ hw => Rn.move (v := .int _ _) rfl) ?_
  refine FD.on rfl rfl ?_
  refine FD.val (fun _ hw => Rn.indexAddr Tf.sl_23 rfl rfl (by omega) (by omega)) ?_
  refine FD.on rfl rfl ?_
  refine FD.val (fun _ hw => Rn.fieldAddr Tf.fo_81_2 rfl) ?_
  refine FD.on rfl rfl ?_
  refine FD.val (fun _ hw => Rn.load1 Tf.ty_3 rfl ((Cells.chg c9 (by simp) hcF8).2.2.2.1) (hw rfl rfl)) ?_
  refine FD.on rfl rfl ?_
  refine FD.eff (by rfl) ((c10.then c11)) ?_
  refine Flow.call4 Tf.hb_146 (v1 := .agg _) rfl (v2 := .slice _ _ _) rfl (v3 := .agg _) rfl (v4 := .int _ _) rfl ?_
  refine Ret.mono (full_ok _ t ac _ cc cf _ co on lo hi t.flaws[k].merit (hC.ext c111) (hF.ext c111) hs (hO.ext c111) (by omega) (by omega)) ?_
  rintro _ w12 ⟨rfl, c12'⟩
  refine Flow.nil ⟨c12', ?_⟩
  refine FD.on rfl rfl ?_
  refine FD.val (fun _ hw => Rn.not rfl) ?_
  refine FD.val (fun _ hw => Rn.pickF rfl rfl) ?_
  refine FD.nil ?_
  refine hK _ _ _ ?_
  clear hK K
  refine W.cond rfl (fun h => ?_) (fun h => W.skip ?_)
  · have hf : fullS t on lo hi t.flaws[k].merit = false := by simpa using h
    refine W.seq fun K hK => ?_
    refine W.region (by rfl) ?_
    refine Flow.assignC ?_
    refine hK _ _ _ ?_
    clear hK K
    exact W.ret ⟨_, res1 rfl (v := .bool _) rfl, ⟨_, rfl, ⟨fun h => (Bool.false_ne_true h).elim, fun h => absurd h (hneg fun hh => by rw [hf] at hh; simp at hh)⟩⟩, c111.then c12'⟩
  · have hf : fullS t on lo hi t.flaws[k].merit = true := by simpa using h
    exact hnext _ _ ⟨rfl, rfl, rfl, rfl, rfl, trivial⟩ ((hc.then c68).then ((c9.then (c10.then c11)).then c12')) (by rw [FullOk, hatk, if_neg h0, hflk]; exact ⟨hso, hin, hf⟩)

open Classical in
noncomputable def checkBestR (t : Tour) (on : List Int) (mer : Int) (full : List (Int × Int)) : Int := if chk t = 0 then (if Proved t on mer full then 0 else 8) else chk t

theorem CheckBest_ok (w : World) (t : Tour) (ac af : Option Addr) (cc cf : Nat) (ao : Option Addr) (co : Nat) (on : List Int) (mer : Int) (ar : Option Addr) (cr : Nat) (full : List (Int × Int)) (hC : IL w ac t.closed) (hF : FL w af t.flaws) (hcl : t.closed.length ≤ 1000) (hfl : t.flaws.length ≤ 1000) (hO : IL w ao on) (hR : SL w ar full) :
    Ret Tryz.prog 48 #[.agg #[.int .i64 t.days, .slice ac t.closed.length cc, .slice af t.flaws.length cf], .agg #[.slice ao on.length co, .int .i64 mer, .slice ar full.length cr]] w fun v w' => v = .int .i64 (checkBestR t on mer full) ∧ Chg [] w w' := by
  refine Ret.of_W (n := 15) Tryz.func48 rfl rfl (Nat.le_of_ble_eq_true rfl) ?_
  refine W.seq fun K hK => ?_
  refine W.region (by rfl) ?_
  refine Flow.box rfl (cs := [_, _, _]) rfl fun w1 c1 s1 b1 => ?_
  refine Flow.box rfl (cs := [_, _, _]) rfl fun w2 c2 s2 b2 => ?_
  refine Flow.assignC ?_
  refine hK _ _ _ ?_
  clear hK K
  have b12 := b1.chg c2 (by simp)
  have c12 := c1.then c2
  refine W.seq fun K1 hK1 => ?_
  refine W.seq fun K hK => ?_
  refine W.region (by rfl) ?_
  refine Flow.loadA Tf.ty_25 rfl rfl (b12.cells0) ?_
  refine Flow.call1 Tf.hb_55 (v1 := .agg _) rfl ?_
  refine Ret.mono (check_ok _ t ac af cc cf (hC.ext c12) (hF.ext c12) hcl hfl) ?_
  rintro _ w3 ⟨rfl, c3⟩
  refine Flow.assign (v := .int _ _) rfl ?_
  refine hK _ _ _ ?_
  clear hK K
  have c13 := c12.then c3
  have b13 := b12.chg c3 (by simp)
  have b23 := b2.chg c3 (by simp)
  refine W.seq fun K hK => ?_
  refine W.region (by rfl) ?_
  refine Flow.move (v := .int _ _) rfl ?_
  refine Flow.neq rfl rfl ?_
  refine hK _ _ _ ?_
  clear hK K
  refine W.cond rfl (fun h => ?_) (fun h => W.skip (hK1 _ _ _ ?_))
  · have h0 : chk t ≠ 0 := by simpa using h
    refine W.seq fun K hK => ?_
    refine W.region (by rfl) ?_
    refine Flow.move (v := .int _ _) rfl ?_
    refine Flow.assign (v := .int _ _) rfl ?_
    refine hK _ _ _ ?_
    clear hK K
    exact W.ret ⟨_, res1 rfl (v := .int _ _) rfl, by rw [checkBestR, if_neg h0], c13⟩
  have h0 : chk t = 0 := by simpa using h
  have hs := chk_small h0
  refine W.seq fun K4 hK4 => ?_
  refine W.seq fun K hK => ?_
  refine W.region (by rfl) ?_
  refine Flow.loadA Tf.ty_25 rfl rfl (b13.cells0) ?_
  refine Flow.loadA Tf.ty_51 rfl rfl (b23.cells0) ?_
  refine Flow.call2 Tf.hb_106 (v1 := .agg _) rfl (v2 := .agg _) rfl ?_
  refine Ret.mono (proved_ok _ t ac af cc cf ao co on mer ar cr full (hC.ext c13) (hF.ext c13) hs (hO.ext c13) (hR.ext c13)) ?_
  rintro _ w4 ⟨⟨b, rfl, hb⟩, c4⟩
  refine Flow.not rfl ?_
  refine hK _ _ _ ?_
  clear hK K
  cases b with
  | false =>
    refine W.cond (t := true) rfl (fun _ => ?_) (fun h => by simp at h)
    refine W.seq fun K hK => ?_
    refine W.region (by rfl) ?_
    refine Flow.assignC ?_
    refine hK _ _ _ ?_
    clear hK K
    exact W.ret ⟨_, res1 rfl (v := .int _ _) rfl, by rw [checkBestR, if_pos h0, if_neg (fun h => Bool.false_ne_true (hb.2 h))], c13.then c4⟩
  | true =>
    refine W.cond (t := false) rfl (fun h => by simp at h) (fun _ => W.skip (hK4 _ _ _ ?_))
    refine W.seq fun K hK => ?_
    refine W.region (by rfl) ?_
    refine Flow.assignC ?_
    refine hK _ _ _ ?_
    clear hK K
    exact W.ret ⟨_, res1 rfl (v := .int _ _) rfl, by rw [checkBestR, if_pos h0, if_pos (hb.1 rfl)], c13.then c4⟩

theorem small_ok (w : World) (ao : Option Addr) (no co : Nat) (mer : Int) (ar : Option Addr) (nr cr : Nat) :
    Ret Tryz.prog 29 #[.agg #[.slice ao no co, .int .i64 mer, .slice ar nr cr]] w fun v w' => v = .bool (decide (no ≤ 60 ∧ nr ≤ 60)) ∧ Chg [] w w' := by
  refine Ret.of_W (n := 13) Tryz.func29 rfl rfl (Nat.le_of_ble_eq_true rfl) ?_
  refine W.seq fun K hK => ?_
  refine W.region (by rfl) ?_
  refine Flow.box rfl (cs := [_, _, _]) rfl fun w1 c1 s1 b1 => ?_
  refine Flow.assignC ?_
  refine hK _ _ _ ?_
  clear hK K
  by_cases h : (no : Int) ≤ 60
  · refine W.seq fun K hK => ?_
    refine W.region (by rfl) ?_
    refine Flow.fieldAddr Tf.fo_51_0 rfl ?_
    refine Flow.load1 Tf.ty_22 rfl (b1.cell 0) ?_
    refine Flow.len rfl Tf.us_22 rfl rfl ?_
    refine Flow.leqD (c := true) rfl rfl (decide_eq_true (by omega)) ?_
    refine Flow.move (v := .bool _) rfl ?_
    refine Flow.on rfl rfl ?_
    refine Flow.fieldAddr Tf.fo_51_2 rfl ?_
    refine Flow.on rfl rfl ?_
    refine Flow.load1 Tf.ty_49 rfl (b1.cell 2) ?_
    refine Flow.on rfl rfl ?_
    refine Flow.len rfl Tf.us_49 rfl rfl ?_
    refine Flow.on rfl rfl ?_
    refine Flow.leq rfl rfl ?_
    refine Flow.pickT rfl rfl ?_
    refine Flow.assign (v := .bool _) rfl ?_
    refine hK _ _ _ ?_
    clear hK K
    refine W.ret ⟨_, res1 rfl (v := .bool _) rfl, ?_, c1⟩
    congr 1
    have : no ≤ 60 := by omega
    by_cases h2 : nr ≤ 60
    · rw [decide_eq_true (show no ≤ 60 ∧ nr ≤ 60 from ⟨this, h2⟩), decide_eq_true (by omega)]
    · rw [decide_eq_false (show ¬ (no ≤ 60 ∧ nr ≤ 60) from fun h => h2 h.2), decide_eq_false (by omega)]
  · refine W.seq fun K hK => ?_
    refine W.region (by rfl) ?_
    refine Flow.fieldAddr Tf.fo_51_0 rfl ?_
    refine Flow.load1 Tf.ty_22 rfl (b1.cell 0) ?_
    refine Flow.len rfl Tf.us_22 rfl rfl ?_
    refine Flow.leqD (c := false) rfl rfl (decide_eq_false (by omega)) ?_
    refine Flow.move (v := .bool _) rfl ?_
    refine Flow.off (c := false) rfl rfl rfl ?_
    refine Flow.off (c := false) rfl rfl rfl ?_
    refine Flow.off (c := false) rfl rfl rfl ?_
    refine Flow.off (c := false) rfl rfl rfl ?_
    refine Flow.pickF rfl rfl ?_
    refine Flow.assign (v := .bool _) rfl ?_
    refine hK _ _ _ ?_
    clear hK K
    refine W.ret ⟨_, res1 rfl (v := .bool _) rfl, ?_, c1⟩
    rw [decide_eq_false (show ¬ (no ≤ 60 ∧ nr ≤ 60) from fun h2 => by omega)]

end Go.Proofs.YtkoejelglinmnaaGreat

/-
  Plain laws: what a mending is worth; what every best mending mends.
-/
namespace Go.Proofs.YtkoejelglinmnaaGreat
open Mm

theorem worth_sum : ∀ (fs : List Flaw) (on : List Int), on.length = fs.length → (∀ f ∈ fs, 0 ≤ f.merit) →
    worthS fs on = ((((List.range fs.length).filter fun k => decide (0 ≤ on.getD k (-1))).map fun k => (fs.getD k ⟨0, 0, 0, 0⟩).merit.toNat).sum : Nat)
  | [], on, _, _ => by simp [worthS]
  | f :: fs, [], h, _ => by simp at h
  | f :: fs, d :: on, h, hm => by
    have ih := worth_sum fs on (by simpa using h) fun g hg => hm g (List.mem_cons_of_mem _ hg)
    have hf := hm f (by simp)
    have e : ((List.range (fs.length + 1)).filter fun k => decide (0 ≤ (d :: on).getD k (-1))) = (if 0 ≤ d then [0] else []) ++ ((List.range fs.length).filter fun k => decide (0 ≤ on.getD k (-1))).map (· + 1) := by
      rw [List.range_succ_eq_map, List.filter_cons, List.filter_map]
      have : ((fun k => decide (0 ≤ (d :: on).getD k (-1))) ∘ Nat.succ) = fun k => decide (0 ≤ on.getD k (-1)) := by
        funext k; simp [List.getD_eq_getElem?_getD]
      rw [this]
      by_cases h0 : 0 ≤ d <;> simp [h0]
    rw [List.length_cons, e, worthS, ih]
    rw [List.map_append, List.sum_append, List.map_map]
    have e2 : ((fun k => ((f :: fs).getD k ⟨0, 0, 0, 0⟩).merit.toNat) ∘ fun x => x + 1) = fun k => (fs.getD k ⟨0, 0, 0, 0⟩).merit.toNat := by
      funext k; simp [List.getD_eq_getElem?_getD]
    rw [e2]
    by_cases h0 : 0 ≤ d
    · rw [if_pos h0, if_pos h0]; simp; omega
    · rw [if_neg h0, if_neg h0]; simp

theorem sumw_list {F : Type} (w : F → Nat) (l : List F) : sumw w l = (l.map w).sum := by
  induction l with
  | nil => rfl
  | cons a l ih => simp [sumw, ih]

theorem fit_sum {t : Tour} (hme : ∀ f ∈ t.flaws, 0 ≤ f.merit) {on : List Int} (hl : on.length = t.flaws.length) : worthS t.flaws on = (sumw (wI t) (onA on) : Nat) := by
  rw [worth_sum t.flaws on hl hme, sumw_list]
  congr 1
  rw [onA, places, List.filter_map, List.map_map, hl]
  rfl

/-- A mending that its spans prove is a best one. -/
theorem opt_of_full {t : Tour} (hv : Valid t) {on : List Int} (hf : Fit t on)
    (hfull : ∀ k (h : k < t.flaws.length), ¬ 0 ≤ at' on k → ∃ lo hi, (lo ≤ t.flaws[k].lo ∧ t.flaws[k].hi ≤ hi) ∧ fullS t on lo hi t.flaws[k].merit = true) : worthS t.flaws on = meritS t := by
  have hme : ∀ f ∈ t.flaws, 0 ≤ f.merit := fun f hf => by have := hv.fm f hf; omega
  obtain ⟨n, e0, o0⟩ := valid_opt hv
  have hM := hf.mat
  have hl := hf.len
  have hC : Cert (adjP (adjT t)) (wI t) (places t.flaws.length) (onA on) (at' on) := by
    intro i hi hiA
    have hir := mem_places.1 hi
    obtain ⟨k, rfl⟩ := Int.eq_ofNat_of_zero_le hir.1
    have hk : k < t.flaws.length := by omega
    obtain ⟨lo, hi', ⟨h1, h2⟩, h3⟩ := hfull k hk fun h => hiA (mem_onA.2 ⟨⟨by omega, by omega⟩, h⟩)
    obtain ⟨ht, hw⟩ := tight_of_full hf h3
    refine ⟨_, ht, fun e he => ?_, fun j hj hT => ?_⟩
    · obtain ⟨a, b, c⟩ := mem_adjT.1 he
      rw [flawAt_nat hk] at a b
      exact ⟨by omega, by omega, c⟩
    · have := hw j hj hT
      unfold wI
      rw [flawAt_nat hk]
      omega
  rw [fit_sum hme hl, e0]
  obtain ⟨A, a1, a2, a3⟩ := o0.ex
  have g1 := cert_best hM hC a1 fun x hx => mem_places.2 (a2 x hx)
  have g2 := o0.le (onA on) ⟨_, hM⟩ fun x hx => by have := (mem_onA.1 hx).1; omega
  omega

theorem best_fit {t : Tour} (hv : Valid t) : Fit t (onOf t.flaws.length (bestHas t)) ∧ worthS t.flaws (onOf t.flaws.length (bestHas t)) = meritS t := by
  have hme : ∀ f ∈ t.flaws, 0 ≤ f.merit := fun f hf => by have := hv.fm f hf; omega
  have g := best_greedy (t := t) (by have := hv.d1; omega) hv.d2 (fun f hf => ⟨(hv.fs f hf).1, (hv.fs f hf).2.2⟩)
  obtain ⟨hM, _, _⟩ := g.st.mat g.inv.len
  have hlen := onOf_len t.flaws.length (bestHas t)
  have hday : ∀ i : Int, 0 ≤ i → i < t.flaws.length → at' (onOf t.flaws.length (bestHas t)) i = -1 ∨ (i ∈ hadBy (bestHas t) ∧ at' (onOf t.flaws.length (bestHas t)) i = dayIn (bestHas t) i) := by
    intro i h0 h1
    by_cases hm : i ∈ hadBy (bestHas t)
    · exact .inr ⟨hm, (onOf_at g.inv g.st ⟨h0, h1⟩).1 hm⟩
    · exact .inl ((onOf_at g.inv g.st ⟨h0, h1⟩).2 hm)
  have hfit : Fit t (onOf t.flaws.length (bestHas t)) := by
    refine ⟨hlen, fun i h0 h1 => ?_, fun i j h0 h1 g0 g1 e hn => ?_⟩
    · rcases hday i h0 h1 with h | ⟨h, e⟩
      · exact .inl h
      · rw [e]; exact .inr ⟨hM.ok i h, by simp [dayIn]⟩
    · rcases hday i h0 h1 with h | ⟨h, e1⟩
      · rw [h] at hn; exact absurd hn (by decide)
      · rcases hday j g0 g1 with h' | ⟨h', e2⟩
        · rw [h'] at e; rw [e] at hn; exact absurd hn (by decide)
        · rw [e1, e2] at e
          exact hM.inj i h j h' e
  refine ⟨hfit, ?_⟩
  rw [fit_sum hme hlen, meritS, meritOf_sum hme _ g.inv.ok]
  congr 1
  exact sumw_perm ((List.perm_ext_iff_of_nodup hfit.mat.nd hM.nd).2 fun x => onOf_had g.inv g.st)

/-- What every best mending mends, and on which days. -/
theorem sure_on {t : Tour} (hv : Valid t) {on : List Int} (hf : Fit t on) (hw : worthS t.flaws on = meritS t) {k : Nat} (hk : k < t.flaws.length) :
    (meritS (withoutS t [(k : Int)]) < meritS t → 0 ≤ at' on k) ∧ (0 ≤ at' on k → at' on k ∈ daysOfS t k) := by
  have hme : ∀ f ∈ t.flaws, 0 ≤ f.merit := fun f hf => by have := hv.fm f hf; omega
  have hM := hf.mat
  have hl := hf.len
  have hrg : ∀ x ∈ onA on, 0 ≤ x ∧ x < (t.flaws.length : Int) := fun x hx => by have := (mem_onA.1 hx).1; omega
  rw [fit_sum hme hl] at hw
  have hsm : ∀ l : List Int, sumw wF (l.map (flawAt t)) = sumw (wI t) l := fun l => by rw [sumw_map]; rfl
  constructor
  · intro hlt
    apply Classical.byContradiction
    intro hno
    obtain ⟨x, e1, o1⟩ := valid_optF (hv.without [(k : Int)])
    have := o1.le ((onA on).map (flawAt t)) (ind_map (flawAt t) ⟨_, hM⟩ (fun x hx y hy e => flawAt_inj hv.nd (hrg x hx) (hrg y hy) e) (fun x hx d hd => mem_adjT.1 hd)) (fun f hf' => by
      obtain ⟨i, hi, rfl⟩ := List.mem_map.1 hf'
      obtain ⟨j, rfl⟩ := Int.eq_ofNat_of_zero_le (hrg i hi).1
      have hj : j < t.flaws.length := by have := (hrg _ hi).2; omega
      refine mem_without.2 ⟨j, hj, fun hm => ?_, (flawAt_nat hj).symm⟩
      have : (j : Int) = k := by simpa using hm
      exact hno (this ▸ (mem_onA.1 hi).2))
    rw [hsm] at this
    omega
  · intro h0
    have hkA : (k : Int) ∈ onA on := mem_onA.2 ⟨⟨by omega, by omega⟩, h0⟩
    have hda := hM.ok _ hkA
    refine List.mem_filter.2 ⟨hda, ?_⟩
    rw [decide_eq_true_eq]
    refine Int.le_antisymm (on_le hv hk hda) ?_
    obtain ⟨x, e1, o1⟩ := valid_optF ((hv.without [(k : Int)]).close (day := at' on k) (adj_days hv hk hda))
    have hs := sumw_perm (w := wI t) (List.perm_cons_erase hkA)
    have hin : ∀ y ∈ (onA on).erase (k : Int), y ∈ onA on ∧ y ≠ k := fun y hy => ⟨List.mem_of_mem_erase hy, fun e => by
      subst e
      exact absurd hy (hM.nd.not_mem_erase)⟩
    have := o1.le (((onA on).erase (k : Int)).map (flawAt t)) (ind_map (flawAt t) (adj := fun i d => d ∈ adjT t i ∧ d ≠ at' on k) ⟨at' on, hM.nd.erase _, fun y hy => ⟨hM.ok y (hin y hy).1, fun e => (hin y hy).2 (hM.inj y (hin y hy).1 _ hkA e)⟩, fun y hy z hz e => hM.inj y (hin y hy).1 z (hin z hz).1 e⟩
      (fun y hy z hz e => flawAt_inj hv.nd (hrg y (hin y hy).1) (hrg z (hin z hz).1) e) (fun y hy d hd => by
        obtain ⟨a, b, c⟩ := mem_adjT.1 hd.1
        refine ⟨a, b, fun hm => ?_⟩
        rcases mem_closedS.1 hm with e | hm
        · exact hd.2 e
        · exact c hm)) (fun f hf' => by
      obtain ⟨i, hi, rfl⟩ := List.mem_map.1 hf'
      obtain ⟨hi1, hi2⟩ := hin i hi
      obtain ⟨j, rfl⟩ := Int.eq_ofNat_of_zero_le (hrg i hi1).1
      have hj : j < t.flaws.length := by have := (hrg _ hi1).2; omega
      exact mem_without.2 ⟨j, hj, fun hm => hi2 (by simpa using hm), (flawAt_nat hj).symm⟩)
    rw [hsm] at this
    have hm := hv.fm _ (List.getElem_mem hk)
    have e3 : sumw (wI t) ((k : Int) :: (onA on).erase (k : Int)) = wI t k + sumw (wI t) ((onA on).erase (k : Int)) := rfl
    have e4 : wI t k = t.flaws[k].merit.toNat := by rw [wI, flawAt_nat hk]
    rw [onS, flawAt_nat hk, e1]
    omega

end Go.Proofs.YtkoejelglinmnaaGreat

/-
  Plain laws: what is surely mended.
-/
namespace Go.Proofs.YtkoejelglinmnaaGreat
open Mm

theorem mem_idsK {t : Tour} (hnd : (t.flaws.map (·.id)).Nodup) {p : Nat → Bool} {k : Nat} (hk : k < t.flaws.length) : t.flaws[k].id ∈ idsK t p t.flaws.length ↔ p k = true := by
  simp only [idsK, List.mem_map, List.mem_filter, List.mem_range]
  constructor
  · rintro ⟨j, ⟨hj, hp⟩, e⟩
    rw [flawAt_nat hj] at e
    obtain rfl : j = k := flaw_inj hnd hj hk e
    exact hp
  · intro h
    exact ⟨k, ⟨hk, h⟩, by rw [flawAt_nat hk]⟩

theorem mem_surelyA {t : Tour} (hv : Valid t) {k : Nat} (hk : k < t.flaws.length) : t.flaws[k].id ∈ surelyA t ↔ meritS (withoutS t [(k : Int)]) < meritS t := by
  rw [surelyA, if_pos (valid_chk hv), (sortS_perm lessI _).mem_iff, mem_idsK hv.nd hk, sureP, decide_eq_true_eq]

theorem mem_surelyB {t : Tour} (hv : Valid t) {k : Nat} (hk : k < t.flaws.length) : t.flaws[k].id ∈ surelyB t ↔ 0 < (daysOfS t (k : Int)).length := by
  rw [surelyB, if_pos (valid_chk hv), (sortS_perm lessI _).mem_iff, mem_idsK hv.nd hk, someP, decide_eq_true_eq]

theorem fit_of_wrong {t : Tour} (hv : Valid t) {on : List Int} (hl : on.length = t.flaws.length) (hw : wrongS t.closed 0 t.flaws on [] < 0) : Fit t on := by
  refine (wrongS_fit (fun f hf => (hv.fs f hf).1) hl).1 ?_
  rcases wrongS_lt t.closed t.flaws on 0 [] with h | h
  · exact h
  · omega

theorem proved_opt {t : Tour} (hv : Valid t) {on : List Int} {mer : Int} {full : List (Int × Int)} (h : Proved t on mer full) : Fit t on ∧ worthS t.flaws on = meritS t := by
  have hf := fit_of_wrong hv h.len h.fit
  refine ⟨hf, opt_of_full hv hf fun k hk hno => ?_⟩
  have hkf : k < full.length := by have := h.flen; omega
  have := h.full k hkf
  rw [FullOk, if_neg hno, flawAt_nat hk] at this
  exact ⟨_, _, this.2.1, this.2.2⟩

def MendsP (t : Tour) (on all only : List Int) : Prop := ∀ k (h : k < t.flaws.length), (at' on k < 0 → t.flaws[k].id ∉ all) ∧ (0 ≤ at' on k → t.flaws[k].id ∈ only)

theorem opt_mends {t : Tour} (hv : Valid t) {on : List Int} (hf : Fit t on) (hw : worthS t.flaws on = meritS t) : MendsP t on (surelyA t) (surelyB t) := fun k hk => by
  obtain ⟨h1, h2⟩ := sure_on hv hf hw hk
  exact ⟨fun h hm => by have := h1 ((mem_surelyA hv hk).1 hm); omega, fun h => (mem_surelyB hv hk).2 (List.length_pos_of_mem (h2 h))⟩

theorem best_mends {t : Tour} (hv : Valid t) : (bestOn t).length = t.flaws.length ∧ MendsP t (bestOn t) (surelyA t) (surelyB t) := by
  have e : bestOn t = onOf t.flaws.length (bestHas t) := by rw [bestOn, if_pos (valid_chk hv)]
  obtain ⟨h1, h2⟩ := best_fit hv
  rw [e]
  exact ⟨onOf_len _ _, opt_mends hv h1 h2⟩

theorem without_one {t : Tour} (hv : Valid t) {k : Nat} (hk : k < t.flaws.length) : flawsE t [t.flaws[k].id] = 0 ∧ withoutR t [t.flaws[k].id] = withoutS t [(k : Int)] ∧ meritS (withoutS t [(k : Int)]) ≤ meritS t := by
  have hf := findS_at hv.nd hk
  have hok : okL t [t.flaws[k].id] = true := okL_iff.2 ⟨fun x hx => by
    obtain rfl : x = t.flaws[k].id := by simpa using hx
    rw [hf]; omega, by simp⟩
  have he : flawsE t [t.flaws[k].id] = 0 := by rw [flawsE, if_pos (valid_chk hv), if_pos hok]
  refine ⟨he, by rw [withoutR, if_pos he, plL_map hok, List.map_cons, List.map_nil, hf], ?_⟩
  obtain ⟨n, e0, o0⟩ := valid_optF hv
  obtain ⟨x, e1, o1⟩ := valid_optF (hv.without [(k : Int)])
  have : x ≤ n := OptF.mono o1 o0 fun f hf => (without_subl t _).subset hf
  omega

theorem days_in {t : Tour} {k : Nat} (hk : k < t.flaws.length) {d : Int} (hd : d ∈ daysOfS t k) : t.flaws[k].lo ≤ d ∧ d ≤ t.flaws[k].hi ∧ d ∉ t.closed :=
  (mem_adj_nat hk).1 (List.mem_filter.1 hd).1

theorem days_id {t : Tour} (hv : Valid t) {k : Nat} (hk : k < t.flaws.length) : daysR t t.flaws[k].id = daysOfS t k ∧ idE t t.flaws[k].id = 0 := by
  have hck := valid_chk hv
  have hf := findS_at hv.nd hk
  exact ⟨by rw [daysR, if_pos hck, hf, if_neg (by omega)], by rw [idE, if_pos hck, hf, if_neg (by omega)]⟩

theorem days_len {t : Tour} (hv : Valid t) {k : Nat} (hk : k < t.flaws.length) : (daysOfS t k).length ≤ 60 := by
  have h1 : (daysOfS t k).length ≤ (opens t.closed (flawAt t k).lo (flawAt t k).hi).length := List.length_filter_le _ _
  have h2 := nodup_len (l1 := opens t.closed (flawAt t k).lo (flawAt t k).hi) (l2 := places 60) (opens_nodup _ _ _) fun d hd => by
    have := adj_days hv hk (d := d) hd
    have := hv.d2
    exact mem_places.2 (by omega)
  have h3 : (places 60).length = 60 := by simp [places]
  omega

end Go.Proofs.YtkoejelglinmnaaGreat
