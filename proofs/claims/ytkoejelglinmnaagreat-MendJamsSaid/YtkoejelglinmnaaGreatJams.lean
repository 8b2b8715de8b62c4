/-
  pecialaw06.MendJams answers true, and its arguments read as before: for every tour with Closed and Flaws of whatever length, every list of IDs, every span, all days and every choice of a flaw.
-/
import Derived.Test.YtkoejelglinmnaaGreatK6
import Derived.Test.YtkoejelglinmnaaGreatK5
/-
  Plain laws: what jams some flaws; less of them.
-/
namespace Go.Proofs.YtkoejelglinmnaaGreat
open Mm

theorem mem_rowF {p : Int × Int} : ∀ (k : Nat) (lo hi : Int), p ∈ rowF k lo hi ↔ p.1 = lo ∧ hi ≤ p.2 ∧ p.2 < hi + k
  | 0, lo, hi => by simp [rowF] <;> omega
  | k + 1, lo, hi => by
    rw [rowF, List.mem_cons, mem_rowF k lo (hi + 1)]
    constructor
    · rintro (rfl | ⟨a, b, c⟩)
      · exact ⟨rfl, Int.le_refl _, by simp; omega⟩
      · exact ⟨a, by omega, by omega⟩
    · rintro ⟨a, b, c⟩
      by_cases h : p.2 = hi
      · exact .inl (Prod.ext a h)
      · exact .inr ⟨a, by omega, by omega⟩

theorem mem_spansF {p : Int × Int} {n : Int} : ∀ (k : Nat) (lo : Int), p ∈ spansF n k lo ↔ lo ≤ p.1 ∧ p.1 < lo + k ∧ p.1 ≤ p.2 ∧ (p.2 < n)
  | 0, lo => by simp [spansF] <;> omega
  | k + 1, lo => by
    rw [spansF, List.mem_append, mem_rowF, mem_spansF k (lo + 1)]
    constructor
    · rintro (⟨a, b, c⟩ | ⟨a, b, c, d⟩)
      · exact ⟨by omega, by omega, by omega, by omega⟩
      · exact ⟨by omega, by omega, c, d⟩
    · rintro ⟨a, b, c, d⟩
      by_cases h : p.1 = lo
      · exact .inl ⟨h, by omega, by omega⟩
      · exact .inr ⟨by omega, by omega, c, d⟩

theorem mem_spansL {t : Tour} {p : Int × Int} : p ∈ spansL t ↔ 0 ≤ p.1 ∧ p.1 ≤ p.2 ∧ p.2 < t.days := by
  rw [spansL, mem_spansF]
  constructor
  · rintro ⟨a, b, c, d⟩; exact ⟨a, c, d⟩
  · rintro ⟨a, b, c⟩; exact ⟨a, by omega, b, c⟩

theorem jam_ex {t : Tour} (hv : Valid t) {l : List Int} (hn : l.Nodup) (hr : ∀ x ∈ l, 0 ≤ x ∧ x < t.flaws.length) (hni : ¬ Ind (adjP (adjT t)) l) :
    ∃ lo hi, 0 ≤ lo ∧ lo ≤ hi ∧ hi < t.days ∧ jamS t l lo hi = true := by
  have key : ∀ (rest pre : List Int), pre ++ rest = l → Ind (adjP (adjT t)) pre → ∃ lo hi, 0 ≤ lo ∧ lo ≤ hi ∧ hi < t.days ∧ jamS t l lo hi = true := by
    intro rest
    induction rest with
    | nil => intro pre h hp; rw [List.append_nil] at h; exact absurd (h ▸ hp) hni
    | cons i rest ih =>
      intro pre h hp
      have hsub : ∀ x ∈ i :: pre, x ∈ l := fun x hx => by
        rw [← h]
        rcases List.mem_cons.1 hx with rfl | hx
        · simp
        · exact List.mem_append.2 (.inl hx)
      have hn' := hn
      rw [← h] at hn'
      have hd := List.nodup_append.1 hn'
      have hip : i ∉ pre := fun hm => hd.2.2 i hm i (by simp) rfl
      obtain ⟨M, hM⟩ := hp
      rcases dich (adjV hv) hM (fun x hx => hr x (hsub x (List.mem_cons_of_mem _ hx))) (hr i (hsub i (by simp))) hip with hi | ⟨T, hT, ha⟩
      · refine ih (pre ++ [i]) (by rw [List.append_assoc]; exact h) (hi.sub ?_ fun x hx => ?_)
        · rw [List.append_cons] at hn'
          exact (List.nodup_append.1 hn').1
        · rcases List.mem_append.1 hx with hx | hx
          · exact List.mem_cons_of_mem _ hx
          · obtain rfl : x = i := by simpa using hx
            simp
      · exact jam_of_tight hv.fs hM (fun x hx => hr x (hsub x (List.mem_cons_of_mem _ hx))) hT (hr i (hsub i (by simp))) hip ha hsub
  exact key l [] rfl ⟨fun _ => 0, List.nodup_nil, by simp, by simp⟩

theorem okL_sub {t : Tour} {ids less : List Int} (h : okL t ids = true) (hs : less.Sublist ids) : okL t less = true := by
  obtain ⟨h1, h2⟩ := okL_iff.1 h
  exact okL_iff.2 ⟨fun x hx => h1 x (hs.subset hx), h2.sublist hs⟩

/-- What MendJams asks for. -/
theorem jams_law {t : Tour} (hv : Valid t) {ids : List Int} (hok : okL t ids = true) :
    (canS t ids = (jamF t ids).isNone) ∧ (∀ p, jamF t ids = some p → checkJamR t ids p.1 p.2 = 0) ∧ (∀ lo hi, checkJamR t ids lo hi = 0 → canS t ids = false) ∧
      (∀ on, fitsB t on = true → (∀ k (h : k < t.flaws.length), t.flaws[k].id ∈ ids → 0 ≤ at' on k) → canS t ids = true) ∧
      (∀ less : List Int, less.Sublist ids → flawsE t less = 0 ∧ (canS t ids = true → canS t less = true)) ∧ (ids = [] → canS t ids = true) := by
  have hck := valid_chk hv
  have he : flawsE t ids = 0 := by rw [flawsE, if_pos hck, if_pos hok]
  have hi := canS_ind hv hok
  have hnd := plL_nodup hok
  have hrg := plL_rg t ids
  refine ⟨?_, fun p hp => ?_, fun lo hi' h => ?_, fun on hf hall => ?_, fun less hs => ?_, fun h => ?_⟩
  · cases hj : jamF t ids with
    | some p =>
      rw [jamF, if_pos he] at hj
      have := List.find?_some hj
      show canS t ids = false
      cases hc : canS t ids with
      | false => rfl
      | true => exact absurd (hi.1 hc) (not_ind_of_jam this)
    | none =>
      show canS t ids = true
      apply Classical.byContradiction
      intro hc
      obtain ⟨lo, hi', a, b, c, d⟩ := jam_ex hv hnd hrg fun h => hc (hi.2 h)
      rw [jamF, if_pos he] at hj
      exact List.find?_eq_none.1 hj (lo, hi') (mem_spansL.2 ⟨a, b, c⟩) d
  · rw [jamF, if_pos he] at hp
    have h1 := List.find?_some hp
    obtain ⟨a, b, c⟩ := mem_spansL.1 (List.mem_of_find?_eq_some hp)
    rw [checkJamR, if_pos he, if_pos ⟨by simp [spanOk]; omega, h1⟩]
  · rw [checkJamR, if_pos he] at h
    by_cases hj : spanOk t.days lo hi' = true ∧ jamS t (plL t ids) lo hi' = true
    · cases hc : canS t ids with
      | false => rfl
      | true => exact absurd (hi.1 hc) (not_ind_of_jam hj.2)
    · rw [if_neg hj] at h; exact absurd h (by decide)
  · rw [fitsB, decide_eq_true_eq] at hf
    obtain ⟨_, hl, hw⟩ := hf
    have hw' : wrongS t.closed 0 t.flaws on [] = -1 := by
      rcases wrongS_lt t.closed t.flaws on 0 [] with h | h
      · exact h
      · omega
    have hfit := (wrongS_fit (fun f hf => (hv.fs f hf).1) hl).1 hw'
    refine hi.2 (Ind.sub ⟨_, hfit.mat⟩ hnd fun x hx => ?_)
    obtain ⟨k, hk, rfl, hid⟩ := plL_mem hx
    exact mem_onA.2 ⟨⟨by omega, by omega⟩, hall k hk hid⟩
  · have hk := okL_sub hok hs
    refine ⟨by rw [flawsE, if_pos hck, if_pos hk], fun hc => (canS_ind hv hk).2 ((hi.1 hc).sub (plL_nodup hk) fun x hx => ?_)⟩
    rw [plL_map hk] at hx
    rw [plL_map hok]
    obtain ⟨y, hy, rfl⟩ := List.mem_map.1 hx
    exact List.mem_map.2 ⟨y, hs.subset hy, rfl⟩
  · subst h
    refine hi.2 ⟨fun _ => 0, hnd, fun l hl => ?_, fun l hl => ?_⟩ <;> (rw [plL_map hok] at hl; simp at hl)

end Go.Proofs.YtkoejelglinmnaaGreat

/-
  The walk of the law MendJams: what jams some flaws, and days that mend them.
-/
namespace Go.Proofs.YtkoejelglinmnaaGreat
open Sg Mm
set_option maxRecDepth 100000

namespace Sg
theorem Rn.sliceFromE {P : Program} {n : Nat} {e : Env} {ty : TypeId} {w : World} {t : TypeId} {sz by_ : Nat} {z : Value} {x y : Operand} {g o len cap l : Nat} {k : IntKind} (ht : SliceTy P t sz by_ z) (hx : ev n e x = .slice (some ⟨g, o, none⟩) len cap) (hy : ev n e y = .int k l) (hl : l ≤ len) (hc : len ≤ cap) :
    Rn P n e (.slice t x (some y) none none) ty w (.slice (some ⟨g, if cap = l then o else o + l * sz, none⟩) (len - l) (cap - l)) := by
  obtain ⟨el, i, hu, hi, hs', hby, hz⟩ := ht.ex
  have hr := run_slice (P := P) (w := w) (a := some ⟨g, o, none⟩) (cap := cap) hu hi (lo := some (.int k l)) (hi' := none) (l := l) (h := len) (.inr ⟨k, rfl⟩) (.inl ⟨rfl, rfl⟩) hl hc
  have he : (if cap = l then some (⟨g, o, none⟩ : Addr) else (some (⟨g, o, none⟩ : Addr)).map (·.add (l * i.size))) = some ⟨g, if cap = l then o else o + l * sz, none⟩ := by
    split
    · rfl
    · rw [Option.map_some, addr_add, hs']
  rw [he] at hr
  simp [Rn, execOp, Sem.run_bind, hx, hy, hr, Result.andThen, pure, Sem.run]
end Sg

theorem cells_part {w : World} {b o : Nat} {l : List Int} (h : ∀ i (h : i < l.length), w.cell? ⟨b, o + i, none⟩ = some (.int .i64 l[i])) (lo n : Nat) : Cells w b (o + lo) (ints ((l.drop lo).take n)) :=
  Cells.ofGet fun j v hj => by
    have hl : j < ((l.drop lo).take n).length := by
      have := (List.getElem?_eq_some_iff.1 hj).1
      simpa [ints] using this
    have hl2 : lo + j < l.length := by
      rw [List.length_take, List.length_drop] at hl; omega
    have hv : v = .int .i64 l[lo + j] := by
      have : (ints ((l.drop lo).take n))[j]? = some (.int .i64 l[lo + j]) := by
        rw [ints, List.getElem?_map, List.getElem?_eq_getElem hl, List.getElem_take, List.getElem_drop]; rfl
      rw [this] at hj
      exact (Option.some.inj hj).symm
    subst hv
    rw [Nat.add_assoc]
    exact h (lo + j) hl2

theorem own_empty {w : World} {g : Nat} (h : Blk w g [] 3) : Own w 3 1 (some ⟨g, 0, none⟩) 0 0 [] := ⟨rfl, .inr ⟨g, [], rfl, h, Nat.le_refl _, by decide, rfl, rfl⟩⟩

set_option maxHeartbeats 4000000 in
theorem mendJams_ok (w : World) (t : Tour) (ac af : Option Addr) (cc cf : Nat) (ai : Option Addr) (ci : Nat) (ids : List Int) (lo hi : Int) (ao : Option Addr) (co : Nat) (on : List Int) (at'' : Int) (h1 : 0 ≤ at'' ∧ at'' ≤ 255) (hC : IL w ac t.closed) (hF : FL w af t.flaws) (hI : IL w ai ids) (hic : ids.length ≤ ci) (hO : IL w ao on) :
    Ret Tryz.prog 6 #[.agg #[.int .i64 t.days, .slice ac t.closed.length cc, .slice af t.flaws.length cf], .slice ai ids.length ci, .agg #[.int .i64 lo, .int .i64 hi], .slice ao on.length co, .int .u8 at''] w fun v w' => v = .bool true ∧ Chg [] w w' := by
  refine Ret.of_W (n := 174) Tryz.func6 rfl rfl (Nat.le_of_ble_eq_true rfl) ?_
  refine W.seq fun K hK => ?_
  refine W.region (by rfl) ?_
  refine Flow.box rfl (cs := [_, _, _]) rfl fun w1 c1 s1 b1 => ?_
  refine Flow.box rfl (cs := [_, _]) rfl fun w2 c2 s2 b2 => ?_
  refine Flow.assignC ?_
  refine hK _ _ _ ?_
  clear hK K
  have b12 := b1.chg c2 (by simp)
  refine W.seq fun K hK => ?_
  refine W.region (by rfl) ?_
  refine Flow.call0 Tf.hb_14  ?_
  refine Ret.mono (head_ok _) ?_
  rintro _ w3 ⟨rfl, c3⟩
  refine Flow.assign (v := .bool _) rfl ?_
  refine hK _ _ _ ?_
  clear hK K
  have c13 := (c1.then c2).then c3
  refine W.seq fun K2 hK2 => ?_
  refine W.seq fun K hK => ?_
  refine W.region (by rfl) ?_
  refine Flow.loadA Tf.ty_25 rfl rfl ((b12.chg c3 (by simp)).cells0) ?_
  refine Flow.call1 Tf.hb_15 (v1 := .agg _) rfl ?_
  refine Ret.mono (few_ok _ t ac af cc cf) ?_
  rintro _ w4 ⟨rfl, c4⟩
  have c14 := c13.then c4
  have b14 := b12.chg (c3.then c4) (by simp)
  have b24 := b2.chg (c3.then c4) (by simp)
  cases hfew : fewB t with
  | false =>
    refine Flow.not rfl ?_
    refine Flow.move (v := .bool _) rfl ?_
    refine Flow.off (c := true) rfl rfl rfl ?_
    refine Flow.off (c := true) rfl rfl rfl ?_
    refine Flow.off (c := true) rfl rfl rfl ?_
    refine Flow.pickT rfl rfl ?_
    refine Flow.move (v := .bool _) rfl ?_
    refine Flow.off (c := true) rfl rfl rfl ?_
    refine Flow.off (c := true) rfl rfl rfl ?_
    refine Flow.off (c := true) rfl rfl rfl ?_
    refine Flow.pickT rfl rfl ?_
    refine hK _ _ _ ?_
    clear hK K
    refine W.cond (t := true) rfl (fun _ => ?_) (fun h => by simp at h)
    refine W.seq fun K hK => ?_
    refine W.region (by rfl) ?_
    refine Flow.move (v := .bool _) rfl ?_
    refine Flow.assign (v := .bool _) rfl ?_
    refine hK _ _ _ ?_
    clear hK K
    exact W.ret ⟨_, res1 rfl (v := .bool _) rfl, rfl, c14⟩
  | true =>
  obtain ⟨hcl, hfl, hx8⟩ := few_facts hfew
  by_cases hla : (ids.length : Int) > 60
  · refine Flow.not rfl ?_
    refine Flow.move (v := .bool _) rfl ?_
    refine Flow.on rfl rfl ?_
    refine Flow.move (v := .slice _ _ _) rfl ?_
    refine Flow.on rfl rfl ?_
    refine Flow.len rfl Tf.us_22 rfl rfl ?_
    refine Flow.on rfl rfl ?_
    refine Flow.gtrD (c := true) rfl rfl (decide_eq_true (by omega)) ?_
    refine Flow.pickF rfl rfl ?_
    refine Flow.move (v := .bool _) rfl ?_
    refine Flow.off (c := true) rfl rfl rfl ?_
    refine Flow.off (c := true) rfl rfl rfl ?_
    refine Flow.off (c := true) rfl rfl rfl ?_
    refine Flow.pickT rfl rfl ?_
    refine hK _ _ _ ?_
    clear hK K
    refine W.cond (t := true) rfl (fun _ => ?_) (fun h => by simp at h)
    refine W.seq fun K hK => ?_
    refine W.region (by rfl) ?_
    refine Flow.move (v := .bool _) rfl ?_
    refine Flow.assign (v := .bool _) rfl ?_
    refine hK _ _ _ ?_
    clear hK K
    exact W.ret ⟨_, res1 rfl (v := .bool _) rfl, rfl, c14⟩
  refine Flow.not rfl ?_
  refine Flow.move (v := .bool _) rfl ?_
  refine Flow.on rfl rfl ?_
  refine Flow.move (v := .slice _ _ _) rfl ?_
  refine Flow.on rfl rfl ?_
  refine Flow.len rfl Tf.us_22 rfl rfl ?_
  refine Flow.on rfl rfl ?_
  refine Flow.gtrD (c := false) rfl rfl (decide_eq_false (by omega)) ?_
  refine Flow.pickF rfl rfl ?_
  refine Flow.move (v := .bool _) rfl ?_
  refine Flow.on rfl rfl ?_
  refine Flow.move (v := .slice _ _ _) rfl ?_
  refine Flow.on rfl rfl ?_
  refine Flow.len rfl Tf.us_22 rfl rfl ?_
  refine Flow.on rfl rfl ?_
  refine Flow.gtr rfl rfl ?_
  refine Flow.pickF rfl rfl ?_
  refine hK _ _ _ ?_
  clear hK K
  refine W.cond rfl (fun h => ?_) (fun h => W.skip (hK2 _ _ _ ?_))
  · refine W.seq fun K hK => ?_
    refine W.region (by rfl) ?_
    refine Flow.move (v := .bool _) rfl ?_
    refine Flow.assign (v := .bool _) rfl ?_
    refine hK _ _ _ ?_
    clear hK K
    exact W.ret ⟨_, res1 rfl (v := .bool _) rfl, rfl, c14⟩
  have hlo : on.length ≤ 60 := by simp at h; omega
  have hla : ids.length ≤ 60 := by omega
  clear h
  refine W.seq fun K hK => ?_
  refine W.region (by rfl) ?_
  refine Flow.loadA Tf.ty_25 rfl rfl (b14.cells0) ?_
  refine Flow.move (v := .slice _ _ _) rfl ?_
  refine Flow.call2 Tf.hb_38 (v1 := .agg _) rfl (v2 := .slice _ _ _) rfl ?_
  refine Ret.mono (Can_ok _ t ac af cc cf ai ci ids (hC.ext c14) (hF.ext c14) hcl hfl (hI.ext c14) (by omega)) ?_
  rintro _ w5 ⟨rfl, c5⟩
  refine Flow.move (v := .tuple _) rfl ?_
  refine Flow.extract (v := .bool _) rfl rfl ?_
  refine Flow.extract (v := .int _ _) rfl rfl ?_
  refine Flow.assign (v := .bool _) rfl ?_
  refine Flow.assign (v := .int _ _) rfl ?_
  refine hK _ _ _ ?_
  clear hK K
  have c15 := c14.then c5
  have b15 := b14.chg c5 (by simp)
  have b25 := b24.chg c5 (by simp)
  refine W.seq fun K hK => ?_
  refine W.region (by rfl) ?_
  refine Flow.loadA Tf.ty_25 rfl rfl (b15.cells0) ?_
  refine Flow.move (v := .slice _ _ _) rfl ?_
  refine Flow.call2 Tf.hb_39 (v1 := .agg _) rfl (v2 := .slice _ _ _) rfl ?_
  refine Ret.mono (Jam_ok _ t ac af cc cf ai ci ids (hC.ext c15) (hF.ext c15) hcl hfl (hI.ext c15) (by omega)) ?_
  rintro _ w6 ⟨rfl, c6⟩
  refine Flow.move (v := .tuple _) rfl ?_
  refine Flow.extract (v := .agg _) rfl rfl ?_
  refine Flow.extract (v := .bool _) rfl rfl ?_
  refine Flow.extract (v := .int _ _) rfl rfl ?_
  refine Flow.alloc Tf.ty_44 (cs := [_, _]) rfl fun w7 c7 s7 b7 => ?_
  refine Flow.store Tf.ty_44 rfl rfl (b7) (vs := [_, _]) rfl rfl (by simp) rfl fun w8 c8 s8 b8 => ?_
  refine Flow.assign (v := .bool _) rfl ?_
  refine Flow.assign (v := .int _ _) rfl ?_
  refine hK _ _ _ ?_
  clear hK K
  have c58 : Chg [] w5 w8 := c6.then (c7.step c8 (by simp))
  have c18 := c15.then c58
  have b18 := b15.chg c58 (by simp)
  have b28 := b25.chg c58 (by simp)
  refine W.seq fun K6 hK6 => ?_
  refine W.seq fun K hK => ?_
  refine W.region (by rfl) ?_
  refine Flow.move (v := .int _ _) rfl ?_
  refine Flow.move (v := .int _ _) rfl ?_
  refine Flow.neq rfl rfl ?_
  refine hK _ _ _ ?_
  clear hK K
  refine W.cond rfl (fun h => by simp at h) (fun _ => W.skip (hK6 _ _ _ ?_))
  refine W.seq fun K8 hK8 => ?_
  by_cases he : flawsE t ids = 0
  case neg =>
    have hc0 : canS t ids = false := by rw [canS, if_neg he]
    have hj0 : jamF t ids = none := by rw [jamF, if_neg he]
    rw [hc0, hj0]
    refine W.seq fun K hK => ?_
    refine W.region (by rfl) ?_
    refine Flow.move (v := .int _ _) rfl ?_
    refine Flow.neq rfl rfl ?_
    refine hK _ _ _ ?_
    clear hK K
    refine W.cond rfl (fun _ => ?_) (fun h => by simp [he] at h)
    refine W.seq fun K hK => ?_
    refine W.region (by rfl) ?_
    refine Flow.move (v := .bool _) rfl ?_
    refine Flow.move (v := .bool _) rfl ?_
    refine Flow.on rfl rfl ?_
    refine Flow.move (v := .bool _) rfl ?_
    refine Flow.on rfl rfl ?_
    refine Flow.not rfl ?_
    refine Flow.pickT rfl rfl ?_
    refine Flow.move (v := .bool _) rfl ?_
    refine Flow.on rfl rfl ?_
    refine Flow.move (v := .bool _) rfl ?_
    refine Flow.on rfl rfl ?_
    refine Flow.not rfl ?_
    refine Flow.pickT rfl rfl ?_
    refine Flow.assign (v := .bool _) rfl ?_
    refine hK _ _ _ ?_
    clear hK K
    exact W.ret ⟨_, res1 rfl (v := .bool _) rfl, rfl, c18⟩
  rw [he]
  refine W.seq fun K hK => ?_
  refine W.region (by rfl) ?_
  refine Flow.move (v := .int _ _) rfl ?_
  refine Flow.neq rfl rfl ?_
  refine hK _ _ _ ?_
  clear hK K
  refine W.cond rfl (fun h => by simp at h) (fun _ => W.skip (hK8 _ _ _ ?_))
  have hck := flawsE_chk he
  have hv := chk_valid hck
  have hok : okL t ids = true := by
    rw [flawsE, if_pos hck] at he
    by_cases h : okL t ids = true
    · exact h
    · rw [if_neg h] at he; omega
  obtain ⟨q1, q2, q3, q4, q5, q6⟩ := jams_law hv hok
  refine W.seq fun K10 hK10 => ?_
  clear hK2 K2 hK6 K6 hK8 K8
  obtain ⟨can, hcan⟩ : ∃ c, c = canS t ids := ⟨_, rfl⟩
  have hgo : ∀ (e : Env) (w' : World), AllAt e [(1, .slice ai ids.length ci), (3, .slice ao on.length co), (4, .int .u8 at''), (5, .pointer (some ⟨w.heap.size, 0, none⟩)), (11, .bool true), (12, .bool can)] → Chg [] w8 w' → K10 [] e w' := by
    clear q1 q2 q3
    rw [← hcan] at q4 q5 q6
    intro e w9 hE c9
    refine hK10 _ _ _ ?_
    obtain ⟨e, rfl⟩ : ∃ e0, e = putL e0 _ := ⟨e, putL_self hE⟩
    clear hE
    have c19 := c18.then c9
    have b19 := b18.chg c9 (by simp)
    refine W.seq fun K hK => ?_
    refine W.region (by rfl) ?_
    refine Flow.loadA Tf.ty_25 rfl rfl (b19.cells0) ?_
    refine Flow.move (v := .slice _ _ _) rfl ?_
    refine Flow.call2 Tf.hb_41 (v1 := .agg _) rfl (v2 := .slice _ _ _) rfl ?_
    refine Ret.mono (fits_ok _ t ac af cc cf ao co on (hC.ext c19) (hF.ext c19) hcl hfl (hO.ext c19) (by omega)) ?_
    rintro _ w10 ⟨rfl, c10⟩
    refine Flow.move (v := .tuple _) rfl ?_
    refine Flow.extract (v := .int _ _) rfl rfl ?_
    refine Flow.extract (v := .bool _) rfl rfl ?_
    refine Flow.extract (v := .int _ _) rfl rfl ?_
    refine Flow.assign (v := .int _ _) rfl ?_
    refine Flow.assign (v := .bool _) rfl ?_
    refine Flow.assign (v := .int _ _) rfl ?_
    refine hK _ _ _ ?_
    clear hK K
    have c110 := c19.then c10
    have b110 := b19.chg c10 (by simp)
    refine W.seq fun K13 hK13 => ?_
    have hgo2 : ∀ (e : Env) (w' : World), AllAt e [(1, .slice ai ids.length ci), (4, .int .u8 at''), (5, .pointer (some ⟨w.heap.size, 0, none⟩)), (11, .bool true), (12, .bool can)] → Chg [] w10 w' → K13 [] e w' := by
      clear q4
      intro e w11 hE c11
      refine hK13 _ _ _ ?_
      obtain ⟨e, rfl⟩ : ∃ e0, e = putL e0 _ := ⟨e, putL_self hE⟩
      clear hE
      have c111 := c110.then c11
      have b111 := b110.chg c11 (by simp)
      refine W.seq fun K21 hK21 => ?_
      refine W.seq fun K hK => ?_
      refine W.region (by rfl) ?_
      refine Flow.move (v := .slice _ _ _) rfl ?_
      refine Flow.len rfl Tf.us_22 rfl rfl ?_
      refine Flow.eql rfl rfl ?_
      refine hK _ _ _ ?_
      clear hK K
      refine W.cond rfl (fun h => ?_) (fun h => W.skip (hK21 _ _ _ ?_))
      · have hnil : ids = [] := by
          have h0 : ids.length = 0 := by simpa using h
          exact List.eq_nil_of_length_eq_zero h0
        rw [q6 hnil]
        refine W.seq fun K hK => ?_
        refine W.region (by rfl) ?_
        refine Flow.move (v := .bool _) rfl ?_
        refine Flow.move (v := .bool _) rfl ?_
        refine Flow.on rfl rfl ?_
        refine Flow.move (v := .bool _) rfl ?_
        refine Flow.pickT rfl rfl ?_
        refine Flow.assign (v := .bool _) rfl ?_
        refine hK _ _ _ ?_
        clear hK K
        exact W.ret ⟨_, res1 rfl (v := .bool _) rfl, rfl, c111⟩
      have hpos : 0 < ids.length := by
        rcases Nat.eq_zero_or_pos ids.length with h0 | h0
        · rw [h0] at h; simp at h
        · exact h0
      clear h
      refine W.seq fun K hK => ?_
      refine W.region (by rfl) ?_
      refine Flow.move (v := .int _ _) rfl ?_
      refine Flow.convert (s := 0) (z := undef) (k' := .i64) (by kernel_rfl) (by kernel_rfl) rfl (by rw [IntKind.wrap_i64]; omega) ?_
      refine Flow.move (v := .slice _ _ _) rfl ?_
      refine Flow.len rfl Tf.us_22 rfl rfl ?_
      refine Flow.rem rfl rfl (by omega) ?_
      refine Flow.assign (v := .int _ _) rfl ?_
      refine hK _ _ _ ?_
      clear hK K
      obtain ⟨k, hk, hkl⟩ : ∃ k : Nat, at''.tmod (ids.length : Int) = (k : Int) ∧ k < ids.length := by
        obtain ⟨n, rfl⟩ := Int.eq_ofNat_of_zero_le h1.1
        exact ⟨n % ids.length, rfl, Nat.mod_lt _ (by omega)⟩
      rw [hk]
      obtain ⟨bi, oi, rfl, hcI⟩ := (hI.ext c111).get hpos
      have hl1 : (ints ((ids.drop 0).take k)).length = k * 1 := by rw [ints, List.length_map, List.length_take, List.length_drop]; omega
      have hl2 : (ints ((ids.drop (k + 1)).take ids.length)).length = (ids.length - (k + 1)) * 1 := by rw [ints, List.length_map, List.length_take, List.length_drop]; omega
      have hA := ints_all
      have hcell2 : ∀ w', Chg [] w11 w' → Cells w' bi (if ci = k + 1 then oi else oi + (k + 1) * 1) (ints ((ids.drop (k + 1)).take ids.length)) := by
        intro w' hc'
        by_cases hck : ci = k + 1
        · have : (ids.drop (k + 1)).take ids.length = [] := by rw [List.drop_eq_nil_of_le (by omega)]; simp
          rw [this]; trivial
        · rw [if_neg hck, Nat.mul_one]
          exact cells_part (fun i hi => cell_chg (hcI i hi) hc' (by simp)) (k + 1) _
      refine W.seq fun K hK => ?_
      refine W.regionD [0, 4, 9] [4, 9] (by kernel_rfl) (by kernel_rfl) fun w12 c12' h12 => ?_
      refine FD.eff (by rfl) (Chg.refl _ _) ?_
      refine Flow.buildSlice0 Tf.sl_22 Tf.us_22 fun w13 c13' s13 b13' => ?_
      refine Flow.nil ⟨c13', ?_⟩
      refine FD.val (fun _ hw => Rn.move (v := .slice _ _ _) rfl) ?_
      refine FD.val (fun _ hw => Rn.move (v := .int _ _) rfl) ?_
      refine FD.val (fun _ hw => Rn.sliceTo (h := k) (cap := ci) Tf.sl_22 rfl rfl (by omega)) ?_
      refine FD.hardE (by rfl) (by rfl) ?_
      refine Flow.append (m := k) (bx := bi) (ox := oi + 0) Tf.sl_22 Tf.us_22 rfl (by decide) rfl rfl (own_empty b13') (cells_part (fun i hi => cell_chg (hcI i hi) (c12'.then c13') (by simp)) 0 k) hl1 (hA _) (by omega) (by omega) fun a5 cap5 w14 o5 c14' hd5 hn5 => ?_
      refine Flow.nil ?_
      refine FD.val (fun _ hw => Rn.move (v := .slice _ _ _) rfl) ?_
      refine FD.val (fun _ hw => Rn.move (v := .int _ _) rfl) ?_
      refine FD.val (fun _ hw => Rn.add rfl rfl (by omega) (by omega)) ?_
      refine FD.val (fun _ hw => Rn.sliceFromE (l := k + 1) (cap := ci) (len := ids.length) Tf.sl_22 rfl rfl (by omega) hic) ?_
      refine FD.hardE (by rfl) (by rfl) ?_
      refine Flow.append (m := ids.length - (k + 1)) (bx := bi) Tf.sl_22 Tf.us_22 rfl (by decide) rfl rfl o5 (hcell2 _ ((c12'.then c13').step c14' (fun b hb => by have := c12'.size; simp [ownB] at hb; omega))) hl2 (hA _) (by omega) (by omega) fun a6 cap6 w15 o6 c15' hd6 hn6 => ?_
      refine Flow.nil ?_
      refine FD.val (fun _ hw => Rn.assign (v := .slice _ _ _) rfl) ?_
      refine FD.nil ?_
      refine hK _ _ _ ?_
      clear hK K
      have hs12 := c12'.size
      have c1114 : Chg [] w11 w14 := (c12'.then c13').step c14' (fun b hb => by simp [ownB] at hb; omega)
      have hb5 : ∀ b ∈ ownB a5, w11.heap.size ≤ b := by
        rcases hd5 with rfl | ⟨g, rfl, hg⟩
        · intro b hb; simp [ownB] at hb; omega
        · intro b hb; simp [ownB] at hb; omega
      have c1115 : Chg [] w11 w15 := c1114.step c15' hb5
      obtain ⟨less, hless⟩ : ∃ l, l = (ids.drop 0).take k ++ (ids.drop (k + 1)).take ids.length := ⟨_, rfl⟩
      have hln : less.length = 0 + k + (ids.length - (k + 1)) := by rw [hless, List.length_append, List.length_take, List.length_take, List.length_drop, List.length_drop]; omega
      have hint : ints less = [] ++ ints ((ids.drop 0).take k) ++ ints ((ids.drop (k + 1)).take ids.length) := by rw [hless]; simp [ints]
      have hmine : Mine 0 w15 a6 cap6 less := ⟨by rw [hln, hint]; exact o6, fun _ _ => Nat.zero_le _⟩
      have hsub : less.Sublist ids := by
        rw [hless, List.drop_zero, List.take_of_length_le (l := ids.drop (k + 1)) (by rw [List.length_drop]; omega)]
        conv => rhs; rw [← List.take_append_drop k ids]
        refine List.Sublist.append (List.Sublist.refl _) ?_
        rw [← List.drop_drop]
        exact List.drop_sublist _ _
      obtain ⟨r1, r2⟩ := q5 less hsub
      rw [← hln]
      have c115 := c111.then c1115
      have b115 := b111.chg c1115 (by simp)
      refine W.seq fun K hK => ?_
      refine W.region (by rfl) ?_
      refine Flow.loadA Tf.ty_25 rfl rfl (b115.cells0) ?_
      refine Flow.move (v := .slice _ _ _) rfl ?_
      refine Flow.call2 Tf.hb_38 (v1 := .agg _) rfl (v2 := .slice _ _ _) rfl ?_
      refine Ret.mono (Can_ok _ t ac af cc cf a6 cap6 less (hC.ext c115) (hF.ext c115) hcl hfl hmine.il (by omega)) ?_
      rintro _ w16 ⟨rfl, c16⟩
      refine Flow.move (v := .tuple _) rfl ?_
      refine Flow.extract (v := .bool _) rfl rfl ?_
      refine Flow.extract (v := .int _ _) rfl rfl ?_
      refine Flow.assign (v := .bool _) rfl ?_
      refine Flow.assign (v := .int _ _) rfl ?_
      refine hK _ _ _ ?_
      clear hK K
      cases hcl2 : canS t less with
      | true =>
        refine W.seq fun K hK => ?_
        refine W.region (by rfl) ?_
        refine Flow.move (v := .bool _) rfl ?_
        refine Flow.move (v := .bool _) rfl ?_
        refine Flow.on rfl rfl ?_
        refine Flow.move (v := .int _ _) rfl ?_
        refine Flow.on rfl rfl ?_
        refine Flow.eqlD (c := true) rfl rfl (decide_eq_true (by omega)) ?_
        refine Flow.pickT rfl rfl ?_
        refine Flow.move (v := .bool _) rfl ?_
        refine Flow.on rfl rfl ?_
        refine Flow.move (v := .bool _) rfl ?_
        refine Flow.on rfl rfl ?_
        refine Flow.move (v := .bool _) rfl ?_
        refine Flow.off (c := true) rfl rfl rfl ?_
        refine Flow.off (c := true) rfl rfl rfl ?_
        refine Flow.on rfl rfl ?_
        refine Flow.pickT rfl rfl ?_
        refine Flow.pickT rfl rfl ?_
        refine Flow.assign (v := .bool _) rfl ?_
        refine hK _ _ _ ?_
        clear hK K
        exact W.ret ⟨_, res1 rfl (v := .bool _) rfl, rfl, c115.then c16⟩
      | false =>
        have hcf : can = false := by
          cases hcc : can with
          | false => rfl
          | true => rw [r2 hcc] at hcl2; cases hcl2
        rw [hcf]
        refine W.seq fun K hK => ?_
        refine W.region (by rfl) ?_
        refine Flow.move (v := .bool _) rfl ?_
        refine Flow.move (v := .bool _) rfl ?_
        refine Flow.on rfl rfl ?_
        refine Flow.move (v := .int _ _) rfl ?_
        refine Flow.on rfl rfl ?_
        refine Flow.eqlD (c := true) rfl rfl (decide_eq_true (by omega)) ?_
        refine Flow.pickT rfl rfl ?_
        refine Flow.move (v := .bool _) rfl ?_
        refine Flow.on rfl rfl ?_
        refine Flow.move (v := .bool _) rfl ?_
        refine Flow.on rfl rfl ?_
        refine Flow.move (v := .bool _) rfl ?_
        refine Flow.on rfl rfl ?_
        refine Flow.move (v := .bool _) rfl ?_
        refine Flow.on rfl rfl ?_
        refine Flow.not rfl ?_
        refine Flow.on rfl rfl ?_
        refine Flow.pickF rfl rfl ?_
        refine Flow.pickT rfl rfl ?_
        refine Flow.assign (v := .bool _) rfl ?_
        refine hK _ _ _ ?_
        clear hK K
        exact W.ret ⟨_, res1 rfl (v := .bool _) rfl, rfl, c115.then c16⟩
    by_cases hcond : fitsE t on = 0 ∧ fitsB t on = true ∧ can = false
    case neg =>
      by_cases hfe : fitsE t on = 0
      case neg =>
        refine W.seq fun K hK => ?_
        refine W.region (by rfl) ?_
        refine Flow.move (v := .int _ _) rfl ?_
        refine Flow.eqlD (c := false) rfl rfl (decide_eq_false (by omega)) ?_
        refine Flow.move (v := .bool _) rfl ?_
        refine Flow.off (c := false) rfl rfl rfl ?_
        refine Flow.pickF rfl rfl ?_
        refine Flow.move (v := .bool _) rfl ?_
        refine Flow.off (c := false) rfl rfl rfl ?_
        refine Flow.off (c := false) rfl rfl rfl ?_
        refine Flow.pickF rfl rfl ?_
        refine hK _ _ _ ?_
        clear hK K
        refine W.cond (t := false) rfl (fun h => by simp at h) (fun _ => W.skip (hgo2 _ _ ⟨rfl, rfl, rfl, rfl, rfl, trivial⟩ (Chg.refl _ _)))
      cases hfb : fitsB t on with
      | false =>
        refine W.seq fun K hK => ?_
        refine W.region (by rfl) ?_
        refine Flow.move (v := .int _ _) rfl ?_
        refine Flow.eqlD (c := true) rfl rfl (decide_eq_true (by omega)) ?_
        refine Flow.move (v := .bool _) rfl ?_
        refine Flow.on rfl rfl ?_
        refine Flow.move (v := .bool _) rfl ?_
        refine Flow.pickT rfl rfl ?_
        refine Flow.move (v := .bool _) rfl ?_
        refine Flow.off (c := false) rfl rfl rfl ?_
        refine Flow.off (c := false) rfl rfl rfl ?_
        refine Flow.pickF rfl rfl ?_
        refine hK _ _ _ ?_
        clear hK K
        refine W.cond (t := false) rfl (fun h => by simp at h) (fun _ => W.skip (hgo2 _ _ ⟨rfl, rfl, rfl, rfl, rfl, trivial⟩ (Chg.refl _ _)))
      | true =>
        cases can with
        | false => exact absurd ⟨hfe, hfb, rfl⟩ hcond
        | true =>
          refine W.seq fun K hK => ?_
          refine W.region (by rfl) ?_
          refine Flow.move (v := .int _ _) rfl ?_
          refine Flow.eqlD (c := true) rfl rfl (decide_eq_true (by omega)) ?_
          refine Flow.move (v := .bool _) rfl ?_
          refine Flow.on rfl rfl ?_
          refine Flow.move (v := .bool _) rfl ?_
          refine Flow.pickT rfl rfl ?_
          refine Flow.move (v := .bool _) rfl ?_
          refine Flow.on rfl rfl ?_
          refine Flow.move (v := .bool _) rfl ?_
          refine Flow.on rfl rfl ?_
          refine Flow.not rfl ?_
          refine Flow.pickT rfl rfl ?_
          refine hK _ _ _ ?_
          clear hK K
          refine W.cond (t := false) rfl (fun h => by simp at h) (fun _ => W.skip (hgo2 _ _ ⟨rfl, rfl, rfl, rfl, rfl, trivial⟩ (Chg.refl _ _)))
    obtain ⟨hfe, hfb, hcf⟩ := hcond
    have hol : on.length = t.flaws.length := by
      have := hfb
      rw [fitsB, decide_eq_true_eq] at this
      exact this.2.1
    rw [hfb, hcf]
    rw [hcf] at hgo2 q4
    refine W.seq fun K hK => ?_
    refine W.region (by rfl) ?_
    refine Flow.move (v := .int _ _) rfl ?_
    refine Flow.eqlD (c := true) rfl rfl (decide_eq_true (by omega)) ?_
    refine Flow.move (v := .bool _) rfl ?_
    refine Flow.on rfl rfl ?_
    refine Flow.move (v := .bool _) rfl ?_
    refine Flow.pickT rfl rfl ?_
    refine Flow.move (v := .bool _) rfl ?_
    refine Flow.on rfl rfl ?_
    refine Flow.move (v := .bool _) rfl ?_
    refine Flow.on rfl rfl ?_
    refine Flow.not rfl ?_
    refine Flow.pickT rfl rfl ?_
    refine hK _ _ _ ?_
    clear hK K
    refine W.cond (t := true) rfl (fun _ => ?_) (fun h => by simp at h)
    refine W.forget [(1, .slice ai ids.length ci), (3, .slice ao on.length co), (4, .int .u8 at''), (5, .pointer (some ⟨w.heap.size, 0, none⟩)), (11, .bool true), (12, .bool false)] ⟨rfl, rfl, rfl, rfl, rfl, rfl, trivial⟩ fun e => ?_
    refine W.seq fun K hK => ?_
    refine W.region (by rfl) ?_
    refine Flow.assignC ?_
    refine hK _ _ _ ?_
    clear hK K
    refine W.seq fun K15 hK15 => ?_
    refine W.seq fun K hK => ?_
    refine W.region (by rfl) ?_
    refine Flow.assignC ?_
    refine hK _ _ _ ?_
    clear hK K
    refine W.block ?_
    refine W.loop (ι := Nat × Bool) (fun k ds e w' => ds = [] ∧ k.1 ≤ t.flaws.length ∧ AllAt e [(1, .slice ai ids.length ci), (3, .slice ao on.length co), (4, .int .u8 at''), (5, .pointer (some ⟨w.heap.size, 0, none⟩)), (11, .bool true), (12, .bool false), (20, .bool k.2), (21, .int .i64 k.1)] ∧ Chg [] w10 w' ∧
        (k.2 = true → ∀ j (h : j < t.flaws.length), j < k.1 → t.flaws[j].id ∈ ids → 0 ≤ at' on j)) (fun k => t.flaws.length - k.1) (i0 := (0, true)) ⟨rfl, by omega, ⟨rfl, rfl, rfl, rfl, rfl, rfl, rfl, rfl, trivial⟩, Chg.refl _ _, fun _ j _ h => by omega⟩ ?_
    rintro ⟨k, b⟩ ds e w11 ⟨rfl, hk, hE, c11, hbef⟩
    obtain ⟨e, rfl⟩ : ∃ e0, e = putL e0 _ := ⟨e, putL_self hE⟩
    clear hE
    simp only at hk hbef ⊢
    have c111 := c110.then c11
    have b111 := b110.chg c11 (by simp)
    refine W.seq fun K16 hK16 => ?_
    refine W.seq fun K hK => ?_
    refine W.region (by rfl) ?_
    refine Flow.move (v := .int _ _) rfl ?_
    refine Flow.fieldAddr Tf.fo_25_2 rfl ?_
    refine Flow.load1 Tf.ty_23 rfl (b111.cell 2) ?_
    refine Flow.len rfl Tf.us_23 rfl rfl ?_
    refine Flow.lss rfl rfl ?_
    refine hK _ _ _ ?_
    clear hK K
    refine W.cond rfl (fun h => W.skip (hK16 _ _ _ ?_)) (fun h => W.exit ?_)
    · have hlt : k < t.flaws.length := by simpa using h
      have hlt2 : k < on.length := by omega
      obtain ⟨bf, of_, rfl, hflaw⟩ := (hF.ext c111).get hlt
      obtain ⟨bo, oo, rfl, hcO⟩ := (hO.ext c111).get hlt2
      refine W.seq fun K17 hK17 => ?_
      have hstep : ∀ (e : Env) (w' : World) (b' : Bool), AllAt e [(1, .slice ai ids.length ci), (3, .slice (some ⟨bo, oo, none⟩) on.length co), (4, .int .u8 at''), (5, .pointer (some ⟨w.heap.size, 0, none⟩)), (11, .bool true), (12, .bool false), (20, .bool b'), (21, .int .i64 k)] → Chg [] w10 w' →
          (b' = true → b = true ∧ (t.flaws[k].id ∈ ids → 0 ≤ on[k])) → K17 [] e w' := by
        intro e w' b' hE hc' hb'
        refine hK17 _ _ _ ?_
        obtain ⟨e, rfl⟩ : ∃ e0, e = putL e0 _ := ⟨e, putL_self hE⟩
        clear hE
        refine W.region (by rfl) ?_
        refine Flow.move (v := .int _ _) rfl ?_
        refine Flow.add rfl rfl (by omega) (by omega) ?_
        refine Flow.assign (v := .int _ _) rfl ?_
        refine Flow.nil ⟨(k + 1, b'), by simp only; omega, rfl, by simp only; omega, ⟨rfl, rfl, rfl, rfl, rfl, rfl, rfl, rfl, trivial⟩, hc', fun hbt j hj hjk hm => ?_⟩
        obtain ⟨h1, h2⟩ := hb' hbt
        by_cases e : j = k
        · subst e; rw [at_nat hlt2]; exact h2 hm
        · exact hbef h1 j hj (by simp only at hjk; omega) hm
      refine W.block ?_
      cases b with
      | false =>
        refine W.region (by rfl) ?_
        refine Flow.move (v := .bool _) rfl ?_
        refine Flow.move (v := .bool _) rfl ?_
        refine Flow.off (c := false) rfl rfl rfl ?_
        refine Flow.off (c := false) rfl rfl rfl ?_
        refine Flow.off (c := false) rfl rfl rfl ?_
        refine Flow.off (c := false) rfl rfl rfl ?_
        refine Flow.off (c := false) rfl rfl rfl ?_
        refine Flow.off (c := false) rfl rfl rfl ?_
        refine Flow.off (c := false) rfl rfl rfl ?_
        refine Flow.off (c := false) rfl rfl rfl ?_
        refine Flow.off (c := false) rfl rfl rfl ?_
        refine Flow.off (c := false) rfl rfl rfl ?_
        refine Flow.offU rfl rfl ?_
        refine Flow.offU rfl rfl ?_
        refine Flow.offU rfl rfl ?_
        refine Flow.offU rfl rfl ?_
        refine Flow.offU rfl rfl ?_
        refine Flow.off (c := false) rfl rfl rfl ?_
        refine Flow.pickF rfl rfl ?_
        refine Flow.assign (v := .bool _) rfl ?_
        exact Flow.nil (hstep _ _ false ⟨rfl, rfl, rfl, rfl, rfl, rfl, rfl, rfl, trivial⟩ c11 (fun h => by cases h))
      | true =>
        refine W.region (by rfl) ?_
        refine Flow.move (v := .bool _) rfl ?_
        refine Flow.move (v := .bool _) rfl ?_
        refine Flow.on rfl rfl ?_
        refine Flow.move (v := .slice _ _ _) rfl ?_
        refine Flow.on rfl rfl ?_
        refine Flow.fieldAddr Tf.fo_25_2 rfl ?_
        refine Flow.on rfl rfl ?_
        refine Flow.load1 Tf.ty_23 rfl (b111.cell 2) ?_
        refine Flow.on rfl rfl ?_
        refine Flow.move (v := .int _ _) rfl ?_
        refine Flow.on rfl rfl ?_
        refine Flow.indexAddr Tf.sl_23 rfl rfl (by omega) (by omega) ?_
        refine Flow.on rfl rfl ?_
        refine Flow.fieldAddr Tf.fo_81_0 rfl ?_
        refine Flow.on rfl rfl ?_
        refine Flow.load1 Tf.ty_3 rfl ((hflaw k hlt).1) ?_
        refine Flow.on rfl rfl ?_
        refine Flow.call2 Tf.hb_42 (v1 := .slice _ _ _) rfl (v2 := .int _ _) rfl ?_
        refine Ret.mono (has_ok _ _ _ ids _ (hI.ext c111) (by omega)) ?_
        rintro _ w12 ⟨rfl, c12'⟩
        by_cases hm : t.flaws[k].id ∈ ids
        · rw [decide_eq_true hm]
          refine Flow.on rfl rfl ?_
          refine Flow.not rfl ?_
          refine Flow.on rfl rfl ?_
          refine Flow.move (v := .bool _) rfl ?_
          refine Flow.on rfl rfl ?_
          refine Flow.move (v := .slice _ _ _) rfl ?_
          refine Flow.on rfl rfl ?_
          refine Flow.move (v := .int _ _) rfl ?_
          refine Flow.on rfl rfl ?_
          refine Flow.indexAddr1 Tf.sl_22 rfl rfl (by omega) (by omega) ?_
          refine Flow.on rfl rfl ?_
          refine Flow.load1 Tf.ty_3 rfl (cell_chg (hcO k hlt2) c12' (by simp)) ?_
          refine Flow.on rfl rfl ?_
          refine Flow.geq rfl rfl ?_
          refine Flow.on rfl rfl ?_
          refine Flow.pickF rfl rfl ?_
          refine Flow.pickT rfl rfl ?_
          refine Flow.assign (v := .bool _) rfl ?_
          refine Flow.nil (hstep _ _ _ ⟨rfl, rfl, rfl, rfl, rfl, rfl, rfl, rfl, trivial⟩ (c11.then c12') (fun h => ⟨rfl, fun _ => ?_⟩))
          simpa using h
        · rw [decide_eq_false hm]
          refine Flow.on rfl rfl ?_
          refine Flow.not rfl ?_
          refine Flow.on rfl rfl ?_
          refine Flow.move (v := .bool _) rfl ?_
          refine Flow.off (c := true) rfl rfl rfl ?_
          refine Flow.off (c := true) rfl rfl rfl ?_
          refine Flow.off (c := true) rfl rfl rfl ?_
          refine Flow.off (c := true) rfl rfl rfl ?_
          refine Flow.off (c := true) rfl rfl rfl ?_
          refine Flow.on rfl rfl ?_
          refine Flow.pickT rfl rfl ?_
          refine Flow.pickT rfl rfl ?_
          refine Flow.assign (v := .bool _) rfl ?_
          exact Flow.nil (hstep _ _ true ⟨rfl, rfl, rfl, rfl, rfl, rfl, rfl, rfl, trivial⟩ (c11.then c12') (fun h => ⟨rfl, fun hm' => absurd hm' hm⟩))
    have hge : k = t.flaws.length := by simp at h; omega
    refine hK15 _ _ _ ?_
    cases b with
    | true =>
      have := q4 on hfb fun j hj hm => hbef rfl j hj (by omega) hm
      cases this
    | false =>
      refine W.seq fun K hK => ?_
      refine W.region (by rfl) ?_
      refine Flow.move (v := .bool _) rfl ?_
      refine hK _ _ _ ?_
      clear hK K
      refine W.cond (t := false) rfl (fun h => by simp at h) (fun _ => W.skip (hgo2 _ _ ⟨rfl, rfl, rfl, rfl, rfl, trivial⟩ c11))
  obtain ⟨o, ho⟩ : ∃ o, o = jamF t ids := ⟨_, rfl⟩
  rw [← ho] at q1 q2 b8 ⊢
  rw [← hcan] at q1 q3 ⊢
  clear hcan ho
  cases o with
  | none =>
    obtain rfl : can = true := q1
    have hz : checkJamR t ids lo hi ≠ 0 := fun h => by have := q3 lo hi h; cases this
    refine W.seq fun K hK => ?_
    refine W.region (by rfl) ?_
    refine Flow.move (v := .bool _) rfl ?_
    refine Flow.move (v := .bool _) rfl ?_
    refine Flow.eqBool u_bool rfl rfl ?_
    refine Flow.move (v := .bool _) rfl ?_
    refine Flow.on rfl rfl ?_
    refine Flow.move (v := .bool _) rfl ?_
    refine Flow.on rfl rfl ?_
    refine Flow.move (v := .bool _) rfl ?_
    refine Flow.off (c := false) rfl rfl rfl ?_
    refine Flow.off (c := false) rfl rfl rfl ?_
    refine Flow.off (c := false) rfl rfl rfl ?_
    refine Flow.off (c := false) rfl rfl rfl ?_
    refine Flow.off (c := false) rfl rfl rfl ?_
    refine Flow.on rfl rfl ?_
    refine Flow.pickF rfl rfl ?_
    refine Flow.pickF rfl rfl ?_
    refine Flow.move (v := .bool _) rfl ?_
    refine Flow.on rfl rfl ?_
    refine Flow.loadA Tf.ty_25 rfl rfl (b18.cells0) ?_
    refine Flow.on rfl rfl ?_
    refine Flow.move (v := .slice _ _ _) rfl ?_
    refine Flow.on rfl rfl ?_
    refine Flow.loadA Tf.ty_44 rfl rfl (b28.cells0) ?_
    refine Flow.on rfl rfl ?_
    refine Flow.call3 Tf.hb_40 (v1 := .agg _) rfl (v2 := .slice _ _ _) rfl (v3 := .agg _) rfl ?_
    refine Ret.mono (CheckJam_ok _ t ac af cc cf ai ci ids lo hi (hC.ext c18) (hF.ext c18) hcl hfl (hI.ext c18) (by omega)) ?_
    rintro _ w9 ⟨rfl, c9⟩
    refine Flow.on rfl rfl ?_
    refine Flow.eqlD (c := false) rfl rfl (decide_eq_false (by omega)) ?_
    refine Flow.on rfl rfl ?_
    refine Flow.move (v := .bool _) rfl ?_
    refine Flow.off (c := false) rfl rfl rfl ?_
    refine Flow.on rfl rfl ?_
    refine Flow.pickF rfl rfl ?_
    refine Flow.pickF rfl rfl ?_
    refine hK _ _ _ ?_
    clear hK K
    refine W.cond (t := false) rfl (fun h => by simp at h) (fun _ => W.skip (hgo _ w9 ⟨rfl, rfl, rfl, rfl, rfl, rfl, trivial⟩ c9))
  | some p =>
    obtain rfl : can = false := q1
    have hz := q2 p rfl
    by_cases hz2 : checkJamR t ids lo hi = 0
    · refine W.seq fun K hK => ?_
      refine W.region (by rfl) ?_
      refine Flow.move (v := .bool _) rfl ?_
      refine Flow.move (v := .bool _) rfl ?_
      refine Flow.eqBool u_bool rfl rfl ?_
      refine Flow.move (v := .bool _) rfl ?_
      refine Flow.on rfl rfl ?_
      refine Flow.move (v := .bool _) rfl ?_
      refine Flow.on rfl rfl ?_
      refine Flow.move (v := .bool _) rfl ?_
      refine Flow.on rfl rfl ?_
      refine Flow.loadA Tf.ty_25 rfl rfl (b18.cells0) ?_
      refine Flow.on rfl rfl ?_
      refine Flow.move (v := .slice _ _ _) rfl ?_
      refine Flow.on rfl rfl ?_
      refine Flow.loadA Tf.ty_44 rfl rfl (b8.cells0) ?_
      refine Flow.on rfl rfl ?_
      refine Flow.call3 Tf.hb_40 (v1 := .agg _) rfl (v2 := .slice _ _ _) rfl (v3 := .agg _) rfl ?_
      refine Ret.mono (CheckJam_ok _ t ac af cc cf ai ci ids p.1 p.2 (hC.ext c18) (hF.ext c18) hcl hfl (hI.ext c18) (by omega)) ?_
      rintro _ w9 ⟨rfl, c9⟩
      refine Flow.on rfl rfl ?_
      refine Flow.neqD (c := false) rfl rfl (decide_eq_false (by omega)) ?_
      refine Flow.on rfl rfl ?_
      refine Flow.pickT rfl rfl ?_
      refine Flow.pickF rfl rfl ?_
      refine Flow.move (v := .bool _) rfl ?_
      refine Flow.on rfl rfl ?_
      refine Flow.loadA Tf.ty_25 rfl rfl ((b18.chg c9 (by simp)).cells0) ?_
      refine Flow.on rfl rfl ?_
      refine Flow.move (v := .slice _ _ _) rfl ?_
      refine Flow.on rfl rfl ?_
      refine Flow.loadA Tf.ty_44 rfl rfl ((b28.chg c9 (by simp)).cells0) ?_
      refine Flow.on rfl rfl ?_
      refine Flow.call3 Tf.hb_40 (v1 := .agg _) rfl (v2 := .slice _ _ _) rfl (v3 := .agg _) rfl ?_
      refine Ret.mono (CheckJam_ok _ t ac af cc cf ai ci ids lo hi (hC.ext (c18.then c9)) (hF.ext (c18.then c9)) hcl hfl (hI.ext (c18.then c9)) (by omega)) ?_
      rintro _ w10 ⟨rfl, c10⟩
      refine Flow.on rfl rfl ?_
      refine Flow.eqlD (c := true) rfl rfl (decide_eq_true (by omega)) ?_
      refine Flow.on rfl rfl ?_
      refine Flow.move (v := .bool _) rfl ?_
      refine Flow.on rfl rfl ?_
      refine Flow.move (v := .bool _) rfl ?_
      refine Flow.on rfl rfl ?_
      refine Flow.pickT rfl rfl ?_
      refine Flow.pickF rfl rfl ?_
      refine hK _ _ _ ?_
      clear hK K
      refine W.cond (t := false) rfl (fun h => by simp at h) (fun _ => W.skip (hgo _ w10 ⟨rfl, rfl, rfl, rfl, rfl, rfl, trivial⟩ (c9.then c10)))
    · refine W.seq fun K hK => ?_
      refine W.region (by rfl) ?_
      refine Flow.move (v := .bool _) rfl ?_
      refine Flow.move (v := .bool _) rfl ?_
      refine Flow.eqBool u_bool rfl rfl ?_
      refine Flow.move (v := .bool _) rfl ?_
      refine Flow.on rfl rfl ?_
      refine Flow.move (v := .bool _) rfl ?_
      refine Flow.on rfl rfl ?_
      refine Flow.move (v := .bool _) rfl ?_
      refine Flow.on rfl rfl ?_
      refine Flow.loadA Tf.ty_25 rfl rfl (b18.cells0) ?_
      refine Flow.on rfl rfl ?_
      refine Flow.move (v := .slice _ _ _) rfl ?_
      refine Flow.on rfl rfl ?_
      refine Flow.loadA Tf.ty_44 rfl rfl (b8.cells0) ?_
      refine Flow.on rfl rfl ?_
      refine Flow.call3 Tf.hb_40 (v1 := .agg _) rfl (v2 := .slice _ _ _) rfl (v3 := .agg _) rfl ?_
      refine Ret.mono (CheckJam_ok _ t ac af cc cf ai ci ids p.1 p.2 (hC.ext c18) (hF.ext c18) hcl hfl (hI.ext c18) (by omega)) ?_
      rintro _ w9 ⟨rfl, c9⟩
      refine Flow.on rfl rfl ?_
      refine Flow.neqD (c := false) rfl rfl (decide_eq_false (by omega)) ?_
      refine Flow.on rfl rfl ?_
      refine Flow.pickT rfl rfl ?_
      refine Flow.pickF rfl rfl ?_
      refine Flow.move (v := .bool _) rfl ?_
      refine Flow.on rfl rfl ?_
      refine Flow.loadA Tf.ty_25 rfl rfl ((b18.chg c9 (by simp)).cells0) ?_
      refine Flow.on rfl rfl ?_
      refine Flow.move (v := .slice _ _ _) rfl ?_
      refine Flow.on rfl rfl ?_
      refine Flow.loadA Tf.ty_44 rfl rfl ((b28.chg c9 (by simp)).cells0) ?_
      refine Flow.on rfl rfl ?_
      refine Flow.call3 Tf.hb_40 (v1 := .agg _) rfl (v2 := .slice _ _ _) rfl (v3 := .agg _) rfl ?_
      refine Ret.mono (CheckJam_ok _ t ac af cc cf ai ci ids lo hi (hC.ext (c18.then c9)) (hF.ext (c18.then c9)) hcl hfl (hI.ext (c18.then c9)) (by omega)) ?_
      rintro _ w10 ⟨rfl, c10⟩
      refine Flow.on rfl rfl ?_
      refine Flow.eqlD (c := false) rfl rfl (decide_eq_false (by omega)) ?_
      refine Flow.on rfl rfl ?_
      refine Flow.move (v := .bool _) rfl ?_
      refine Flow.off (c := false) rfl rfl rfl ?_
      refine Flow.on rfl rfl ?_
      refine Flow.pickF rfl rfl ?_
      refine Flow.pickF rfl rfl ?_
      refine hK _ _ _ ?_
      clear hK K
      refine W.cond (t := false) rfl (fun h => by simp at h) (fun _ => W.skip (hgo _ w10 ⟨rfl, rfl, rfl, rfl, rfl, rfl, trivial⟩ (c9.then c10)))

end Go.Proofs.YtkoejelglinmnaaGreat

namespace Go.Proofs.YtkoejelglinmnaaGreat.mendJamsClaim
open Sg Go.ChangeShapes Go.WideShapes Go.ChangeAt Go.RowKit Go.Joins Go.Deep
set_option linter.unusedVariables false

set_option maxRecDepth 100000 in
theorem lifted (os : Os) (started : os.Started) (H : Type) (enc : TypeId × Value → H) :
    ReturnsInHanded {} Tryz.checked os 6 .any (Rows.mendJamsSpec.pre6 enc Tryz.prog Tryz.f6 Rows.mendJamsRow.domain false) (Rows.mendJamsSpec.post enc Tryz.prog Tryz.f6 false true false false) := by
  refine returnsInHanded_of_change (C := Tryz.checked) own started (by kernel_rfl) Tryz.func6
    (ChangeSpec.witness6 (enc := enc) (C := Tryz.checked) false ⟨#[], #[.agg #[.int .i64 0, .slice none 0 0, .slice none 0 0], .slice none 0 0, .agg #[.int .i64 0, .int .i64 0], .slice none 0 0, .int .u8 0], []⟩ 8 (by kernel_rfl) (by kernel_rfl) (by kernel_rfl) (by kernel_rfl)) ?_
  intro W base args ds gs before hval0 hW hcnd _
  have hval : ∀ (j : Nat) t v, Tryz.f6.params[j]? = some t → args[j]? = some v → Value.okWide Tryz.prog W .any base t v := hval0
  have hW' := hW
  obtain ⟨p, q, hA0, hV, rfl, hfz, hnd⟩ := hW
  have hA : DataW.TrodAll enc Tryz.prog W 0 (fun _ => true) true Tryz.f6.params.toList args.toList ds p := hA0
  rw [Tryz.params6] at hA hval
  obtain ⟨v0, vs0, d0, ds0, p0, q0, hargs, rfl, rfl, h0, r0⟩ := trodAll_cons hA
  obtain ⟨v1, vs1, d1, ds1, p1, q1, rfl, rfl, rfl, h1, r1⟩ := trodAll_cons r0
  obtain ⟨v2, vs2, d2, ds2, p2, q2, rfl, rfl, rfl, h2, r2⟩ := trodAll_cons r1
  obtain ⟨v3, vs3, d3, ds3, p3, q3, rfl, rfl, rfl, h3, r3⟩ := trodAll_cons r2
  obtain ⟨v4, vs4, d4, ds4, p4, q4, rfl, rfl, rfl, h4, r4⟩ := trodAll_cons r3
  obtain ⟨rfl, rfl, rfl⟩ := trodAll_nil r4
  obtain rfl : args = #[v0, v1, v2, v3, v4] := by cases args; simp_all
  obtain ⟨rfl, rfl⟩ := trodVars_none hV
  have k0 := h0
  have lt0 : ∀ x ∈ p0, x.block < W.heap.size := by obtain ⟨m, hm⟩ := k0; exact DataW.trod_lt m _ _ _ hm
  have k1 := h1
  have lt1 : ∀ x ∈ p1, x.block < W.heap.size := by obtain ⟨m, hm⟩ := k1; exact DataW.trod_lt m _ _ _ hm
  have k2 := h2
  have lt2 : ∀ x ∈ p2, x.block < W.heap.size := by obtain ⟨m, hm⟩ := k2; exact DataW.trod_lt m _ _ _ hm
  have k3 := h3
  have lt3 : ∀ x ∈ p3, x.block < W.heap.size := by obtain ⟨m, hm⟩ := k3; exact DataW.trod_lt m _ _ _ hm
  obtain ⟨t0, ac0, af0, cc0, cf0, rfl, hC0, hF0⟩ := read_tour (hval 0 _ v0 rfl rfl) h0
  obtain ⟨ai1, ci1, ids1, rfl, hI1, hc1⟩ := read_room (hval 1 _ v1 rfl rfl) h1
  obtain ⟨lo2, hi2, rfl⟩ := read_span (hval 2 _ v2 rfl rfl) h2
  obtain ⟨ai3, ci3, ids3, rfl, hI3⟩ := read_list (hval 3 _ v3 rfl rfl) h3
  obtain ⟨a4, rfl, rfl, rfl, w4⟩ := open_int u_u8 (hval 4 _ v4 rfl rfl) h4
  clear hA0 hval0
  refine Calls.mono (mendJams_ok W t0 ac0 af0 cc0 cf0 ai1 ci1 ids1 lo2 hi2 ai3 ci3 ids3 a4 (bounds_u8 w4) hC0 hF0 hI1 hc1 hI3) ?_
  rintro e W' ⟨v, rfl, rfl, hc⟩
  have bel := chg_below hc
  exact ⟨_, rfl, _, _, _, [], _, [], hW', trodAll_mk1 (shut_bool u_bool _), (trodAll_cons_mk (Below.trod laidOut (by kernel_rfl) (of_decide_eq_true (by kernel_rfl)) k0 bel lt0) (trodAll_cons_mk (Below.trod laidOut (by kernel_rfl) (of_decide_eq_true (by kernel_rfl)) k1 bel lt1) (trodAll_cons_mk (Below.trod laidOut (by kernel_rfl) (of_decide_eq_true (by kernel_rfl)) k2 bel lt2) (trodAll_cons_mk (Below.trod laidOut (by kernel_rfl) (of_decide_eq_true (by kernel_rfl)) k3 bel lt3) (trodAll_cons_mk (shut_int u_u8 w4) trodAll_mk0))))), rfl, bel.frame _, fun h => by cases h⟩

theorem over : Rows.mendJamsRow.holds Tryz.pinned (OpenSpec.ofChange Rows.mendJamsSpec) :=
  OpenClaim.holds_of_wide 6 Tryz.f6 rfl rfl rfl rfl rfl rfl rfl ⟨rfl, rfl, rfl, rfl, rfl⟩ rfl rfl rfl rfl rfl (by kernel_rfl) Tryz.func6 (by kernel_rfl)
    (of_decide_eq_true (by kernel_rfl)) (by unfold Func.isWrapper; first | (rw [if_pos (by decide +kernel)]; kernel_rfl) | (rw [if_neg (by decide +kernel)]; exact ⟨rfl, rfl⟩))
    (fun os started H enc _ => lifted os started H enc)

theorem proved : Rows.MendJamsSaid := over
#print axioms proved

end Go.Proofs.YtkoejelglinmnaaGreat.mendJamsClaim
