/-
  A small program logic over the kit's wpIn: frames as functions of the slot's number, code walked by rules.
-/
import Derived.RangeFuncIn
import Derived.RangeFuncLeaves
import Derived.RangeFuncRecord
import Derived.OrdersIn
import Derived.TacticsIn
import Derived.BigFrameIn
import Derived.Laws.Rows
import Derived.IntWalk
import Derived.Below
import Derived.KernelRfl
import Derived.Laws.AppendOwn
import Derived.Laws.CopyRow
import Derived.Laws.MakeOwn
import Derived.WalkSpells
import Derived.Laws.Bits64b
set_option linter.unusedSimpArgs false
set_option linter.unusedVariables false
namespace Go.Proofs.YtkoejelglinmnaaGreat
namespace Sg

abbrev Env := Nat → Value

def upd (e : Env) (d : Nat) (v : Value) : Env := fun i => if i = d then v else e i

def updO (e : Env) : Option Tmp → Value → Env
  | some d, v => upd e d v
  | none, _ => e

def markOf (D : Nat) : Deferred := { target := .collected D, args := #[] }

def fr (n : Nat) (e : Env) (ds : List Nat) : Act := { tmps := Array.ofFn (fun i : Fin n => e i.val), defers := ds.map markOf }

def ev (n : Nat) (e : Env) : Operand → Value
  | .tmp t => bif Nat.blt t n then e t else undef
  | .const v => v
  | .global g => .pointer (some ⟨g, 0, none⟩)
  | .func f => .func (.func f) #[] #[]

theorem ofFn_get? (n : Nat) (e : Env) (t : Nat) : (Array.ofFn (fun i : Fin n => e i.val))[t]? = if t < n then some (e t) else none := by
  by_cases h : t < n <;> simp [h]

theorem fr_eval (n : Nat) (e : Env) (ds : List Nat) : (fr n e ds).eval = ev n e := by
  funext x
  cases x with
  | tmp t =>
    show (Array.ofFn (fun i : Fin n => e i.val)).getD t undef = bif Nat.blt t n then e t else undef
    rw [Array.getD_eq_getD_getElem?, ofFn_get?]
    by_cases h : t < n
    · rw [show Nat.blt t n = true from by rw [Nat.blt_eq]; exact h, if_pos h]; rfl
    · have : Nat.blt t n = false := by rw [← Bool.not_eq_true, Nat.blt_eq]; exact h
      rw [if_neg h, this]; rfl
  | _ => rfl

theorem fr_put (n : Nat) (e : Env) (ds : List Nat) (d : Option Tmp) (v : Value) : (fr n e ds).put d v = fr n (updO e d v) ds := by
  cases d with
  | none => rfl
  | some d =>
    simp only [Act.put, fr, updO, Act.mk.injEq, and_true]
    refine Array.ext (by simp) (fun i h1 h2 => ?_)
    simp only [Array.size_setIfInBounds, Array.size_ofFn] at h1
    rw [Array.getElem_setIfInBounds (by simpa using h1)]
    simp only [Array.getElem_ofFn, upd]
    by_cases h : d = i
    · simp [h]
    · simp [h, Ne.symm h]

/-- What a piece of code must achieve: where it runs off its end, returns, leaves a block. -/
structure Post where
  nrm : List Nat → Env → World → Prop
  ret : List Nat → Env → World → Prop
  ex : Nat → List Nat → Env → World → Prop

def Post.toQ (n : Nat) (q : Post) : Exit → Act → World → Prop
  | .normal, a, w => ∃ ds e, a = fr n e ds ∧ q.nrm ds e w
  | .ret, a, w => ∃ ds e, a = fr n e ds ∧ q.ret ds e w
  | .exit i, a, w => ∃ ds e, a = fr n e ds ∧ q.ex i ds e w
  | _, _, _ => False

abbrev Fd (r : Option Nat) : Fence := { Fence.wide with round := r }

theorem fd_none : Fd none = Fence.wide := rfl
theorem fd_some (l : Nat) : Fd (some l) = Fence.wide.inRound l := rfl

def W (P : Program) (n : Nat) (r : Option Nat) (c : Code) (q : Post) (ds : List Nat) (e : Env) (w : World) : Prop :=
  c.wpIn (Fd r) 0 P (q.toQ n) (fr n e ds) w

section
variable {P : Program} {n : Nat} {r : Option Nat} {q q' : Post} {ds : List Nat} {e : Env} {w : World}

theorem W.mono {c : Code} (h : W P n r c q ds e w) (h1 : ∀ ds e w, q.nrm ds e w → q'.nrm ds e w) (h2 : ∀ ds e w, q.ret ds e w → q'.ret ds e w)
    (h3 : ∀ i ds e w, q.ex i ds e w → q'.ex i ds e w) : W P n r c q' ds e w :=
  wpIn_mono h fun x a w hq => by
    cases x with
    | normal => obtain ⟨ds, e, ha, hq⟩ := hq; exact ⟨ds, e, ha, h1 _ _ _ hq⟩
    | ret => obtain ⟨ds, e, ha, hq⟩ := hq; exact ⟨ds, e, ha, h2 _ _ _ hq⟩
    | exit i => obtain ⟨ds, e, ha, hq⟩ := hq; exact ⟨ds, e, ha, h3 _ _ _ _ hq⟩
    | goto l => exact hq
    | panic ch => exact hq
    | outgrown => exact hq

theorem W.skip (h : q.nrm ds e w) : W P n r .skip q ds e w := wpIn_skip ⟨ds, e, rfl, h⟩
theorem W.label {l : Nat} (h : q.nrm ds e w) : W P n r (.label l) q ds e w := wpIn_label ⟨ds, e, rfl, h⟩
theorem W.ret (h : q.ret ds e w) : W P n r .ret q ds e w := wpIn_ret ⟨ds, e, rfl, h⟩
theorem W.exit {i : Nat} (h : q.ex i ds e w) : W P n r (.exit i) q ds e w := wpIn_exit ⟨ds, e, rfl, h⟩

theorem W.seq {x y : Code} (h : ∀ K : List Nat → Env → World → Prop, (∀ ds e w, W P n r y q ds e w → K ds e w) → W P n r x ⟨K, q.ret, q.ex⟩ ds e w) :
    W P n r (.seq x y) q ds e w :=
  wpIn_seq (wpIn_mono (h (fun ds e w => W P n r y q ds e w) (fun _ _ _ h => h)) fun x a w hq => by
    cases x with
    | normal => obtain ⟨ds, e, rfl, hq⟩ := hq; exact hq
    | ret => exact hq
    | exit i => exact hq
    | goto l => exact hq
    | panic ch => exact hq
    | outgrown => exact hq)

theorem W.cond {c : Operand} {x y : Code} {t : Bool} (hc : ev n e c = .bool t) (ht : t = true → W P n r x q ds e w) (hf : t = false → W P n r y q ds e w) :
    W P n r (.cond c x y) q ds e w :=
  wpIn_cond (t := t) (by rw [fr_eval]; exact hc) (by cases t; exact hf rfl; exact ht rfl)

theorem W.block {i : Nat} {c : Code} (h : W P n r c ⟨q.nrm, q.ret, fun j => if j = i then q.nrm else q.ex j⟩ ds e w) : W P n r (.block i c) q ds e w :=
  wpIn_block (wpIn_mono h fun x a w hq => by
    cases x with
    | normal => exact hq
    | ret => exact hq
    | exit j =>
      obtain ⟨ds, e, rfl, hq⟩ := hq
      simp only [Exit.inBlock]
      by_cases h : j = i
      · simp only [h, if_true] at hq ⊢; exact ⟨ds, e, rfl, hq⟩
      · simp only [h, if_false] at hq ⊢; exact ⟨ds, e, rfl, hq⟩
    | goto l => exact hq
    | panic ch => exact hq
    | outgrown => exact hq)

theorem W.loop {ι : Type} {c : Code} (I : ι → List Nat → Env → World → Prop) (m : ι → Nat) {i0 : ι} (h0 : I i0 ds e w)
    (step : ∀ i ds e w, I i ds e w → W P n r c ⟨fun ds' e' w' => ∃ j, m j < m i ∧ I j ds' e' w', q.ret, q.ex⟩ ds e w) : W P n r (.loop c) q ds e w := by
  classical
  let J : Act → World → Nat → Prop := fun a w k => ∃ i ds e, a = fr n e ds ∧ I i ds e w ∧ m i = k
  have hex : ∀ a w k, J a w k → ∃ k0, J a w k0 ∧ ∀ k', J a w k' → k0 ≤ k' := by
    intro a w k
    induction k using Nat.strongRecOn with
    | _ k ih =>
      intro hk
      by_cases h : ∃ k', k' < k ∧ J a w k'
      · obtain ⟨k', hlt, hk'⟩ := h; exact ih k' hlt hk'
      · exact ⟨k, hk, fun k' hk' => Nat.le_of_not_lt fun hlt => h ⟨k', hlt, hk'⟩⟩
  let μ : Act → World → Nat := fun a w => if h : ∃ k, J a w k then Classical.choose (hex a w _ h.choose_spec) else 0
  have hμ : ∀ a w k, J a w k → J a w (μ a w) ∧ μ a w ≤ k := by
    intro a w k hk
    have h : ∃ k, J a w k := ⟨k, hk⟩
    have hs := Classical.choose_spec (hex a w _ h.choose_spec)
    simp only [μ, dif_pos h]
    exact ⟨hs.1, hs.2 _ hk⟩
  refine wpIn_loop (fun a w => ∃ k, J a w k) μ ⟨_, i0, ds, e, rfl, h0, rfl⟩ ?_
  rintro a w ⟨k, hk⟩
  obtain ⟨⟨i, ds, e, rfl, hI, hm⟩, _⟩ := hμ a w k hk
  refine wpIn_mono (step i ds e w hI) fun x a w' hq => ?_
  cases x with
  | normal =>
    obtain ⟨ds', e', rfl, j, hlt, hj⟩ := hq
    refine ⟨⟨_, j, ds', e', rfl, hj, rfl⟩, ?_⟩
    have := (hμ (fr n e' ds') w' _ ⟨j, ds', e', rfl, hj, rfl⟩).2
    omega
  | ret => exact hq
  | exit i => exact hq
  | goto l => exact hq
  | panic ch => exact hq
  | outgrown => exact hq

theorem wpIn_scope {F : Fence} {m : Nat} {Q : Exit → Act → World → Prop} {a : Act} {c : Code} (hg : ∀ l a w, ¬ Q (.goto l) a w) (h : c.wpIn F m P Q a w) : (Code.scope c).wpIn F m P Q a w := by
  intro b k cs hro hb hr
  obtain ⟨x, a₁, w₁, hq, harr⟩ := h b (.inScope c :: k) cs hro hb hr
  have h0 : (lone (b.atR a (.code (.scope c) :: k)) cs w).fenced P F := fenced_calm hb hr rfl
  have s0 : step P (lone (b.atR a (.code (.scope c) :: k)) cs w) = .next (lone (b.atR a (.code c :: .inScope c :: k)) cs w) :=
    step_lone_go (by simp [stepG, stepG.exec, Frame.atR])
  cases x with
  | normal =>
    refine ⟨.normal, a₁, w₁, hq, .head h0 s0 (StepsIn.trans harr (.one (fenced_calm hb hr rfl) ?_))⟩
    exact step_lone_go (by simp [stepG, stepG.exec, Frame.atR])
  | ret => exact ⟨_, a₁, w₁, hq, .of_steps (.one h0 s0) harr⟩
  | exit i =>
    refine ⟨_, a₁, w₁, hq, .of_steps (.one h0 s0) ?_⟩
    simpa [ArrivesIn, exitTo] using harr
  | goto l => exact absurd hq (hg l a₁ w₁)
  | panic ch => exact ⟨_, a₁, w₁, hq, .of_steps (.one h0 s0) harr⟩
  | outgrown => exact ⟨_, a₁, w₁, hq, .of_steps (.one h0 s0) harr⟩

theorem W.scope {c : Code} (h : W P n r c q ds e w) : W P n r (.scope c) q ds e w :=
  wpIn_scope (fun _ _ _ h => h) h

end

end Sg
end Go.Proofs.YtkoejelglinmnaaGreat

/-
  The program logic, second part: calls, operations, regions in the order of the text, functions.
-/
namespace Go.Proofs.YtkoejelglinmnaaGreat
namespace Sg

/-- A call that returns. -/
def Ret (P : Program) (f : FuncId) (args : Array Value) (w : World) (R : Value → World → Prop) : Prop :=
  Calls P f args w fun e w' => ∃ v, e = .returned v ∧ R v w'

theorem Ret.mono {P : Program} {f : FuncId} {args : Array Value} {w : World} {R R' : Value → World → Prop} (h : Ret P f args w R)
    (hr : ∀ v w', R v w' → R' v w') : Ret P f args w R' :=
  Calls.mono h fun _ _ ⟨v, he, hv⟩ => ⟨v, he, hr _ _ hv⟩

/-- One round of a range over a function. -/
def Rnd (P : Program) (l : Nat) (f : FuncId) (tmps : Array Value) (assign body : Code) (w : World) (R : Value → World → Prop) : Prop :=
  RoundIn Fence.wide 0 P l f tmps assign body w fun e w' => ∃ v, e = .returned v ∧ R v w'

def noDefer (o : Oper) : Bool := match o.op with | .defer _ => false | _ => true

theorem noDefer_ne {o : Oper} (h : noDefer o = true) : ∀ c, o.op ≠ .defer c := by
  intro c hc
  simp [noDefer, hc] at h

def After (P : Program) (K : Value → World → Prop) : Result Next → Prop
  | .ok (.value v) w' => K v w'
  | .ok .skip w' => K undef w'
  | .ok (.enter f args) w' => Ret P f args w' K
  | .ok (.row row args) w' => Rows P row args w' K
  | .ok (.round l f tmps assign body) w' => Rnd P l f tmps assign body w' K
  | _ => False

def OpW (P : Program) (ρ : Operand → Value) (o : Oper) (w : World) (K : Value → World → Prop) : Prop := After P K ((execOp ρ o).run P w)

section
variable {P : Program} {n : Nat} {r : Option Nat} {q : Post} {ds : List Nat} {e : Env} {w : World}

theorem callsIn_fd {m : Nat} {f : FuncId} {args : Array Value} {R : Ending → World → Prop} (h : Calls P f args w R) : CallsIn (Fd r) m P f args w R := by
  have h' : CallsIn Fence.wide m P f args w R := callsIn_wide.2 h
  exact h'

theorem rowsIn_fd {m : Nat} {row : String} {args : Array Value} {R : Value → World → Prop} (h : Rows P row args w R) : RowsIn (Fd r) m P row args w R :=
  fun c cs _ => let ⟨v, w', hr, hs⟩ := h c cs; ⟨v, w', hr, stepsIn_wide.2 hs⟩

theorem roundIn_fd {m : Nat} {l : Nat} {f : FuncId} {tmps : Array Value} {assign body : Code} {R : Ending → World → Prop} (h : RoundIn Fence.wide 0 P l f tmps assign body w R) :
    RoundIn (Fd r) m P l f tmps assign body w R :=
  ⟨trivial, fun c cs _ => h.2 c cs (room_wide _)⟩

theorem After.mono {K K' : Value → World → Prop} {x : Result Next} (h : After P K x) (hk : ∀ v w, K v w → K' v w) : After P K' x := by
  cases x with
  | ok y w' =>
    cases y <;> simp only [After] at h ⊢
    case value v => exact hk _ _ h
    case skip => exact hk _ _ h
    case enter f args => exact Ret.mono h hk
    case row row args => exact Rows.mono h hk
    case round l f tmps assign body => exact RoundIn.mono h fun _ _ ⟨v, he, hv⟩ => ⟨v, he, hk _ _ hv⟩
  | halt => exact h.elim

theorem wpIn_of_OpW {o : Oper} {K : Value → World → Prop} {N : Act → World → Prop} {Q : Exit → Act → World → Prop} (hd : noDefer o = true)
    (h : OpW P (ev n e) o w K) (hK : ∀ v w', K v w' → N ((fr n e ds).put o.dst v) w') : o.wpIn (Fd r) 0 P (fr n e ds) w N Q := by
  refine ⟨fun _ _ => trivial, ?_⟩
  rw [Oper.semAt_eq _ _ _ (noDefer_ne hd), fr_eval]
  unfold OpW at h
  generalize (execOp (ev n e) o).run P w = x at h
  cases x with
  | ok y w' =>
    cases y <;> simp only [After, Oper.uponIn] at h ⊢
    case value v => exact hK _ _ h
    case skip => exact hK _ _ h
    case enter f args => exact ⟨fun hx => by simp [Fence.wide] at hx, callsIn_fd (Calls.mono h fun x w'' hx => by obtain ⟨v, rfl, hv⟩ := hx; exact hK _ _ hv)⟩
    case row row args => exact ⟨fun hx => by simp [Fence.wide] at hx, rowsIn_fd (Rows.mono h fun v w'' hv => hK _ _ hv)⟩
    case round l f tmps assign body => exact ⟨fun hx => by simp [Fence.wide] at hx, roundIn_fd (RoundIn.mono h fun x w'' hx => by obtain ⟨v, rfl, hv⟩ := hx; exact hK _ _ hv)⟩
  | halt => exact h.elim

/-- What operation j has left: a Bool, or not. -/
def yE (ops : Array Oper) (n : Nat) (e : Env) (j : Nat) : Option Bool :=
  match (ops[j]?).bind (·.dst) with
  | none => none
  | some t => match ev n e (.tmp t) with
    | .bool b => some b
    | _ => none

theorem yielded_fr (ops : Array Oper) (j : Nat) : yielded ops (fr n e ds).tmps j = yE ops n e j := by
  unfold yielded yE
  cases h : (ops[j]?).bind (·.dst) with
  | none => simp
  | some t =>
    simp only [Option.bind_some, fr, ofFn_get?]
    by_cases ht : t < n
    · have hb : Nat.blt t n = true := by rw [Nat.blt_eq]; exact ht
      simp only [if_pos ht, ev, hb, cond_true]
      cases e t <;> rfl
    · have hb : Nat.blt t n = false := by rw [← Bool.not_eq_true, Nat.blt_eq]; exact ht
      simp only [if_neg ht, ev, hb, cond_false, undef]

/-- The operations of a region, one behind the other. -/
def Flow (P : Program) (n : Nat) (ops : Array Oper) : List Oper → Env → World → (Env → World → Prop) → Prop
  | [], e, w, K => K e w
  | o :: rest, e, w, K =>
    if Region.wanted o (yE ops n e) then OpW P (ev n e) o w (fun v w' => Flow P n ops rest (updO e o.dst v) w' K)
    else Flow P n ops rest (updO e o.dst undef) w K

theorem wpListIn_of_flow {ops : Array Oper} {Q : Exit → Act → World → Prop} {K : Env → World → Prop} (hK : ∀ e w, K e w → Q .normal (fr n e ds) w) :
    ∀ (l : List Oper) (e : Env) (w : World), l.all noDefer = true → Flow P n ops l e w K → wpListIn (Fd r) 0 P ops Q l (fr n e ds) w
  | [], e, _, _, h => wpListIn_nil (hK e _ h)
  | o :: rest, e, w, hd, h => by
    simp only [List.all_cons, Bool.and_eq_true] at hd
    have hw : Region.wanted o (yielded ops (fr n e ds).tmps) = Region.wanted o (yE ops n e) := by
      congr 1; funext j; exact yielded_fr ops j
    simp only [Flow] at h
    simp only [wpListIn, hw]
    split
    · rename_i hwt
      rw [if_pos hwt] at h
      exact wpIn_of_OpW hd.1 h fun v w' hv => by rw [fr_put]; exact wpListIn_of_flow hK rest _ _ hd.2 hv
    · rename_i hwt
      rw [if_neg hwt] at h
      exact ⟨fun _ _ => trivial, by rw [fr_put]; exact wpListIn_of_flow hK rest _ _ hd.2 h⟩

theorem W.region {id : Nat} {ops : List Oper} (hd : ops.all noDefer = true) (h : Flow P n ops.toArray ops e w (fun e w => q.nrm ds e w)) :
    W P n r (.region id ops.toArray false) q ds e w :=
  wpIn_region_lit (wpListIn_of_flow (fun e w hq => ⟨ds, e, rfl, hq⟩) ops e w hd h)

/-- The function's end: the blocks of the rounds' deferred calls are taken in, then the results are handed back. -/
def Leave (P : Program) (fn : Func) (n : Nat) (R : Value → World → Prop) : List Nat → Env → World → Prop
  | [], e, w => ∃ v, (results fn (fr n e []).tmps).run P w = .ok v w ∧ R v w
  | D :: ds, e, w => w.heap[D]? = some (.deferred (some [])) ∧ Leave P fn n R ds e (w.putObj D (.deferred none))

theorem leavesInM_of {fn : Func} {R : Value → World → Prop} : ∀ (ds : List Nat) (w : World), Leave P fn n R ds e w →
    LeavesInM Fence.wide 0 P fn (fr n e []).tmps (fun x w' => ∃ v, x = .returned v ∧ R v w') (ds.map markOf) .returning w
  | [], _, ⟨v, hv, hR⟩ => ⟨v, hv, v, rfl, hR⟩
  | D :: ds, _, ⟨hD, h⟩ => by
    refine ⟨by simp, .inl ⟨D, _, rfl, run_takeDeferred hD, ?_⟩⟩
    exact leavesInM_of ds _ h

def env0 (args : Array Value) : Env := fun i => args.getD i undef

theorem fr_env0 {n : Nat} {args : Array Value} (h : args.size ≤ n) : ({ tmps := args ++ Array.replicate (n - args.size) undef, defers := [] } : Act) = fr n (env0 args) [] := by
  simp only [fr, List.map_nil, Act.mk.injEq, and_true]
  refine Array.ext (by simp; omega) (fun i h1 h2 => ?_)
  simp only [Array.size_append, Array.size_replicate] at h1
  rw [Array.getElem_ofFn]
  simp only [env0, Array.getD_eq_getD_getElem?]
  by_cases hi : i < args.size
  · rw [Array.getElem_append_left hi]; simp [hi]
  · rw [Array.getElem_append_right (by omega)]
    simp [Array.getElem?_eq_none (Nat.le_of_not_lt hi)]

/-- A function's contract out of its body. -/
theorem Ret.of_W {f : FuncId} {fn : Func} {n : Nat} {c : Code} {args : Array Value} {R : Value → World → Prop} (hf : P.funcs[f]? = some fn) (hb : fn.body = some c)
    (hn : fn.ntmps = n) (ha : args.size ≤ n) (h : W P n none c ⟨Leave P fn n R, Leave P fn n R, fun _ _ _ _ => False⟩ [] (env0 args) w) : Ret P f args w R := by
  subst hn
  refine (callsIn_wide (n := 0)).1 (callsIn_of_wp_marks (F := Fence.wide) hf hb trivial ?_ rfl)
  rw [fr_env0 ha]
  refine wpIn_mono h fun x a w hq => ?_
  cases x with
  | normal => obtain ⟨ds, e, rfl, hq⟩ := hq; exact leavesInM_of ds _ hq
  | ret => obtain ⟨ds, e, rfl, hq⟩ := hq; exact leavesInM_of ds _ hq
  | exit i => obtain ⟨ds, e, rfl, hq⟩ := hq; exact hq.elim
  | goto l => exact hq
  | panic ch => exact hq.elim
  | outgrown => exact hq.elim

/-! ### Rounds -/

/-- A round's end, by the way in which its body is left. -/
def RPost (l : Nat) (K : Value → World → Prop) : Post where
  nrm := fun _ _ w => ∃ r, w.heap[l]? = some (.loop r) ∧ K (.bool true) (w.putObj l (.loop { r with state := .ready, pending := none }))
  ret := fun _ _ w => ∃ r, w.heap[l]? = some (.loop r) ∧ K (.bool false) (w.putObj l (.loop { r with state := .done, pending := some .ret }))
  ex := fun i _ _ w => ∃ r, w.heap[l]? = some (.loop r) ∧ K (.bool false) (w.putObj l (.loop { r with state := .done, pending := some (.exit i) }))

theorem Rnd.of_W {l : Nat} {f : FuncId} {assign body : Code} {K : Value → World → Prop}
    (h : W P n (some l) assign ⟨fun ds' e' w' => ∃ r, w'.heap[l]? = some (.loop r) ∧ r.state = .ready ∧ W P n (some l) body (RPost l K) ds' e' (w'.putObj l (.loop { r with state := .busy })),
      fun _ _ _ => False, fun _ _ _ _ => False⟩ [] e w) : Rnd P l f (fr n e []).tmps assign body w K := by
  refine roundIn_of_wpIn trivial ?_
  refine wpIn_mono h fun x a w hq => ?_
  cases x with
  | normal =>
    obtain ⟨ds, e, rfl, r, hr, hs, hq⟩ := hq
    refine ⟨_, run_beginRound hr hs, ?_⟩
    refine wpIn_mono hq fun x a w hq => ?_
    cases x with
    | normal => obtain ⟨ds, e, rfl, r, hr, hq⟩ := hq; exact ⟨_, _, run_endRound none hr, _, rfl, hq⟩
    | ret => obtain ⟨ds, e, rfl, r, hr, hq⟩ := hq; exact ⟨_, _, run_endRound (some .ret) hr, _, rfl, hq⟩
    | exit i => obtain ⟨ds, e, rfl, r, hr, hq⟩ := hq; exact ⟨_, _, run_endRound (some (.exit i)) hr, _, rfl, hq⟩
    | goto l => exact hq.elim
    | panic ch => exact hq
    | outgrown => exact hq
  | ret => obtain ⟨_, _, _, hq⟩ := hq; exact hq.elim
  | exit i => obtain ⟨_, _, _, hq⟩ := hq; exact hq.elim
  | goto l => exact hq
  | panic ch => exact hq
  | outgrown => exact hq

/-- The pending jump is what the activation does next. -/
def Jump (q : Post) (ds : List Nat) (e : Env) (w : World) : Option Code → Prop
  | none => q.nrm ds e w
  | some .ret => q.ret ds e w
  | some (.exit i) => q.ex i ds e w
  | _ => False

/-- THE STATEMENT, at an outermost loop: the two blocks are laid, the iterator is called with yield, the record is shut, the pending jump is taken up. -/
theorem W.rangeFunc {g : Operand} {ps : Array Tmp} {assign body : Code} {gf : FuncId} {lb : Array Value} (hg : ev n e g = .func (.func gf) #[] lb)
    (hc : ∀ args w, (callFunc gf args).run P w = .ok (.enter gf args) w)
    (h : ∀ (rec : Loop), rec.state = .ready → rec.pending = none → rec.tmps = (fr n e ds).tmps → rec.params = ps → rec.assign = assign → rec.body = body →
      Ret P gf (#[.func (.yield (w.heap.size + 1)) #[] #[]] ++ lb) ((w.alloc (.deferred (some []))).alloc (.loop rec)) fun _ w3 =>
        ∃ r3, w3.heap[w.heap.size + 1]? = some (.loop r3) ∧ r3.state ≠ .busy ∧
          Jump q (w.heap.size :: ds) e (w3.putObj (w.heap.size + 1) (.loop { r3 with state := .exhausted })) r3.pending) :
    W P n none (.rangeFunc g ps assign body) q ds e w := by
  refine wpIn_rangeFunc (F := Fence.wide) ?_
  intro fn _
  let rec0 : Loop := { state := .ready, pending := none, fn, tmps := (fr n e ds).tmps, params := ps, assign, body, defers := w.heap.size }
  let w1 : World := (w.alloc (.deferred (some []))).alloc (.loop rec0)
  refine ⟨w.heap.size + 1, [markOf w.heap.size], w1, { target := .fn (.func gf) lb, args := #[.func (.yield (w.heap.size + 1)) #[] #[]] }, w1, gf,
    #[.func (.yield (w.heap.size + 1)) #[] #[]] ++ lb, w1, run_enterLoop_outer fn _ ps assign body, ?_, fun _ _ => trivial, ?_, fun hx => by simp [Fence.wide] at hx, ?_⟩
  · simp only [resolve, fr_eval, hg]
    simp [go_sem, ev]
  · simp [invoke, go_sem, hc]
  · refine callsIn_fd (r := none) ?_
    refine Calls.mono (h rec0 rfl rfl rfl rfl rfl rfl) ?_
    rintro x w3 ⟨v, rfl, r3, hr3, hb, hj⟩
    refine ⟨r3.pending, _, run_endLoop hr3 hb, ?_⟩
    cases hp : r3.pending with
    | none => rw [hp] at hj; exact ⟨w.heap.size :: ds, e, rfl, hj⟩
    | some c =>
      rw [hp] at hj
      cases c with
      | ret => exact wpIn_ret ⟨w.heap.size :: ds, e, rfl, hj⟩
      | exit i => exact wpIn_exit ⟨w.heap.size :: ds, e, rfl, hj⟩
      | _ => exact hj.elim

end

end Sg
end Go.Proofs.YtkoejelglinmnaaGreat

/-
  The program logic, third part: one rule for each kind of operation.
-/
namespace Go.Proofs.YtkoejelglinmnaaGreat
namespace Sg

/-! ### Facts on types -/
def isAggD : TypeDesc → Bool
  | .struct _ | .array _ _ => true
  | _ => false

/-- Type t: its shape, how many cells, its zero value's cells. -/
structure Ty (P : Program) (t : TypeId) (agg : Bool) (size : Nat) (zero : Value) : Prop where
  und : ∃ d, P.underlying t = some d ∧ isAggD d = agg
  info : ∃ i, P.info? t = some i ∧ i.size = size ∧ i.zero = some zero

structure SliceTy (P : Program) (t : TypeId) (size : Nat) (bytes : Nat) (zero : Value) : Prop where
  ex : ∃ e i, P.underlying t = some (.slice e) ∧ P.info? e = some i ∧ i.size = size ∧ i.bytes = bytes ∧ i.zero = some zero

structure FieldOf (P : Program) (s : TypeId) (f off : Nat) : Prop where
  ex : ∃ fs fd i, P.underlying s = some (.struct fs) ∧ fs[f]? = some fd ∧ fd.offset = off ∧ P.info? fd.type = some i ∧ i.size ≠ 0

/-! ### Memory -/
/-- Block b holds just these cells. -/
def Blk (w : World) (b : Nat) (cs : List Value) (t : TypeId) : Prop := w.heap[b]? = some (.cells cs.toArray t (0, 0))

/-- The cells from o on, in whatever block. -/
def Cells (w : World) (b : Nat) : Nat → List Value → Prop
  | _, [] => True
  | o, v :: l => w.cell? ⟨b, o, none⟩ = some v ∧ Cells w b (o + 1) l

/-- From w to w' nothing has changed but in blocks of S (and new ones). -/
structure Chg (S : List Nat) (w w' : World) : Prop where
  size : w.heap.size ≤ w'.heap.size
  same : ∀ b, b < w.heap.size → b ∉ S → w'.heap[b]? = w.heap[b]?
  os : w'.os = w.os
  tape : w'.tape = w.tape
  output : w'.output = w.output

theorem Chg.refl (S : List Nat) (w : World) : Chg S w w := ⟨Nat.le_refl _, fun _ _ _ => rfl, rfl, rfl, rfl⟩

theorem Chg.trans {S T : List Nat} {w w' w'' : World} (h : Chg S w w') (k : Chg T w' w'') (hT : ∀ b, b < w.heap.size → b ∈ T → b ∈ S) : Chg S w w'' :=
  ⟨Nat.le_trans h.size k.size, fun b hb hS => (k.same b (Nat.lt_of_lt_of_le hb h.size) (fun hb' => hS (hT b hb hb'))).trans (h.same b hb hS),
    k.os.trans h.os, k.tape.trans h.tape, k.output.trans h.output⟩

theorem Chg.mono {S T : List Nat} {w w' : World} (h : Chg S w w') (hT : ∀ b, b < w.heap.size → b ∈ S → b ∈ T) : Chg T w w' :=
  ⟨h.size, fun b hb hb' => h.same b hb fun hs => hb' (hT b hb hs), h.os, h.tape, h.output⟩

theorem Chg.alloc (w : World) (o : Obj) (S : List Nat) : Chg S w (w.alloc o) :=
  ⟨by simp, fun b hb _ => RowKit.Below.heap_alloc w o b hb, rfl, rfl, rfl⟩

theorem Chg.drew (S : List Nat) (w : World) (k : Nat) : Chg S w { w with drawn := k } := ⟨Nat.le_refl _, fun _ _ _ => rfl, rfl, rfl, rfl⟩

theorem Chg.putObj (w : World) (l : Nat) (o : Obj) : Chg [l] w (w.putObj l o) :=
  ⟨by simp, fun b _ hne => World.putObj_heap_other (by simpa using hne), rfl, rfl, rfl⟩

theorem Chg.step {T : List Nat} {w0 w w' : World} (h : Chg [] w0 w) (k : Chg T w w') (hT : ∀ b ∈ T, w0.heap.size ≤ b) : Chg [] w0 w' :=
  h.trans k fun b hb hbT => absurd (hT b hbT) (Nat.not_le_of_lt hb)

theorem Chg.then {w0 w w' : World} (h : Chg [] w0 w) (k : Chg [] w w') : Chg [] w0 w' := h.trans k fun _ _ h => h

theorem Blk.lt {w : World} {b : Nat} {cs : List Value} {t : TypeId} (h : Blk w b cs t) : b < w.heap.size := (Array.getElem?_eq_some_iff.1 h).1

theorem Blk.chg {w w' : World} {b : Nat} {cs : List Value} {t : TypeId} {S : List Nat} (h : Blk w b cs t) (hc : Chg S w w') (hb : b ∉ S) : Blk w' b cs t :=
  (hc.same b h.lt hb).trans h

theorem Blk.cell {w : World} {b : Nat} {cs : List Value} {t : TypeId} (h : Blk w b cs t) (o : Nat) : w.cell? ⟨b, o, none⟩ = cs[o]? := by
  simp [World.cell?, show w.heap[b]? = _ from h]

theorem Blk.frozen {w : World} {b : Nat} {cs : List Value} {t : TypeId} (h : Blk w b cs t) (o : Nat) : w.frozen? ⟨b, o, none⟩ = false := by
  simp [World.frozen?, show w.heap[b]? = _ from h]

theorem Blk.alloc (w : World) (cs : List Value) (t : TypeId) : Blk (w.alloc (.cells cs.toArray t)) w.heap.size cs t := by
  exact World.alloc_heap_new w _

theorem Blk.set {w : World} {b : Nat} {cs : List Value} {t : TypeId} (h : Blk w b cs t) (o : Nat) (v : Value) : Blk (w.setCell ⟨b, o, none⟩ v) b (cs.set o v) t := by
  simp only [Blk, World.setCell] at *
  rw [Array.getElem?_modify]
  simp [h]

theorem Chg.setCell (w : World) (a : Addr) (v : Value) : Chg [a.block] w (w.setCell a v) :=
  ⟨by simp [World.setCell], fun b hb hne => by
    simp only [World.setCell, Array.getElem?_modify]
    rw [if_neg (by simp at hne; exact fun h => hne h.symm)], rfl, rfl, rfl⟩

theorem cell_lt {w : World} {a : Addr} {v : Value} (h : w.cell? a = some v) : a.block < w.heap.size := by
  simp only [World.cell?] at h
  cases hh : w.heap[a.block]? with
  | none => simp [hh] at h
  | some o => exact (Array.getElem?_eq_some_iff.1 hh).1

theorem cell_chg {w w' : World} {a : Addr} {v : Value} {S : List Nat} (h : w.cell? a = some v) (hc : Chg S w w') (hb : a.block ∉ S) : w'.cell? a = some v := by
  have := hc.same _ (cell_lt h) hb
  simpa [World.cell?, this] using h

theorem Cells.chg {w w' : World} {b : Nat} {S : List Nat} (hc : Chg S w w') (hb : b ∉ S) : ∀ {l : List Value} {o : Nat}, Cells w b o l → Cells w' b o l
  | [], _, _ => trivial
  | _ :: _, _, ⟨h, k⟩ => ⟨cell_chg h hc hb, Cells.chg hc hb k⟩

theorem Blk.cells {w : World} {b : Nat} {t : TypeId} : ∀ {l pre post : List Value}, Blk w b (pre ++ (l ++ post)) t → Cells w b pre.length l
  | [], _, _, _ => trivial
  | v :: l, pre, post, h => by
    refine ⟨by rw [h.cell]; simp, ?_⟩
    have h' : Blk w b ((pre ++ [v]) ++ (l ++ post)) t := by simpa using h
    have := Blk.cells (pre := pre ++ [v]) h'
    simpa using this

theorem Blk.cells0 {w : World} {b : Nat} {t : TypeId} {l : List Value} (h : Blk w b l t) : Cells w b 0 l := Blk.cells (pre := []) (post := []) (by simpa using h)

section
variable {P : Program} {n : Nat} {ops rest : List Oper} {A : Array Oper} {e : Env} {w : World} {K : Env → World → Prop} {d : Option Tmp} {ty : TypeId} {pos : String} {aft : Array Edge}

theorem OpW.of {ρ : Operand → Value} {o : Oper} {K : Value → World → Prop} {v : Value} {w' : World} (h : (execOp ρ o).run P w = .ok (.value v) w') (hK : K v w') : OpW P ρ o w K := by
  unfold OpW; rw [h]; exact hK

theorem Flow.op {o : Oper} (hg : o.guard = none) (h : OpW P (ev n e) o w fun v w' => Flow P n A rest (updO e o.dst v) w' K) : Flow P n A (o :: rest) e w K := by
  simp only [Flow, Region.wanted, hg, if_true]; exact h

theorem Flow.val {o : Oper} {v : Value} {w' : World} (hg : o.guard = none) (hr : (execOp (ev n e) o).run P w = .ok (.value v) w')
    (h : Flow P n A rest (updO e o.dst v) w' K) : Flow P n A (o :: rest) e w K := Flow.op hg (OpW.of hr h)

theorem Flow.on {op : Op} {j t : Nat} {b : Bool} (hd : (A[j]?).bind (·.dst) = some t) (hv : ev n e (.tmp t) = .bool b)
    (h : Flow P n A (⟨d, op, ty, pos, aft, none⟩ :: rest) e w K) : Flow P n A (⟨d, op, ty, pos, aft, some (j, b)⟩ :: rest) e w K := by
  have hy : yE A n e j = some b := by simp only [yE, hd, hv]
  have h' : OpW P (ev n e) ⟨d, op, ty, pos, aft, none⟩ w fun v w' => Flow P n A rest (updO e d v) w' K := by simpa only [Flow, Region.wanted, if_true] using h
  have h'' : OpW P (ev n e) ⟨d, op, ty, pos, aft, some (j, b)⟩ w fun v w' => Flow P n A rest (updO e d v) w' K := h'
  simp only [Flow, Region.wanted, hy]
  simpa using h''

theorem Flow.off {op : Op} {j t : Nat} {b c : Bool} (hd : (A[j]?).bind (·.dst) = some t) (hv : ev n e (.tmp t) = .bool c) (hbc : (c == b) = false)
    (h : Flow P n A rest (updO e d undef) w K) : Flow P n A (⟨d, op, ty, pos, aft, some (j, b)⟩ :: rest) e w K := by
  have hy : yE A n e j = some c := by simp only [yE, hd, hv]
  simp only [Flow, Region.wanted, hy]
  have : (some c == some b) = false := by simpa using hbc
  simp only [this]
  exact h

theorem Flow.nil (h : K e w) : Flow P n A [] e w K := h

theorem Flow.move {x : Operand} {v : Value} (hx : ev n e x = v) (h : Flow P n A rest (updO e d v) w K) : Flow P n A (⟨d, .move x, ty, pos, aft, none⟩ :: rest) e w K :=
  Flow.val rfl (by simp [execOp, pure, hx]) h

theorem Flow.assign {x : Operand} {v : Value} (hx : ev n e x = v) (h : Flow P n A rest (updO e d v) w K) : Flow P n A (⟨d, .assign x, ty, pos, aft, none⟩ :: rest) e w K :=
  Flow.val rfl (by simp [execOp, pure, hx]) h

theorem Flow.pickT {c x y : Operand} {v : Value} (hc : ev n e c = .bool true) (hx : ev n e x = v) (h : Flow P n A rest (updO e d v) w K) :
    Flow P n A (⟨d, .pick c x y, ty, pos, aft, none⟩ :: rest) e w K :=
  Flow.val rfl (by simp [execOp, go_sem, hc, hx]) h

theorem Flow.pickF {c x y : Operand} {v : Value} (hc : ev n e c = .bool false) (hx : ev n e y = v) (h : Flow P n A rest (updO e d v) w K) :
    Flow P n A (⟨d, .pick c x y, ty, pos, aft, none⟩ :: rest) e w K :=
  Flow.val rfl (by simp [execOp, go_sem, hc, hx]) h

theorem Flow.pick {c x y : Operand} {b : Bool} (hc : ev n e c = .bool b) (h : Flow P n A rest (updO e d (if b then ev n e x else ev n e y)) w K) :
    Flow P n A (⟨d, .pick c x y, ty, pos, aft, none⟩ :: rest) e w K :=
  Flow.val rfl (by simp [execOp, go_sem, hc]) h

theorem Flow.not {t : TypeId} {x : Operand} {b : Bool} (hx : ev n e x = .bool b) (h : Flow P n A rest (updO e d (.bool !b)) w K) :
    Flow P n A (⟨d, .unOp .not t x, ty, pos, aft, none⟩ :: rest) e w K :=
  Flow.val rfl (by simp [execOp, go_sem, hx, Op.unary]) h

section arith
variable {t t' : TypeId} {x y : Operand} {k : IntKind} {a b : Int}

theorem wrap_i64 {z : Int} (h1 : -9223372036854775808 ≤ z) (h2 : z ≤ 9223372036854775807) : IntKind.i64.wrap z = z := IntWalk.i64_in z ⟨h1, h2⟩

theorem Flow.add (hx : ev n e x = .int .i64 a) (hy : ev n e y = .int .i64 b) (h1 : -9223372036854775808 ≤ a + b) (h2 : a + b ≤ 9223372036854775807)
    (h : Flow P n A rest (updO e d (.int .i64 (a + b))) w K) : Flow P n A (⟨d, .binOp .add t x y t', ty, pos, aft, none⟩ :: rest) e w K :=
  Flow.val rfl (by simp [execOp, go_sem, hx, hy, binOp, Op.intArith, eqGuard]; exact wrap_i64 h1 h2) h

theorem Flow.sub (hx : ev n e x = .int .i64 a) (hy : ev n e y = .int .i64 b) (h1 : -9223372036854775808 ≤ a - b) (h2 : a - b ≤ 9223372036854775807)
    (h : Flow P n A rest (updO e d (.int .i64 (a - b))) w K) : Flow P n A (⟨d, .binOp .sub t x y t', ty, pos, aft, none⟩ :: rest) e w K :=
  Flow.val rfl (by simp [execOp, go_sem, hx, hy, binOp, Op.intArith, eqGuard]; exact wrap_i64 h1 h2) h

theorem Flow.addW (hx : ev n e x = .int k a) (hy : ev n e y = .int k b)
    (h : Flow P n A rest (updO e d (.int k (k.wrap (a + b)))) w K) : Flow P n A (⟨d, .binOp .add t x y t', ty, pos, aft, none⟩ :: rest) e w K :=
  Flow.val rfl (by simp [execOp, go_sem, hx, hy, binOp, Op.intArith, eqGuard]) h

theorem Flow.subW (hx : ev n e x = .int k a) (hy : ev n e y = .int k b)
    (h : Flow P n A rest (updO e d (.int k (k.wrap (a - b)))) w K) : Flow P n A (⟨d, .binOp .sub t x y t', ty, pos, aft, none⟩ :: rest) e w K :=
  Flow.val rfl (by simp [execOp, go_sem, hx, hy, binOp, Op.intArith, eqGuard]) h

theorem Flow.rem (hx : ev n e x = .int k a) (hy : ev n e y = .int k b) (hb : b ≠ 0)
    (h : Flow P n A rest (updO e d (.int k (a.tmod b))) w K) : Flow P n A (⟨d, .binOp .rem t x y t', ty, pos, aft, none⟩ :: rest) e w K :=
  Flow.val rfl (by simp [execOp, go_sem, hx, hy, binOp, Op.intDiv, eqGuard, hb]) h

theorem Flow.lss (hx : ev n e x = .int k a) (hy : ev n e y = .int k b) (h : Flow P n A rest (updO e d (.bool (decide (a < b)))) w K) :
    Flow P n A (⟨d, .binOp .lss t x y t', ty, pos, aft, none⟩ :: rest) e w K :=
  Flow.val rfl (by simp [execOp, go_sem, hx, hy, binOp, Op.intCmp, eqGuard]) h
theorem Flow.leq (hx : ev n e x = .int k a) (hy : ev n e y = .int k b) (h : Flow P n A rest (updO e d (.bool (decide (a ≤ b)))) w K) :
    Flow P n A (⟨d, .binOp .leq t x y t', ty, pos, aft, none⟩ :: rest) e w K :=
  Flow.val rfl (by simp [execOp, go_sem, hx, hy, binOp, Op.intCmp, eqGuard]) h
theorem Flow.gtr (hx : ev n e x = .int k a) (hy : ev n e y = .int k b) (h : Flow P n A rest (updO e d (.bool (decide (b < a)))) w K) :
    Flow P n A (⟨d, .binOp .gtr t x y t', ty, pos, aft, none⟩ :: rest) e w K :=
  Flow.val rfl (by simp [execOp, go_sem, hx, hy, binOp, Op.intCmp, eqGuard]) h
theorem Flow.geq (hx : ev n e x = .int k a) (hy : ev n e y = .int k b) (h : Flow P n A rest (updO e d (.bool (decide (b ≤ a)))) w K) :
    Flow P n A (⟨d, .binOp .geq t x y t', ty, pos, aft, none⟩ :: rest) e w K :=
  Flow.val rfl (by simp [execOp, go_sem, hx, hy, binOp, Op.intCmp, eqGuard]) h
theorem Flow.eql (hx : ev n e x = .int k a) (hy : ev n e y = .int k b) (h : Flow P n A rest (updO e d (.bool (decide (a = b)))) w K) :
    Flow P n A (⟨d, .binOp .eql t x y t', ty, pos, aft, none⟩ :: rest) e w K :=
  Flow.val rfl (by simp [execOp, go_sem, hx, hy, binOp, Op.intCmp, eqGuard]; rfl) h
theorem Flow.neq (hx : ev n e x = .int k a) (hy : ev n e y = .int k b) (h : Flow P n A rest (updO e d (.bool (decide (a ≠ b)))) w K) :
    Flow P n A (⟨d, .binOp .neq t x y t', ty, pos, aft, none⟩ :: rest) e w K :=
  Flow.val rfl (by simp [execOp, go_sem, hx, hy, binOp, Op.intCmp, eqGuard, bne, BEq.beq]) h
end arith

theorem Flow.extract {x : Operand} {i : Nat} {vs : Array Value} {v : Value} (hx : ev n e x = .tuple vs) (hv : vs[i]? = some v) (h : Flow P n A rest (updO e d v) w K) :
    Flow P n A (⟨d, .extract x i, ty, pos, aft, none⟩ :: rest) e w K :=
  Flow.val rfl (by simp [execOp, go_sem, hx, Instr.extract, hv]) h

theorem Flow.nilCheck {x : Operand} {a : Addr} (hx : ev n e x = .pointer (some a)) (h : Flow P n A rest (updO e d (.pointer (some a))) w K) :
    Flow P n A (⟨d, .nilCheck x, ty, pos, aft, none⟩ :: rest) e w K :=
  Flow.val rfl (by simp [execOp, go_sem, hx]) h

theorem Flow.makeFunc {fn : Go.Fn} {c : Array Operand} {cs : Array Value} (hc : c.map (ev n e) = cs) (h : Flow P n A rest (updO e d (.func fn #[] cs)) w K) :
    Flow P n A (⟨d, .makeFunc fn #[] c, ty, pos, aft, none⟩ :: rest) e w K :=
  Flow.val rfl (by simp [execOp, go_sem, Instr.makeFunc, hc]) h

end
end Sg
end Go.Proofs.YtkoejelglinmnaaGreat

/-
  The program logic, fourth part: operations that read and write memory; calls.
-/
namespace Go.Proofs.YtkoejelglinmnaaGreat
namespace Sg

section
variable {P : Program} {n : Nat} {ops rest : List Oper} {A : Array Oper} {e : Env} {w : World} {K : Env → World → Prop} {d : Option Tmp} {ty : TypeId} {pos : String} {aft : Array Edge}

/-! ### runs -/
theorem run_underlying {t : TypeId} {dd : TypeDesc} (h : P.underlying t = some dd) : (underlying t).run P w = .ok dd w := by
  simp [underlying, Sem.run_bind, program, Sem.run, Result.andThen, h, pure]

theorem run_typeInfo {t : TypeId} {i : TypeInfo} (h : P.info? t = some i) : (typeInfo t).run P w = .ok i w := by
  simp [typeInfo, Sem.run_bind, program, Sem.run, Result.andThen, h, pure]

theorem run_sizeOf {t : TypeId} {i : TypeInfo} (h : P.info? t = some i) : (sizeOf t).run P w = .ok i.size w := by
  simp [sizeOf, Sem.run_bind, run_typeInfo h, Result.andThen, pure, Sem.run]

theorem run_zeroValue {t : TypeId} {i : TypeInfo} {z : Value} (h : P.info? t = some i) (hz : i.zero = some z) : (zeroValue t).run P w = .ok z w := by
  simp [zeroValue, Sem.run_bind, run_typeInfo h, Result.andThen, pure, Sem.run, hz]

theorem run_isAgg {t : TypeId} {b : Bool} {s : Nat} {z : Value} (h : Ty P t b s z) : (isAgg t).run P w = .ok b w := by
  obtain ⟨dd, hd, hb⟩ := h.und
  subst hb
  cases dd <;> simp [isAgg, Sem.run_bind, run_underlying hd, Result.andThen, isAggD, pure, Sem.run]

theorem run_load {a : Addr} {v : Value} (h : w.cell? a = some v) : (load a).run P w = .ok v w := by
  simp [load, Sem.run, h]

theorem addr_add (b o k : Nat) : (⟨b, o, none⟩ : Addr).add k = ⟨b, o + k, none⟩ := by
  unfold Addr.add; split
  · rename_i h; simp [h]
  · rfl

theorem run_loadCellsFrom {b o : Nat} : ∀ {l : List Value} {i : Nat} {acc : Array Value}, Cells w b (o + i) l →
    (loadCellsFrom ⟨b, o, none⟩ i l.length acc).run P w = .ok (acc ++ l.toArray) w
  | [], _, _, _ => by simp [loadCellsFrom, Sem.run, pure]
  | v :: l, i, acc, ⟨h, k⟩ => by
    have ih := run_loadCellsFrom (acc := acc.push v) (i := i + 1) (l := l) (by simpa [Nat.add_assoc] using k)
    simp only [List.length_cons, loadCellsFrom, Sem.run_bind, addr_add, run_load h, Result.andThen, ih]
    simp

theorem run_loadAgg {t : TypeId} {s : Nat} {z : Value} {b o : Nat} {l : List Value} (ht : Ty P t true s z) (hs : l.length = s) (h : Cells w b o l) :
    (loadVar t ⟨b, o, none⟩).run P w = .ok (.agg l.toArray) w := by
  obtain ⟨i, hi, his, _⟩ := ht.info
  have hc := run_loadCellsFrom (P := P) (w := w) (b := b) (o := o) (i := 0) (acc := #[]) (l := l) h
  simp only [loadVar, Sem.run_bind, run_isAgg ht, Result.andThen, if_true, run_sizeOf hi, his, ← hs, loadCells, hc]
  simp [pure, Sem.run]

theorem run_load1 {t : TypeId} {s : Nat} {z : Value} {a : Addr} {v : Value} (ht : Ty P t false s z) (h : w.cell? a = some v) : (loadVar t a).run P w = .ok v w := by
  simp [loadVar, Sem.run_bind, run_isAgg ht, Result.andThen, run_load h]

theorem Flow.load1 {t : TypeId} {s : Nat} {z : Value} {x : Operand} {a : Addr} {v : Value} (ht : Ty P t false s z) (hx : ev n e x = .pointer (some a)) (hc : w.cell? a = some v)
    (h : Flow P n A rest (updO e d v) w K) : Flow P n A (⟨d, .load t x, ty, pos, aft, none⟩ :: rest) e w K :=
  Flow.val rfl (by simp [execOp, hx, Instr.loadAt, Instr.sureAddr, Sem.run_bind, run_load1 ht hc, Result.andThen, pure, Sem.run]) h

theorem Flow.loadA {t : TypeId} {s : Nat} {z : Value} {x : Operand} {b o : Nat} {l : List Value} (ht : Ty P t true s z) (hx : ev n e x = .pointer (some ⟨b, o, none⟩))
    (hs : l.length = s) (hc : Cells w b o l) (h : Flow P n A rest (updO e d (.agg l.toArray)) w K) : Flow P n A (⟨d, .load t x, ty, pos, aft, none⟩ :: rest) e w K :=
  Flow.val rfl (by simp [execOp, hx, Instr.loadAt, Instr.sureAddr, Sem.run_bind, run_loadAgg ht hs hc, Result.andThen, pure, Sem.run]) h

theorem Flow.fieldAddr {s : TypeId} {f off : Nat} {x : Operand} {b o : Nat} (hF : FieldOf P s f off) (hx : ev n e x = .pointer (some ⟨b, o, none⟩))
    (h : Flow P n A rest (updO e d (.pointer (some ⟨b, o + off, none⟩))) w K) : Flow P n A (⟨d, .fieldAddr s x f, ty, pos, aft, none⟩ :: rest) e w K := by
  obtain ⟨fs, fd, i, h1, h2, h3, h4, h5⟩ := hF.ex
  refine Flow.val rfl (v := .pointer (some ⟨b, o + off, none⟩)) (w' := w) ?_ h
  simp [execOp, hx, Instr.fieldAt, Instr.sureAddr, Sem.run_bind, run_underlying h1, Result.andThen, pure, Sem.run, h2, fieldPlace, run_sizeOf h4, h5, addr_add, h3]

theorem Flow.len {x : Operand} {t : TypeId} {ats : Array TypeId} {dd : TypeDesc} {a : Option Addr} {l c : Nat} (ht : ats[0]? = some t) (hd : P.underlying t = some dd) (hs : (match dd with | .slice _ => true | _ => false) = true)
    (hx : ev n e x = .slice a l c) (h : Flow P n A rest (updO e d (.int .i64 l)) w K) :
    Flow P n A (⟨d, .call { callee := .builtin .len, args := #[x], argTypes := ats }, ty, pos, aft, none⟩ :: rest) e w K := by
  refine Flow.val rfl (v := .int .i64 l) (w' := w) ?_ h
  cases dd <;> simp at hs
  simp [execOp, resolve, Sem.run_bind, Result.andThen, pure, Sem.run, invoke, builtin, Builtin.len_, ht, hx, run_underlying hd, goInt]

theorem run_newRow (t : TypeId) (cs : Array Value) : (newRow t cs).run P w = .ok ⟨w.heap.size, 0, none⟩ (w.alloc (.cells cs t)) := by
  simp [newRow, newObj, Sem.run_bind, Sem.run, Result.andThen, pure]

/-- A new block. -/
theorem Flow.box {t : TypeId} {x : Operand} {v : Value} {cs : List Value} (hx : ev n e x = v) (hcs : v.cells.toList = cs)
    (h : ∀ w', Chg [] w w' → w'.heap.size = w.heap.size + 1 → Blk w' w.heap.size cs t → Flow P n A rest (updO e d (.pointer (some ⟨w.heap.size, 0, none⟩))) w' K) :
    Flow P n A (⟨d, .box t x, ty, pos, aft, none⟩ :: rest) e w K := by
  refine Flow.val rfl (v := .pointer (some ⟨w.heap.size, 0, none⟩)) (w' := w.alloc (.cells v.cells t)) ?_ (h _ (Chg.alloc _ _ _) (by simp) ?_)
  · simp [execOp, hx, Instr.box, newVar, Sem.run_bind, run_newRow, Result.andThen, pure, Sem.run]
  · have := Blk.alloc w cs t
    rw [← hcs] at this ⊢
    simpa using this

theorem Flow.alloc {t : TypeId} {b : Bool} {s : Nat} {z : Value} {cs : List Value} (ht : Ty P t b s z) (hcs : z.cells.toList = cs)
    (h : ∀ w', Chg [] w w' → w'.heap.size = w.heap.size + 1 → Blk w' w.heap.size cs t → Flow P n A rest (updO e d (.pointer (some ⟨w.heap.size, 0, none⟩))) w' K) :
    Flow P n A (⟨d, .alloc t, ty, pos, aft, none⟩ :: rest) e w K := by
  obtain ⟨i, hi, _, hz⟩ := ht.info
  refine Flow.val rfl (v := .pointer (some ⟨w.heap.size, 0, none⟩)) (w' := w.alloc (.cells z.cells t)) ?_ (h _ (Chg.alloc _ _ _) (by simp) ?_)
  · simp [execOp, Instr.alloc, newVar, Sem.run_bind, run_zeroValue hi hz, run_newRow, Result.andThen, pure, Sem.run]
  · have := Blk.alloc w cs t
    rw [← hcs] at this ⊢
    simpa using this

/-- The value of one cell. -/
def oneV : Value → Bool
  | .agg _ | .tuple _ => false
  | _ => true

theorem run_store {b o : Nat} {cs : List Value} {t : TypeId} {v : Value} (hb : Blk w b cs t) (ho : o < cs.length) (hv : oneV v = true) :
    (store ⟨b, o, none⟩ v).run P w = .ok () (w.setCell ⟨b, o, none⟩ v) := by
  have hc : w.cell? ⟨b, o, none⟩ = some cs[o] := by rw [hb.cell]; simp [ho]
  have hf := hb.frozen o
  cases v <;> simp_all [store, Sem.run, oneV]

theorem run_storeCells {b o : Nat} {t : TypeId} : ∀ {l : List Value} {i : Nat} {w : World} {cs : List Value}, Blk w b cs t → o + i + l.length ≤ cs.length → (∀ v ∈ l, oneV v = true) →
    ∃ w', (storeCells ⟨b, o, none⟩ l i).run P w = .ok () w' ∧ Chg [b] w w' ∧ w'.heap.size = w.heap.size ∧ Blk w' b (cs.take (o + i) ++ l ++ cs.drop (o + i + l.length)) t
  | [], i, w, cs, hb, _, _ => ⟨w, by simp [storeCells, pure, Sem.run], Chg.refl _ _, rfl, by simpa using hb⟩
  | v :: l, i, w, cs, hb, hl, hv => by
    simp only [List.length_cons] at hl
    have h1 := run_store (P := P) hb (o := o + i) (by omega) (hv v (by simp))
    obtain ⟨w', hr, hc, hs, hb'⟩ := run_storeCells (o := o) (l := l) (i := i + 1) (hb.set (o + i) v) (by simp; omega) (fun x hx => hv x (List.mem_cons_of_mem _ hx))
    refine ⟨w', ?_, (Chg.setCell w ⟨b, o + i, none⟩ v).trans hc (fun _ _ h => h), by rw [hs]; simp [World.setCell], ?_⟩
    · simp [storeCells, Sem.run_bind, addr_add, h1, Result.andThen, hr]
    · have e1 : (cs.set (o + i) v).take (o + (i + 1)) = cs.take (o + i) ++ [v] := by
        rw [show o + (i + 1) = o + i + 1 from rfl, List.take_add_one]
        simp [List.take_set, show o + i < cs.length from by omega]
        rw [List.set_eq_of_length_le (by simp; omega)]
      have e2 : (cs.set (o + i) v).drop (o + (i + 1) + l.length) = cs.drop (o + i + (l.length + 1)) := by
        rw [List.drop_set_of_lt (by omega)]; congr 1; omega
      rw [e1, e2] at hb'
      simpa using hb'

/-- A store into a block of cells that is known whole. -/
theorem Flow.store {t tb : TypeId} {ag : Bool} {s : Nat} {z : Value} {x y : Operand} {b o : Nat} {v : Value} {cs vs : List Value} (ht : Ty P t ag s z)
    (hx : ev n e x = .pointer (some ⟨b, o, none⟩)) (hy : ev n e y = v) (hb : Blk w b cs tb) (hvs : v.cells.toList = vs) (hs : vs.length = s) (hl : o + s ≤ cs.length) (hv : vs.all oneV = true)
    (h : ∀ w', Chg [b] w w' → w'.heap.size = w.heap.size → Blk w' b (cs.take o ++ vs ++ cs.drop (o + s)) tb → Flow P n A rest (updO e d undef) w' K) :
    Flow P n A (⟨d, .store t x y, ty, pos, aft, none⟩ :: rest) e w K := by
  obtain ⟨i, hi, his, _⟩ := ht.info
  obtain ⟨w', hr, hc, hsz, hb'⟩ := run_storeCells (P := P) (o := o) (l := vs) (i := 0) hb (by omega) (fun v hv' => List.all_eq_true.1 hv v hv')
  refine Flow.op rfl ?_
  have hrun : (execOp (ev n e) ⟨d, .store t x y, ty, pos, aft, none⟩).run P w = .ok .skip w' := by
    have hsz : v.cells.size = i.size := by rw [his, ← hs, ← hvs]; simp
    simp [execOp, hx, hy, Instr.storeAt, Instr.sureAddr, Sem.run_bind, Result.andThen, pure, Sem.run, storeVar, run_sizeOf hi, hsz, hvs, hr]
  unfold OpW; rw [hrun]
  exact h w' hc hsz (by simpa [hs] using hb')

theorem Flow.indexAddr {t : TypeId} {s by_ : Nat} {z : Value} {x y : Operand} {b o l c : Nat} {k : IntKind} {i : Int} (ht : SliceTy P t s by_ z) (hx : ev n e x = .slice (some ⟨b, o, none⟩) l c) (hy : ev n e y = .int k i)
    (h0 : 0 ≤ i) (h1 : i < l) (h : Flow P n A rest (updO e d (.pointer (some ⟨b, o + i.toNat * s, none⟩))) w K) :
    Flow P n A (⟨d, .indexAddr t x y, ty, pos, aft, none⟩ :: rest) e w K := by
  obtain ⟨el, i', hu, hi, hs, _⟩ := ht.ex
  refine Flow.val rfl (v := .pointer (some ⟨b, o + i.toNat * s, none⟩)) (w' := w) ?_ h
  simp [execOp, hx, hy, Instr.indexAt, asIntOf, Sem.run_bind, run_underlying hu, Result.andThen, pure, Sem.run, h0, h1, run_sizeOf hi, addr_add, hs]

/-! ### Calls -/
theorem run_callFunc {f : FuncId} {fn : Func} {c : Code} {args : Array Value} (hf : P.funcs[f]? = some fn) (hb : fn.body = some c) (hn : (fn.name == "runtime.NumGoroutine") = false) :
    (callFunc f args).run P w = .ok (.enter f args) w := by
  have hn' : ¬ fn.name = "runtime.NumGoroutine" := by simpa using hn
  simp [callFunc, Sem.run_bind, program, Sem.run, Result.andThen, hf, hb, hn', pure]

structure HasBody (P : Program) (f : FuncId) : Prop where
  ex : ∃ fn c, P.funcs[f]? = some fn ∧ fn.body = some c ∧ (fn.name == "runtime.NumGoroutine") = false

theorem HasBody.call {f : FuncId} (h : HasBody P f) (args : Array Value) (w : World) : (callFunc f args).run P w = .ok (.enter f args) w := by
  obtain ⟨fn, c, h1, h2, h3⟩ := h.ex
  exact run_callFunc h1 h2 h3

theorem Flow.call {f : FuncId} {xs : Array Operand} {vs : Array Value} {ats : Array TypeId} (hb : HasBody P f) (hx : xs.map (ev n e) = vs)
    (h : Ret P f vs w fun v w' => Flow P n A rest (updO e d v) w' K) :
    Flow P n A (⟨d, .call { callee := .value (.func f), args := xs, argTypes := ats }, ty, pos, aft, none⟩ :: rest) e w K := by
  refine Flow.op rfl ?_
  unfold OpW
  have hrun : (execOp (ev n e) ⟨d, .call { callee := .value (.func f), args := xs, argTypes := ats }, ty, pos, aft, none⟩).run P w = .ok (.enter f vs) w := by
    simp [execOp, resolve, Sem.run_bind, ev, Deferred.ofValue, Result.andThen, pure, Sem.run, invoke, hx, hb.call]
  rw [hrun]; exact h

theorem Flow.callV {f : FuncId} {g : Operand} {cap : Array Value} {xs : Array Operand} {vs : Array Value} {ats : Array TypeId} (hg : ev n e g = .func (.func f) #[] cap) (hb : HasBody P f) (hx : xs.map (ev n e) = vs)
    (h : Ret P f (vs ++ cap) w fun v w' => Flow P n A rest (updO e d v) w' K) :
    Flow P n A (⟨d, .call { callee := .value g, args := xs, argTypes := ats }, ty, pos, aft, none⟩ :: rest) e w K := by
  refine Flow.op rfl ?_
  unfold OpW
  have hrun : (execOp (ev n e) ⟨d, .call { callee := .value g, args := xs, argTypes := ats }, ty, pos, aft, none⟩).run P w = .ok (.enter f (vs ++ cap)) w := by
    simp [execOp, resolve, Sem.run_bind, hg, Deferred.ofValue, Result.andThen, pure, Sem.run, invoke, hx, hb.call]
  rw [hrun]; exact h

/-- A call of yield. -/
theorem Flow.callY {l : Nat} {g : Operand} {xs : Array Operand} {vs : Array Value} {ats : Array TypeId} {r : Loop} (hg : ev n e g = .func (.yield l) #[] #[]) (hl : w.heap[l]? = some (.loop r)) (hx : xs.map (ev n e) = vs) (hs : vs.size = r.params.size)
    (h : Rnd P l r.fn ((r.params.zip vs).foldl (fun tmps (t, a) => tmps.setIfInBounds t a) r.tmps) r.assign r.body w fun v w' => Flow P n A rest (updO e d v) w' K) :
    Flow P n A (⟨d, .call { callee := .value g, args := xs, argTypes := ats }, ty, pos, aft, none⟩ :: rest) e w K := by
  refine Flow.op rfl ?_
  unfold OpW
  have hrun : (execOp (ev n e) ⟨d, .call { callee := .value g, args := xs, argTypes := ats }, ty, pos, aft, none⟩).run P w = .ok (.round l r.fn ((r.params.zip vs).foldl (fun tmps (t, a) => tmps.setIfInBounds t a) r.tmps) r.assign r.body) w := by
    simp [execOp, resolve, Sem.run_bind, hg, Deferred.ofValue, Result.andThen, pure, Sem.run, invoke, hx, run_yield hl hs]
  rw [hrun]; exact h

end
end Sg
end Go.Proofs.YtkoejelglinmnaaGreat

/-
  The program logic, fifth part: how facts on types and functions are laid (each by the kernel's own reckoning).
-/
namespace Go.Proofs.YtkoejelglinmnaaGreat
namespace Sg

theorem Ty.lay {P : Program} {t : TypeId} {agg : Bool} {size : Nat} {zero : Value} (h1 : (P.underlying t).map isAggD = some agg)
    (h2 : (P.info? t).map (fun i => (i.size, i.zero)) = some (size, some zero)) : Ty P t agg size zero := by
  refine ⟨?_, ?_⟩
  · cases h : P.underlying t with
    | none => simp [h] at h1
    | some d => exact ⟨d, rfl, by simpa [h] using h1⟩
  · cases h : P.info? t with
    | none => simp [h] at h2
    | some i =>
      simp only [h, Option.map_some, Option.some.injEq, Prod.mk.injEq] at h2
      exact ⟨i, rfl, h2.1, h2.2⟩

theorem SliceTy.lay {P : Program} {t el : TypeId} {size bytes : Nat} {zero : Value} (h1 : P.underlying t = some (.slice el))
    (h2 : (P.info? el).map (fun i => (i.size, i.bytes, i.zero)) = some (size, bytes, some zero)) : SliceTy P t size bytes zero := by
  cases h : P.info? el with
  | none => simp [h] at h2
  | some i =>
    simp only [h, Option.map_some, Option.some.injEq, Prod.mk.injEq] at h2
    exact ⟨el, i, h1, h, h2.1, h2.2.1, h2.2.2⟩

def fieldOff (P : Program) (s : TypeId) (f : Nat) : Option (Nat × Nat) :=
  match P.underlying s with
  | some (.struct fs) => (fs[f]?).bind fun fd => (P.info? fd.type).map fun i => (fd.offset, i.size)
  | _ => none

theorem FieldOf.lay {P : Program} {s : TypeId} {f off sz : Nat} (h : fieldOff P s f = some (off, sz + 1)) : FieldOf P s f off := by
  unfold fieldOff at h
  split at h
  · rename_i fs hfs
    cases h1 : fs[f]? with
    | none => simp [h1] at h
    | some fd =>
      cases h2 : P.info? fd.type with
      | none => simp [h1, h2] at h
      | some i =>
        simp only [h1, h2, Option.bind_some, Option.map_some, Option.some.injEq, Prod.mk.injEq] at h
        exact ⟨fs, fd, i, hfs, h1, h.1, h2, by omega⟩
  · cases h

theorem HasBody.lay {P : Program} {f : FuncId} (h : ((P.funcs[f]?).bind fun fn => if fn.name == "runtime.NumGoroutine" then none else fn.body.map fun _ => ()) = some ()) : HasBody P f := by
  cases h1 : P.funcs[f]? with
  | none => simp [h1] at h
  | some fn =>
    simp only [h1, Option.bind_some] at h
    split at h
    · cases h
    · rename_i hn
      cases h2 : fn.body with
      | none => simp [h2] at h
      | some c => exact ⟨fn, c, h1, h2, by simpa using hn⟩

end Sg
end Go.Proofs.YtkoejelglinmnaaGreat

/-
  The program logic, sixth part: the rules by arity; comparisons that are decided.
-/
namespace Go.Proofs.YtkoejelglinmnaaGreat
namespace Sg

section
variable {P : Program} {n : Nat} {ops rest : List Oper} {A : Array Oper} {e : Env} {w : World} {K : Env → World → Prop} {d : Option Tmp} {ty : TypeId} {pos : String} {aft : Array Edge}

section cmp
variable {t t' : TypeId} {x y : Operand} {k : IntKind} {a b : Int} {c : Bool}
theorem Flow.lssD (hx : ev n e x = .int k a) (hy : ev n e y = .int k b) (hc : decide (a < b) = c) (h : Flow P n A rest (updO e d (.bool c)) w K) :
    Flow P n A (⟨d, .binOp .lss t x y t', ty, pos, aft, none⟩ :: rest) e w K := Flow.lss hx hy (by rw [hc]; exact h)
theorem Flow.leqD (hx : ev n e x = .int k a) (hy : ev n e y = .int k b) (hc : decide (a ≤ b) = c) (h : Flow P n A rest (updO e d (.bool c)) w K) :
    Flow P n A (⟨d, .binOp .leq t x y t', ty, pos, aft, none⟩ :: rest) e w K := Flow.leq hx hy (by rw [hc]; exact h)
theorem Flow.gtrD (hx : ev n e x = .int k a) (hy : ev n e y = .int k b) (hc : decide (b < a) = c) (h : Flow P n A rest (updO e d (.bool c)) w K) :
    Flow P n A (⟨d, .binOp .gtr t x y t', ty, pos, aft, none⟩ :: rest) e w K := Flow.gtr hx hy (by rw [hc]; exact h)
theorem Flow.geqD (hx : ev n e x = .int k a) (hy : ev n e y = .int k b) (hc : decide (b ≤ a) = c) (h : Flow P n A rest (updO e d (.bool c)) w K) :
    Flow P n A (⟨d, .binOp .geq t x y t', ty, pos, aft, none⟩ :: rest) e w K := Flow.geq hx hy (by rw [hc]; exact h)
theorem Flow.eqlD (hx : ev n e x = .int k a) (hy : ev n e y = .int k b) (hc : decide (a = b) = c) (h : Flow P n A rest (updO e d (.bool c)) w K) :
    Flow P n A (⟨d, .binOp .eql t x y t', ty, pos, aft, none⟩ :: rest) e w K := Flow.eql hx hy (by rw [hc]; exact h)
theorem Flow.neqD (hx : ev n e x = .int k a) (hy : ev n e y = .int k b) (hc : decide (a ≠ b) = c) (h : Flow P n A rest (updO e d (.bool c)) w K) :
    Flow P n A (⟨d, .binOp .neq t x y t', ty, pos, aft, none⟩ :: rest) e w K := Flow.neq hx hy (by rw [hc]; exact h)
end cmp

theorem Flow.indexAddr1 {t : TypeId} {by_ : Nat} {z : Value} {x y : Operand} {b o l c : Nat} {k : IntKind} {i : Int} (ht : SliceTy P t 1 by_ z) (hx : ev n e x = .slice (some ⟨b, o, none⟩) l c) (hy : ev n e y = .int k i)
    (h0 : 0 ≤ i) (h1 : i < l) (h : Flow P n A rest (updO e d (.pointer (some ⟨b, o + i.toNat, none⟩))) w K) :
    Flow P n A (⟨d, .indexAddr t x y, ty, pos, aft, none⟩ :: rest) e w K := Flow.indexAddr ht hx hy h0 h1 (by rw [Nat.mul_one]; exact h)

/-- An array of one-cell elements. -/
structure ArrTy (P : Program) (t : TypeId) (len : Nat) : Prop where
  ex : ∃ el i, P.underlying t = some (.array len el) ∧ P.info? el = some i ∧ i.size = 1

theorem ArrTy.lay {t el : TypeId} {len : Nat} (h1 : P.underlying t = some (.array len el)) (h2 : (P.info? el).map (fun i => i.size) = some 1) : ArrTy P t len := by
  cases h : P.info? el with
  | none => simp [h] at h2
  | some i => exact ⟨el, i, h1, h, by simpa [h] using h2⟩

theorem Flow.indexAddrA {t : TypeId} {len : Nat} {x y : Operand} {b o : Nat} {k : IntKind} {i : Int} (ht : ArrTy P t len) (hx : ev n e x = .pointer (some ⟨b, o, none⟩)) (hy : ev n e y = .int k i)
    (h0 : 0 ≤ i) (h1 : i < len) (h : Flow P n A rest (updO e d (.pointer (some ⟨b, o + i.toNat, none⟩))) w K) :
    Flow P n A (⟨d, .indexAddr t x y, ty, pos, aft, none⟩ :: rest) e w K := by
  obtain ⟨el, i', hu, hi, hs⟩ := ht.ex
  refine Flow.val rfl (v := .pointer (some ⟨b, o + i.toNat, none⟩)) (w' := w) ?_ h
  have hl : (decide ((len : Int) ≤ 1) = true) → True := fun _ => trivial
  simp [execOp, hx, hy, Instr.indexAt, Instr.sureAddr, asIntOf, Sem.run_bind, run_underlying hu, Result.andThen, pure, Sem.run, h0, h1, run_sizeOf hi, addr_add, hs]

theorem Flow.convert {t t' : TypeId} {k k' : IntKind} {x : Operand} {a : Int} {s : Nat} {z : Value} (hu : P.underlying t' = some (.int k')) (hs : (P.underlying t).isSome = true) (hx : ev n e x = .int k a) (hw : k'.wrap a = a)
    (h : Flow P n A rest (updO e d (.int k' a)) w K) : Flow P n A (⟨d, .convert t t' x, ty, pos, aft, none⟩ :: rest) e w K := by
  obtain ⟨dd, hd⟩ := Option.isSome_iff_exists.1 hs
  refine Flow.val rfl (v := .int k' a) (w' := w) ?_ h
  simp [execOp, hx, Go.convert, Sem.run_bind, run_underlying hd, run_underlying hu, Result.andThen, pure, Sem.run, Conv.intToInt, hw]

theorem Flow.moveC {v : Value} (h : Flow P n A rest (updO e d v) w K) : Flow P n A (⟨d, .move (.const v), ty, pos, aft, none⟩ :: rest) e w K := Flow.move rfl h
theorem Flow.assignC {v : Value} (h : Flow P n A rest (updO e d v) w K) : Flow P n A (⟨d, .assign (.const v), ty, pos, aft, none⟩ :: rest) e w K := Flow.assign rfl h

/-- A store of one cell. -/
theorem Flow.store1 {t tb : TypeId} {z : Value} {x y : Operand} {b o : Nat} {v : Value} {cs : List Value} (ht : Ty P t false 1 z)
    (hx : ev n e x = .pointer (some ⟨b, o, none⟩)) (hy : ev n e y = v) (hb : Blk w b cs tb) (hl : o < cs.length) (hv : oneV v = true)
    (h : ∀ w', Chg [b] w w' → w'.heap.size = w.heap.size → Blk w' b (cs.set o v) tb → Flow P n A rest (updO e d undef) w' K) :
    Flow P n A (⟨d, .store t x y, ty, pos, aft, none⟩ :: rest) e w K := by
  have hc : v.cells.toList = [v] := by cases v <;> first | rfl | simp [oneV] at hv
  refine Flow.store ht hx hy hb hc rfl (by omega) (by simp [hv]) fun w' c s b' => h w' c s ?_
  have : cs.take o ++ [v] ++ cs.drop (o + 1) = cs.set o v := by
    rw [List.set_eq_take_append_cons_drop, if_pos hl]; simp
  rw [← this]; exact b'

section calls
variable {f : FuncId} {x1 x2 x3 x4 x5 : Operand} {v1 v2 v3 v4 v5 : Value} {ats : Array TypeId}
theorem Flow.call0 (hb : HasBody P f) (h : Ret P f #[] w fun v w' => Flow P n A rest (updO e d v) w' K) :
    Flow P n A (⟨d, .call { callee := .value (.func f), args := #[], argTypes := ats }, ty, pos, aft, none⟩ :: rest) e w K := Flow.call hb (by simp) h
theorem Flow.call1 (hb : HasBody P f) (h1 : ev n e x1 = v1) (h : Ret P f #[v1] w fun v w' => Flow P n A rest (updO e d v) w' K) :
    Flow P n A (⟨d, .call { callee := .value (.func f), args := #[x1], argTypes := ats }, ty, pos, aft, none⟩ :: rest) e w K := Flow.call hb (by simp [h1]) h
theorem Flow.call2 (hb : HasBody P f) (h1 : ev n e x1 = v1) (h2 : ev n e x2 = v2) (h : Ret P f #[v1, v2] w fun v w' => Flow P n A rest (updO e d v) w' K) :
    Flow P n A (⟨d, .call { callee := .value (.func f), args := #[x1, x2], argTypes := ats }, ty, pos, aft, none⟩ :: rest) e w K := Flow.call hb (by simp [h1, h2]) h
theorem Flow.call3 (hb : HasBody P f) (h1 : ev n e x1 = v1) (h2 : ev n e x2 = v2) (h3 : ev n e x3 = v3) (h : Ret P f #[v1, v2, v3] w fun v w' => Flow P n A rest (updO e d v) w' K) :
    Flow P n A (⟨d, .call { callee := .value (.func f), args := #[x1, x2, x3], argTypes := ats }, ty, pos, aft, none⟩ :: rest) e w K := Flow.call hb (by simp [h1, h2, h3]) h
theorem Flow.call4 (hb : HasBody P f) (h1 : ev n e x1 = v1) (h2 : ev n e x2 = v2) (h3 : ev n e x3 = v3) (h4 : ev n e x4 = v4)
    (h : Ret P f #[v1, v2, v3, v4] w fun v w' => Flow P n A rest (updO e d v) w' K) :
    Flow P n A (⟨d, .call { callee := .value (.func f), args := #[x1, x2, x3, x4], argTypes := ats }, ty, pos, aft, none⟩ :: rest) e w K := Flow.call hb (by simp [h1, h2, h3, h4]) h
theorem Flow.call5 (hb : HasBody P f) (h1 : ev n e x1 = v1) (h2 : ev n e x2 = v2) (h3 : ev n e x3 = v3) (h4 : ev n e x4 = v4) (h5 : ev n e x5 = v5)
    (h : Ret P f #[v1, v2, v3, v4, v5] w fun v w' => Flow P n A rest (updO e d v) w' K) :
    Flow P n A (⟨d, .call { callee := .value (.func f), args := #[x1, x2, x3, x4, x5], argTypes := ats }, ty, pos, aft, none⟩ :: rest) e w K := Flow.call hb (by simp [h1, h2, h3, h4, h5]) h

variable {g : Operand} {cap : Array Value}
theorem Flow.callV1 (hg : ev n e g = .func (.func f) #[] cap) (hb : HasBody P f) (h1 : ev n e x1 = v1) (h : Ret P f (#[v1] ++ cap) w fun v w' => Flow P n A rest (updO e d v) w' K) :
    Flow P n A (⟨d, .call { callee := .value g, args := #[x1], argTypes := ats }, ty, pos, aft, none⟩ :: rest) e w K := Flow.callV hg hb (by simp [h1]) h
theorem Flow.callV2 (hg : ev n e g = .func (.func f) #[] cap) (hb : HasBody P f) (h1 : ev n e x1 = v1) (h2 : ev n e x2 = v2) (h : Ret P f (#[v1, v2] ++ cap) w fun v w' => Flow P n A rest (updO e d v) w' K) :
    Flow P n A (⟨d, .call { callee := .value g, args := #[x1, x2], argTypes := ats }, ty, pos, aft, none⟩ :: rest) e w K := Flow.callV hg hb (by simp [h1, h2]) h

theorem Flow.callY1 {l : Nat} {r : Loop} (hg : ev n e g = .func (.yield l) #[] #[]) (hl : w.heap[l]? = some (.loop r) ∧ r.params.size = 1) (h1 : ev n e x1 = v1)
    (h : Rnd P l r.fn ((r.params.zip #[v1]).foldl (fun tmps (t, a) => tmps.setIfInBounds t a) r.tmps) r.assign r.body w fun v w' => Flow P n A rest (updO e d v) w' K) :
    Flow P n A (⟨d, .call { callee := .value g, args := #[x1], argTypes := ats }, ty, pos, aft, none⟩ :: rest) e w K := Flow.callY hg hl.1 (by simp [h1]) (by simp [hl.2]) h

theorem Flow.makeFunc0 {fn : Go.Fn} (h : Flow P n A rest (updO e d (.func fn #[] #[])) w K) :
    Flow P n A (⟨d, .makeFunc fn #[] #[], ty, pos, aft, none⟩ :: rest) e w K := Flow.makeFunc (by simp) h
theorem Flow.makeFunc1 {fn : Go.Fn} (h1 : ev n e x1 = v1) (h : Flow P n A rest (updO e d (.func fn #[] #[v1])) w K) :
    Flow P n A (⟨d, .makeFunc fn #[] #[x1], ty, pos, aft, none⟩ :: rest) e w K := Flow.makeFunc (by simp [h1]) h
theorem Flow.makeFunc2 {fn : Go.Fn} (h1 : ev n e x1 = v1) (h2 : ev n e x2 = v2) (h : Flow P n A rest (updO e d (.func fn #[] #[v1, v2])) w K) :
    Flow P n A (⟨d, .makeFunc fn #[] #[x1, x2], ty, pos, aft, none⟩ :: rest) e w K := Flow.makeFunc (by simp [h1, h2]) h
theorem Flow.makeFunc3 {fn : Go.Fn} (h1 : ev n e x1 = v1) (h2 : ev n e x2 = v2) (h3 : ev n e x3 = v3) (h : Flow P n A rest (updO e d (.func fn #[] #[v1, v2, v3])) w K) :
    Flow P n A (⟨d, .makeFunc fn #[] #[x1, x2, x3], ty, pos, aft, none⟩ :: rest) e w K := Flow.makeFunc (by simp [h1, h2, h3]) h
theorem Flow.makeFunc4 {fn : Go.Fn} (h1 : ev n e x1 = v1) (h2 : ev n e x2 = v2) (h3 : ev n e x3 = v3) (h4 : ev n e x4 = v4) (h : Flow P n A rest (updO e d (.func fn #[] #[v1, v2, v3, v4])) w K) :
    Flow P n A (⟨d, .makeFunc fn #[] #[x1, x2, x3, x4], ty, pos, aft, none⟩ :: rest) e w K := Flow.makeFunc (by simp [h1, h2, h3, h4]) h
end calls

/-! ### What a function hands back -/
theorem res0 {fn : Func} {m : Nat} {e : Env} {ds : List Nat} {w : World} (h : fn.results = #[]) : (results fn (fr m e ds).tmps).run P w = .ok (.tuple #[]) w := results_none h _ _ _
theorem res1 {fn : Func} {m : Nat} {e : Env} {ds : List Nat} {w : World} {t : Tmp} {v : Value} (h : fn.results = #[.tmp t]) (hv : ev m e (.tmp t) = v) :
    (results fn (fr m e ds).tmps).run P w = .ok v w := by
  have he : (fr m e ds).tmps.getD t undef = v := by rw [← hv, ← fr_eval m e ds]; rfl
  rw [results_tmp h, he]
theorem res2 {fn : Func} {m : Nat} {e : Env} {ds : List Nat} {w : World} {t u : Tmp} {v v' : Value} (h : fn.results = #[.tmp t, .tmp u]) (hv : ev m e (.tmp t) = v) (hv' : ev m e (.tmp u) = v') :
    (results fn (fr m e ds).tmps).run P w = .ok (.tuple #[v, v']) w := by
  have he : (fr m e ds).tmps.getD t undef = v := by rw [← hv, ← fr_eval m e ds]; rfl
  have he' : (fr m e ds).tmps.getD u undef = v' := by rw [← hv', ← fr_eval m e ds]; rfl
  rw [results_tmp2 h, he, he']
theorem res3 {fn : Func} {m : Nat} {e : Env} {ds : List Nat} {w : World} {t u s : Tmp} {v v' v'' : Value} (h : fn.results = #[.tmp t, .tmp u, .tmp s]) (hv : ev m e (.tmp t) = v) (hv' : ev m e (.tmp u) = v') (hv'' : ev m e (.tmp s) = v'') :
    (results fn (fr m e ds).tmps).run P w = .ok (.tuple #[v, v', v'']) w := by
  have he : (fr m e ds).tmps.getD t undef = v := by rw [← hv, ← fr_eval m e ds]; rfl
  have he' : (fr m e ds).tmps.getD u undef = v' := by rw [← hv', ← fr_eval m e ds]; rfl
  have he'' : (fr m e ds).tmps.getD s undef = v'' := by rw [← hv'', ← fr_eval m e ds]; rfl
  have hg : ∀ i, (fr m e ds).tmps.getD i undef = ((fr m e ds).tmps[i]?).getD undef := fun i => by simp
  rw [hg] at he he' he''
  simp [results, h, he, he', he'']
theorem res4 {fn : Func} {m : Nat} {e : Env} {ds : List Nat} {w : World} {t u s r : Tmp} {v v' v'' v3 : Value} (h : fn.results = #[.tmp t, .tmp u, .tmp s, .tmp r]) (hv : ev m e (.tmp t) = v) (hv' : ev m e (.tmp u) = v') (hv'' : ev m e (.tmp s) = v'') (hv3 : ev m e (.tmp r) = v3) :
    (results fn (fr m e ds).tmps).run P w = .ok (.tuple #[v, v', v'', v3]) w := by
  have he : (fr m e ds).tmps.getD t undef = v := by rw [← hv, ← fr_eval m e ds]; rfl
  have he' : (fr m e ds).tmps.getD u undef = v' := by rw [← hv', ← fr_eval m e ds]; rfl
  have he'' : (fr m e ds).tmps.getD s undef = v'' := by rw [← hv'', ← fr_eval m e ds]; rfl
  have he3 : (fr m e ds).tmps.getD r undef = v3 := by rw [← hv3, ← fr_eval m e ds]; rfl
  have hg : ∀ i, (fr m e ds).tmps.getD i undef = ((fr m e ds).tmps[i]?).getD undef := fun i => by simp
  rw [hg] at he he' he'' he3
  simp [results, h, he, he', he'', he3]

end
end Sg
end Go.Proofs.YtkoejelglinmnaaGreat

/-
  The program logic, seventh part: a region that draws its order. Whatever order is drawn, the effects come in the order of the text (each is chained to
  those before it), and what only reads gives the same value in every world that has only grown: so one walk in the order of the text serves.
-/
namespace Go.Proofs.YtkoejelglinmnaaGreat
namespace Sg

def binds (e : Edge) : Bool := Region.binds .any e

def edges (A : Array Oper) (i : Nat) : List Edge := match A[i]? with | some o => o.after.toList | none => []

/-- j is ahead of i, by a chain of edges. -/
def reach (A : Array Oper) : Nat → Nat → Nat → Bool
  | 0, _, _ => false
  | f + 1, i, j => (edges A i).any (fun e => binds e && e.on == j) || (edges A i).any (fun e => binds e && (Nat.blt j e.on && (Nat.blt e.on i && reach A f e.on j)))

def worldFree (o : Oper) : Bool := match o.op with | .move _ | .assign _ | .pick _ _ _ | .unOp _ _ _ | .binOp _ _ _ _ _ | .extract _ _ | .indexAddr _ _ _ | .fieldAddr _ _ _ => true | _ => false

def notSel (o : Oper) : Bool := match o.op with | .select _ _ => false | .defer _ => false | _ => true

/-- Operations i and j of which neither waits for the other: it makes no difference which comes first. -/
def indep (A : Array Oper) (effs hard : List Nat) (i : Nat) (oi : Oper) (j : Nat) (oj : Oper) : Bool :=
  oi.apart A oj && (!(effs.contains i && effs.contains j) && (!hard.contains i || worldFree oj))

def okD (A : Array Oper) (effs hard : List Nat) : Bool :=
  (List.range A.size).all fun i => (edges A i).all (fun e => !binds e || Nat.blt e.on i) &&
    (match A[i]? with
     | some oi => notSel oi && (List.range i).all fun j => reach A 24 i j || (match A[j]? with | some oj => indep A effs hard i oi j oj | none => true)
     | none => true)

section
variable {P : Program} {n : Nat} {A : Array Oper} {effs hard : List Nat} {w0 : World} {K : Env → World → Prop}

def Clause (P : Program) (n : Nat) (A : Array Oper) (effs hard : List Nat) (w0 : World) (i : Nat) (o : Oper) (R : Bool → Env → World → Prop) (fin : Bool) (e : Env) (w : World) : Prop :=
  if Region.wanted o (yE A n e) then
    (∃ v, (∀ w', (fin = false → worldFree o = false → Chg [] w0 w') → (execOp (ev n e) o).run P w' = .ok (.value v) w') ∧ R fin (updO e o.dst v) w)
    ∨ (effs.contains i = true ∧ ∃ fin', (fin = true → fin' = true) ∧ (fin' = fin ∨ hard.contains i = true) ∧
        OpW P (ev n e) o w fun v w' => (fin' = false → Chg [] w0 w') ∧ R fin' (updO e o.dst v) w')
  else R fin (updO e o.dst undef) w

def FD (P : Program) (n : Nat) (A : Array Oper) (effs hard : List Nat) (w0 : World) (K : Env → World → Prop) : List (Nat × Oper) → Bool → Env → World → Prop
  | [], _, e, w => K e w
  | (i, o) :: rest, fin, e, w => Clause P n A effs hard w0 i o (FD P n A effs hard w0 K rest) fin e w

theorem Ret.ex {f : FuncId} {args : Array Value} {w : World} {R : Value → World → Prop} (h : Ret P f args w R) : ∃ v w', R v w' := by
  obtain ⟨e, w', fr, ⟨v, _, hR⟩, _⟩ := h []
  exact ⟨v, w', hR⟩

theorem After.ex {K : Value → World → Prop} {x : Result Next} (h : After P K x) : ∃ v w, K v w := by
  cases x with
  | ok y w' =>
    cases y <;> simp only [After] at h
    case value v => exact ⟨_, _, h⟩
    case skip => exact ⟨_, _, h⟩
    case enter f args => exact Ret.ex h
    case row row args =>
      obtain ⟨v, w', hr, _⟩ := h default []
      exact ⟨v, w', hr⟩
    case round l f tmps assign body =>
      obtain ⟨e, w', ⟨v, _, hR⟩, _⟩ := h.2 default [] (room_wide _)
      exact ⟨v, w', hR⟩
  | halt => exact h.elim

theorem upd_comm {e : Env} {d d' : Option Tmp} {v v' : Value} (h : ∀ t, d = some t → d' ≠ some t) : updO (updO e d v) d' v' = updO (updO e d' v') d v := by
  cases d with
  | none => rfl
  | some t =>
    cases d' with
    | none => rfl
    | some t' =>
      have hne : t' ≠ t := fun e => h t rfl (by rw [e])
      funext i
      simp only [updO, upd]
      by_cases h1 : i = t' <;> by_cases h2 : i = t <;> simp_all

theorem exec_put {o : Oper} {e : Env} {d : Option Tmp} {v : Value} (hs : notSel o = true) (h : ∀ t, d = some t → (o.looksAt A).contains t = false) :
    execOp (ev n (updO e d v)) o = execOp (ev n e) o := by
  have hx := execOp_put (ops := A) o (fun cs b hc => by simp [notSel, hc] at hs) (fr n e []) d v (fun t ht hm => by have := h t ht; simp at this; exact this hm)
  rwa [fr_put, fr_eval, fr_eval] at hx

theorem want_put {o : Oper} {e : Env} {d : Option Tmp} {v : Value} (h : ∀ t, d = some t → (o.looksAt A).contains t = false) :
    Region.wanted o (yE A n (updO e d v)) = Region.wanted o (yE A n e) := by
  have hx := wanted_put (ops := A) o (fr n e []) d v (fun t ht hm => by have := h t ht; simp at this; exact this hm)
  rw [fr_put] at hx
  have e1 : yielded A (fr n (updO e d v) []).tmps = yE A n (updO e d v) := funext fun j => yielded_fr A j
  have e2 : yielded A (fr n e []).tmps = yE A n e := funext fun j => yielded_fr A j
  rwa [e1, e2] at hx

theorem opW_put {o : Oper} {e : Env} {d : Option Tmp} {v : Value} {w : World} {K : Value → World → Prop} (hs : notSel o = true) (h : ∀ t, d = some t → (o.looksAt A).contains t = false) :
    OpW P (ev n (updO e d v)) o w K = OpW P (ev n e) o w K := by
  unfold OpW; rw [exec_put hs h]

structure Pair (A : Array Oper) (effs hard : List Nat) (i : Nat) (oi : Oper) (j : Nat) (oj : Oper) : Prop where
  ij : ∀ t, oi.dst = some t → (oj.looksAt A).contains t = false
  dd : ∀ t, oi.dst = some t → oj.dst ≠ some t
  ji : ∀ t, oj.dst = some t → (oi.looksAt A).contains t = false
  ef : effs.contains i = true → effs.contains j = true → False
  hd : hard.contains i = true → worldFree oj = true
  si : notSel oi = true
  sj : notSel oj = true

theorem Pair.of {i j : Nat} {oi oj : Oper} (h : indep A effs hard i oi j oj = true) (h1 : notSel oi = true) (h2 : notSel oj = true) : Pair A effs hard i oi j oj := by
  simp only [indep, Oper.apart, Bool.and_eq_true] at h
  obtain ⟨⟨ha, hb⟩, hc, hd⟩ := h
  refine ⟨fun t ht => ?_, fun t ht => ?_, fun t ht => ?_, fun h1 h2 => ?_, fun h1 => ?_, h1, h2⟩
  · rw [ht] at ha; simp only [Bool.and_eq_true] at ha; simpa using ha.1
  · rw [ht] at ha; simp only [Bool.and_eq_true] at ha; simpa using ha.2
  · rw [ht] at hb; simpa using hb
  · rw [h1, h2] at hc; simp at hc
  · rw [h1] at hd; simpa using hd

theorem Clause.mono {i : Nat} {o : Oper} {R R' : Bool → Env → World → Prop} {fin : Bool} {e : Env} {w : World} (h : Clause P n A effs hard w0 i o R fin e w)
    (hR : ∀ fin e w, R fin e w → R' fin e w) : Clause P n A effs hard w0 i o R' fin e w := by
  unfold Clause at *
  split
  · rename_i hw
    rw [if_pos hw] at h
    rcases h with ⟨v, h1, h2⟩ | ⟨h1, f', h2, h3, h4⟩
    · exact .inl ⟨v, h1, hR _ _ _ h2⟩
    · exact .inr ⟨h1, f', h2, h3, After.mono h4 fun v w ⟨h5, h6⟩ => ⟨h5, hR _ _ _ h6⟩⟩
  · rename_i hw
    rw [if_neg hw] at h
    exact hR _ _ _ h

/-- An operation that waits for none of those ahead of it may come first. -/
theorem FD.take {i : Nat} {o : Oper} {l2 : List (Nat × Oper)} : ∀ (l1 : List (Nat × Oper)), (∀ p ∈ l1, Pair A effs hard i o p.1 p.2) → ∀ (fin : Bool) (e : Env) (w : World),
    FD P n A effs hard w0 K (l1 ++ (i, o) :: l2) fin e w → Clause P n A effs hard w0 i o (FD P n A effs hard w0 K (l1 ++ l2)) fin e w
  | [], _, _, _, _, h => h
  | (j, oj) :: l1, hp, fin, e, w, h => by
    have hpj : Pair A effs hard i o j oj := hp (j, oj) (List.mem_cons_self ..)
    have ih := FD.take (i := i) (o := o) (l2 := l2) l1 (fun p hp' => hp p (List.mem_cons_of_mem _ hp'))
    simp only [List.cons_append, FD] at h
    -- what stands for R, once i is taken first
    by_cases hwj : Region.wanted oj (yE A n e) = true
    case neg =>
      have h' : FD P n A effs hard w0 K (l1 ++ (i, o) :: l2) fin (updO e oj.dst undef) w := by simpa only [Clause, if_neg hwj] using h
      have c := ih _ _ _ h'
      have hput : ∀ fin v w, FD P n A effs hard w0 K (l1 ++ l2) fin (updO (updO e oj.dst undef) o.dst v) w → FD P n A effs hard w0 K ((j, oj) :: (l1 ++ l2)) fin (updO e o.dst v) w := by
        intro fin v w hh
        simp only [FD, Clause, want_put hpj.ij, if_neg hwj]
        rw [upd_comm (d := o.dst) (d' := oj.dst) hpj.dd]
        exact hh
      unfold Clause at c ⊢
      rw [want_put hpj.ji] at c
      split
      · rename_i hwi
        rw [if_pos hwi] at c
        rcases c with ⟨v, c1, c2⟩ | ⟨c1, f', c2, c3, c4⟩
        · exact .inl ⟨v, fun w' hw' => by rw [← exec_put (A := A) (d := oj.dst) (v := undef) hpj.si hpj.ji]; exact c1 w' hw', hput _ _ _ c2⟩
        · exact .inr ⟨c1, f', c2, c3, by rw [opW_put hpj.si hpj.ji] at c4; exact After.mono c4 fun v w ⟨h5, h6⟩ => ⟨h5, hput _ _ _ h6⟩⟩
      · rename_i hwi
        rw [if_neg hwi] at c
        exact hput _ _ _ c
    case pos =>
      simp only [Clause, if_pos hwj] at h
      rcases h with ⟨vj, hj1, hj2⟩ | ⟨hje, f1, hf1, hf2, hj⟩
      · -- the one ahead only reads
        have c := ih _ _ _ hj2
        have hput : ∀ fin' v w, (fin' = fin ∨ worldFree oj = true) → FD P n A effs hard w0 K (l1 ++ l2) fin' (updO (updO e oj.dst vj) o.dst v) w → FD P n A effs hard w0 K ((j, oj) :: (l1 ++ l2)) fin' (updO e o.dst v) w := by
          intro fin' v w hfr hh
          simp only [FD, Clause, want_put hpj.ij, if_pos hwj]
          refine .inl ⟨vj, fun w' hw' => ?_, ?_⟩
          · rw [exec_put hpj.sj hpj.ij]
            rcases hfr with rfl | hfr
            · exact hj1 w' hw'
            · exact hj1 w' (fun _ h => by rw [hfr] at h; cases h)
          · rw [upd_comm (d := o.dst) (d' := oj.dst) hpj.dd]; exact hh
        unfold Clause at c ⊢
        rw [want_put hpj.ji] at c
        split
        · rename_i hwi
          rw [if_pos hwi] at c
          rcases c with ⟨v, c1, c2⟩ | ⟨c1, f', c2, c3, c4⟩
          · exact .inl ⟨v, fun w' hw' => by rw [← exec_put (A := A) (d := oj.dst) (v := vj) hpj.si hpj.ji]; exact c1 w' hw', hput _ _ _ (.inl rfl) c2⟩
          · refine .inr ⟨c1, f', c2, c3, ?_⟩
            rw [opW_put hpj.si hpj.ji] at c4
            exact After.mono c4 fun v w ⟨h5, h6⟩ => ⟨h5, hput _ _ _ (c3.imp id hpj.hd) h6⟩
        · rename_i hwi
          rw [if_neg hwi] at c
          exact hput _ _ _ (.inl rfl) c
      · -- the one ahead is an effect: i is none
        have hin : effs.contains i = true → False := fun hi => hpj.ef hi hje
        have hall : ∀ w', (fin = false → worldFree o = false → Chg [] w0 w') → (f1 = false → worldFree o = false → Chg [] w0 w') := fun w' hw' hf => hw' (by
          cases fin with
          | false => rfl
          | true => rw [hf1 rfl] at hf; cases hf)
        unfold Clause
        by_cases hwi : Region.wanted o (yE A n e) = true
        · rw [if_pos hwi]
          have hc : ∀ v1 w1, FD P n A effs hard w0 K (l1 ++ (i, o) :: l2) f1 (updO e oj.dst v1) w1 →
              ∃ v, (∀ w', (f1 = false → worldFree o = false → Chg [] w0 w') → (execOp (ev n e) o).run P w' = .ok (.value v) w') ∧ FD P n A effs hard w0 K (l1 ++ l2) f1 (updO (updO e oj.dst v1) o.dst v) w1 := by
            intro v1 w1 hh
            have c := ih _ _ _ hh
            unfold Clause at c
            rw [want_put hpj.ji, if_pos hwi] at c
            rcases c with ⟨v, c1, c2⟩ | ⟨c1, _⟩
            · exact ⟨v, fun w' hw' => by rw [← exec_put (A := A) (d := oj.dst) (v := v1) hpj.si hpj.ji]; exact c1 w' hw', c2⟩
            · exact (hin c1).elim
          obtain ⟨v1, w1, _, hFD1⟩ := After.ex hj
          obtain ⟨v, hv, _⟩ := hc _ _ hFD1
          refine .inl ⟨v, fun w' hw' => hv w' (hall w' hw'), ?_⟩
          show FD P n A effs hard w0 K ((j, oj) :: (l1 ++ l2)) _ _ _
          simp only [FD, Clause, want_put hpj.ij, if_pos hwj]
          refine .inr ⟨hje, f1, hf1, hf2, ?_⟩
          rw [opW_put hpj.sj hpj.ij]
          refine After.mono hj fun v2 w2 ⟨h5, h6⟩ => ⟨h5, ?_⟩
          obtain ⟨v', hv', h7⟩ := hc _ _ h6
          have e1 := hv w0 (fun _ _ => Chg.refl _ _)
          rw [hv' w0 (fun _ _ => Chg.refl _ _)] at e1
          simp only [Result.ok.injEq, Next.value.injEq, and_true] at e1
          subst e1
          rw [upd_comm (d := o.dst) (d' := oj.dst) hpj.dd]
          exact h7
        · rw [if_neg hwi]
          show FD P n A effs hard w0 K ((j, oj) :: (l1 ++ l2)) _ _ _
          simp only [FD, Clause, want_put hpj.ij, if_pos hwj]
          refine .inr ⟨hje, f1, hf1, hf2, ?_⟩
          rw [opW_put hpj.sj hpj.ij]
          refine After.mono hj fun v2 w2 ⟨h5, h6⟩ => ⟨h5, ?_⟩
          have c := ih _ _ _ h6
          unfold Clause at c
          rw [want_put hpj.ji, if_neg hwi] at c
          rw [upd_comm (d := o.dst) (d' := oj.dst) hpj.dd]
          exact c

/-! ### Every order -/
def idx : Nat → List Oper → List (Nat × Oper)
  | _, [] => []
  | k, o :: l => (k, o) :: idx (k + 1) l

/-- What is still to be done, in the order of the text. -/
def rem (listed : Array Bool) (l : List (Nat × Oper)) : List (Nat × Oper) := l.filter fun p => !listed.getD p.1 true

theorem mem_idx : ∀ (l : List Oper) (k i : Nat) (o : Oper), (i, o) ∈ idx k l ↔ k ≤ i ∧ l[i - k]? = some o
  | [], k, i, o => by simp [idx]
  | x :: l, k, i, o => by
    simp only [idx, List.mem_cons, Prod.mk.injEq, mem_idx l (k + 1) i o]
    by_cases h : i = k
    · subst h
      simp
      constructor
      · rintro (h | ⟨h1, _⟩)
        · exact h.symm
        · omega
      · intro h; exact .inl h.symm
    · by_cases hk : k ≤ i
      · obtain ⟨m, rfl⟩ : ∃ m, i = k + 1 + m := ⟨i - k - 1, by omega⟩
        simp [h, show k + 1 + m - k = m + 1 from by omega, show k + 1 + m - (k + 1) = m from by omega]
        omega
      · simp [h]; omega

theorem idx_split : ∀ (l : List Oper) (k i : Nat) (o : Oper), (i, o) ∈ idx k l → ∃ l1 l2, idx k l = l1 ++ (i, o) :: l2 ∧ (∀ p ∈ l1, p.1 < i) ∧ (∀ p ∈ l2, i < p.1)
  | [], _, _, _, h => by simp [idx] at h
  | x :: l, k, i, o, h => by
    simp only [idx, List.mem_cons, Prod.mk.injEq] at h
    rcases h with ⟨rfl, rfl⟩ | h
    · refine ⟨[], idx (i + 1) l, rfl, by simp, fun p hp => ?_⟩
      have := (mem_idx l (i + 1) p.1 p.2).1 hp
      omega
    · obtain ⟨l1, l2, h1, h2, h3⟩ := idx_split l (k + 1) i o h
      have := (mem_idx l (k + 1) i o).1 h
      refine ⟨(k, x) :: l1, l2, by simp [idx, h1], ?_, h3⟩
      intro p hp
      rcases List.mem_cons.1 hp with rfl | hp
      · show k < i; omega
      · exact h2 p hp

theorem rem_set {listed : Array Bool} {i : Nat} {o : Oper} {l1 l2 : List (Nat × Oper)} (hi : i < listed.size) (hu : listed.getD i true = false) (h1 : ∀ p ∈ l1, p.1 < i) (h2 : ∀ p ∈ l2, i < p.1) :
    rem listed (l1 ++ (i, o) :: l2) = rem listed l1 ++ (i, o) :: rem listed l2 ∧ rem (listed.setIfInBounds i true) (l1 ++ (i, o) :: l2) = rem listed l1 ++ rem listed l2 := by
  have hne : ∀ p : Nat × Oper, p.1 ≠ i → (listed.setIfInBounds i true).getD p.1 true = listed.getD p.1 true := by
    intro p hp
    rw [Array.getD_eq_getD_getElem?, Array.getD_eq_getD_getElem?, Array.getElem?_setIfInBounds_ne (Ne.symm hp)]
  have heq : (listed.setIfInBounds i true).getD i true = true := by
    rw [Array.getD_eq_getD_getElem?, Array.getElem?_setIfInBounds_self_of_lt hi]; rfl
  have e1 : l1.filter (fun p => !(listed.setIfInBounds i true).getD p.1 true) = l1.filter (fun p => !listed.getD p.1 true) :=
    List.filter_congr fun p hp => by rw [hne p (by have := h1 p hp; omega)]
  have e2 : l2.filter (fun p => !(listed.setIfInBounds i true).getD p.1 true) = l2.filter (fun p => !listed.getD p.1 true) :=
    List.filter_congr fun p hp => by rw [hne p (by have := h2 p hp; omega)]
  constructor
  · simp only [rem, List.filter_append, List.filter_cons, hu, Bool.not_false, if_true]
  · simp only [rem, List.filter_append, List.filter_cons, heq, Bool.not_true, Bool.false_eq_true, if_false, e1, e2]

theorem reach_done {listed : Array Bool} (hcl : ∀ i o, A[i]? = some o → listed.getD i true = true → ∀ x ∈ o.after, Region.binds .any x = true → listed.getD x.on true = true) :
    ∀ (f i j : Nat), reach A f i j = true → (∀ o, A[i]? = some o → ∀ x ∈ o.after, Region.binds .any x = true → listed.getD x.on true = true) → listed.getD j true = true
  | 0, _, _, h, _ => by simp [reach] at h
  | f + 1, i, j, h, hi => by
    simp only [reach, Bool.or_eq_true, List.any_eq_true, Bool.and_eq_true] at h
    have hed : ∀ x ∈ edges A i, binds x = true → listed.getD x.on true = true := by
      intro x hx hb
      unfold edges at hx
      cases ho : A[i]? with
      | none => rw [ho] at hx; simp at hx
      | some o => rw [ho] at hx; exact hi o ho x (by simpa using hx) hb
    rcases h with ⟨x, hx, hb, hj⟩ | ⟨x, hx, hb, _, _, hr⟩
    · have := hed x hx hb
      rw [beq_iff_eq] at hj
      rwa [hj] at this
    · exact reach_done hcl f x.on j hr fun o ho y hy hyb => hcl x.on o ho (hed x hx hb) y hy hyb

theorem getD_bool (listed : Array Bool) (i : Nat) (h : i < listed.size) : listed.getD i true = listed.getD i false := by
  rw [Array.getD_eq_getD_getElem?, Array.getD_eq_getD_getElem?]; simp [h]

theorem ok_pair (hok : okD A effs hard = true) {i j : Nat} {oi oj : Oper} (hi : A[i]? = some oi) (hj : A[j]? = some oj) (hji : j < i) (hr : reach A 24 i j = false) : Pair A effs hard i oi j oj := by
  simp only [okD, List.all_eq_true, List.mem_range, Bool.and_eq_true] at hok
  have hil : i < A.size := (Array.getElem?_eq_some_iff.1 hi).1
  have hjl : j < A.size := (Array.getElem?_eq_some_iff.1 hj).1
  have h1 := (hok i hil).2
  have h2 := (hok j hjl).2
  rw [hi] at h1
  rw [hj] at h2
  simp only [Bool.and_eq_true, List.all_eq_true, List.mem_range, Bool.or_eq_true] at h1 h2
  have h3 := h1.2 j hji
  rw [hj, hr] at h3
  simp only [Bool.false_eq_true, false_or] at h3
  exact Pair.of h3 h1.1 h2.1

theorem ok_back (hok : okD A effs hard = true) {i : Nat} {o : Oper} (hi : A[i]? = some o) : notSel o = true ∧ ∀ x ∈ o.after, Region.binds .any x = true → x.on < i := by
  simp only [okD, List.all_eq_true, List.mem_range, Bool.and_eq_true] at hok
  have hil : i < A.size := (Array.getElem?_eq_some_iff.1 hi).1
  have h := hok i hil
  refine ⟨?_, fun x hx hb => ?_⟩
  · have h2 := h.2; rw [hi] at h2; simp only [Bool.and_eq_true] at h2; exact h2.1
  · have h1 := h.1 x (by simp [edges, hi]; exact hx)
    simp only [Bool.or_eq_true, Bool.not_eq_true'] at h1
    rcases h1 with h1 | h1
    · simp [binds, hb] at h1
    · exact (Nat.blt_eq).mp h1

theorem notSel_noDefer {o : Oper} (h : notSel o = true) : noDefer o = true := by
  obtain ⟨dst, op, type, pos, after, guard⟩ := o
  cases op <;> simp_all [notSel, noDefer]

theorem wpAny_of_FD {r : Option Nat} {ds : List Nat} {Q : Exit → Act → World → Prop} (hok : okD A effs hard = true) (hK : ∀ e w, K e w → Q .normal (fr n e ds) w) :
    ∀ (fuel : Nat) (listed : Array Bool) (fin : Bool) (e : Env) (w : World), listed.size = A.size →
      (∀ i o, A[i]? = some o → listed.getD i true = true → ∀ x ∈ o.after, Region.binds .any x = true → listed.getD x.on true = true) →
      (rem listed (idx 0 A.toList)).length = fuel → (fin = false → Chg [] w0 w) → FD P n A effs hard w0 K (rem listed (idx 0 A.toList)) fin e w →
      wpAnyIn (Fd r) 0 P .any A Q fuel listed (fr n e ds) w := by
  intro fuel
  induction fuel with
  | zero =>
    intro listed fin e w hsz hcl hf hw h
    have hnil : rem listed (idx 0 A.toList) = [] := List.length_eq_zero_iff.1 hf
    rw [hnil] at h
    refine ⟨?_, hK e w h⟩
    apply List.eq_nil_iff_forall_not_mem.2
    intro i hi
    obtain ⟨hu, o, ho, _⟩ := mem_ready.1 hi
    have : (i, o) ∈ rem listed (idx 0 A.toList) := List.mem_filter.2 ⟨(mem_idx _ _ _ _).2 ⟨Nat.zero_le _, by simpa using ho⟩, by simp [hu]⟩
    rw [hnil] at this
    simp at this
  | succ fuel ih =>
    intro listed fin e w hsz hcl hf hw h
    refine ⟨fun hr => ?_, fun i hi => ?_⟩
    · -- something is always ready
      exfalso
      obtain ⟨⟨i, o⟩, l, hl⟩ : ∃ p l, rem listed (idx 0 A.toList) = p :: l := by
        cases hx : rem listed (idx 0 A.toList) with
        | nil => rw [hx] at hf; simp at hf
        | cons p l => exact ⟨p, l, rfl⟩
      have hm : (i, o) ∈ rem listed (idx 0 A.toList) := by rw [hl]; simp
      obtain ⟨hm1, hm2⟩ := List.mem_filter.1 hm
      have ho : A[i]? = some o := by simpa using ((mem_idx _ _ _ _).1 hm1).2
      have hil : i < A.size := (Array.getElem?_eq_some_iff.1 ho).1
      -- take the least one that is left
      have key : ∀ i, i < A.size → listed.getD i true = false → ∃ k, k ∈ Region.ready .any A listed := by
        intro i
        induction i using Nat.strongRecOn with
        | _ i ih2 =>
          intro hil hu
          by_cases hall : ∀ o, A[i]? = some o → ∀ x ∈ o.after, Region.binds .any x = true → listed.getD x.on false = true
          · exact ⟨i, mem_ready.2 ⟨hu, A[i], by simp [hil], hall _ (by simp [hil])⟩⟩
          · have hall' : ∃ o, A[i]? = some o ∧ ∃ x, x ∈ o.after ∧ Region.binds .any x = true ∧ listed.getD x.on false ≠ true := by
              apply Classical.byContradiction
              intro hno
              exact hall fun o ho x hx hb => Classical.byContradiction fun hn => hno ⟨o, ho, x, hx, hb, hn⟩
            obtain ⟨o, ho, x, hx, hb, hn⟩ := hall'
            have hlt := (ok_back hok ho).2 x hx hb
            have hxs : x.on < A.size := by omega
            refine ih2 x.on hlt hxs ?_
            rw [getD_bool _ _ (by omega)]
            simpa using hn
      obtain ⟨k, hk⟩ := key i hil (by simpa using hm2)
      rw [hr] at hk
      simp at hk
    · obtain ⟨hu, o, ho, hed⟩ := mem_ready.1 hi
      have hil : i < A.size := (Array.getElem?_eq_some_iff.1 ho).1
      have hed' : ∀ o', A[i]? = some o' → ∀ x ∈ o'.after, Region.binds .any x = true → listed.getD x.on true = true := by
        intro o' ho' x hx hb
        rw [ho] at ho'
        obtain rfl := Option.some.inj ho'
        have h1 := hed x hx hb
        have hlt := (ok_back hok ho).2 x hx hb
        rw [getD_bool _ _ (by omega)]; exact h1
      obtain ⟨l1, l2, hs, hl1, hl2⟩ := idx_split A.toList 0 i o ((mem_idx _ _ _ _).2 ⟨Nat.zero_le _, by simpa using ho⟩)
      obtain ⟨hr1, hr2⟩ := rem_set (o := o) (by omega) hu hl1 hl2
      rw [← hs] at hr1 hr2
      rw [hr1] at h hf
      have hpairs : ∀ p ∈ rem listed l1, Pair A effs hard i o p.1 p.2 := by
        rintro ⟨j, oj⟩ hp
        obtain ⟨hp1, hp2⟩ := List.mem_filter.1 hp
        have hm : (j, oj) ∈ idx 0 A.toList := by rw [hs]; simp [hp1]
        have hj : A[j]? = some oj := by simpa using ((mem_idx _ _ _ _).1 hm).2
        have hlt : j < i := hl1 _ hp1
        refine ok_pair hok ho hj hlt ?_
        cases hre : reach A 24 i j with
        | false => rfl
        | true =>
          have := reach_done (listed := listed) hcl 24 i j hre hed'
          simp [this] at hp2
      have hc := FD.take _ hpairs fin e w h
      have hsz' : (listed.setIfInBounds i true).size = A.size := by simpa using hsz
      have hcl' : ∀ j oj, A[j]? = some oj → (listed.setIfInBounds i true).getD j true = true → ∀ x ∈ oj.after, Region.binds .any x = true → (listed.setIfInBounds i true).getD x.on true = true := by
        intro j oj hj hlj x hx hb
        have hset : ∀ k, listed.getD k true = true → (listed.setIfInBounds i true).getD k true = true := by
          intro k hk
          by_cases hki : k = i
          · subst hki; rw [Array.getD_eq_getD_getElem?, Array.getElem?_setIfInBounds_self_of_lt (by omega)]; rfl
          · rw [Array.getD_eq_getD_getElem?, Array.getElem?_setIfInBounds_ne (Ne.symm hki), ← Array.getD_eq_getD_getElem?]; exact hk
        by_cases hji : j = i
        · subst hji; exact hset _ (hed' oj hj x hx hb)
        · rw [Array.getD_eq_getD_getElem?, Array.getElem?_setIfInBounds_ne (Ne.symm hji), ← Array.getD_eq_getD_getElem?] at hlj
          exact hset _ (hcl j oj hj hlj x hx hb)
      have hf' : (rem (listed.setIfInBounds i true) (idx 0 A.toList)).length = fuel := by
        rw [hr2]; simp at hf ⊢; omega
      have hgo : ∀ fin' v w', (fin' = false → Chg [] w0 w') → FD P n A effs hard w0 K (rem listed l1 ++ rem listed l2) fin' (updO e o.dst v) w' →
          wpAnyIn (Fd r) 0 P .any A Q fuel (listed.setIfInBounds i true) ((fr n e ds).put o.dst v) w' := by
        intro fin' v w' hw' hh
        rw [fr_put]
        exact ih _ fin' _ w' hsz' hcl' hf' hw' (by rw [hr2]; exact hh)
      unfold wpOpIn
      rw [ho]
      simp only
      have hwy : Region.wanted o (yielded A (fr n e ds).tmps) = Region.wanted o (yE A n e) := by
        congr 1; funext j; exact yielded_fr A j
      rw [hwy]
      unfold Clause at hc
      split
      · rename_i hwt
        rw [if_pos hwt] at hc
        rcases hc with ⟨v, h1, h2⟩ | ⟨_, f', _, _, h4⟩
        · exact wpIn_of_OpW (K := fun v' w' => v' = v ∧ w' = w) (notSel_noDefer (ok_back hok ho).1) (OpW.of (h1 w (fun hf _ => hw hf)) ⟨rfl, rfl⟩) (fun v' w' hx => by obtain ⟨rfl, rfl⟩ := hx; exact hgo fin _ _ hw h2)
        · exact wpIn_of_OpW (notSel_noDefer (ok_back hok ho).1) h4 (fun v' w' hx => hgo f' _ _ hx.1 hx.2)
      · rename_i hwt
        rw [if_neg hwt] at hc
        exact ⟨fun _ _ => trivial, hgo fin _ _ hw hc⟩

/-- A region that draws its order, walked in the order of the text. -/
theorem W.regionD {r : Option Nat} {q : Post} {ds : List Nat} {e : Env} {w : World} {id : Nat} {ops : List Oper} (effs hard : List Nat) (hm : P.follows .mixedOrders = true) (hok : okD ops.toArray effs hard = true)
    (h : ∀ w0, Chg [] w w0 → w0.heap = w.heap → FD P n ops.toArray effs hard w0 (fun e w => q.nrm ds e w) (idx 0 ops) false e w0) : W P n r (.region id ops.toArray true) q ds e w := by
  refine wpIn_region_any hm ?_
  have h' := h { w with drawn := w.drawn + 1 } (Chg.drew [] w _) rfl
  refine wpAny_of_FD hok (fun e w hq => ⟨ds, e, rfl, hq⟩) _ _ false e _ (by simp) ?_ ?_ (fun _ => Chg.refl _ _) ?_
  · intro i o ho hl
    have hil : i < ops.toArray.size := (Array.getElem?_eq_some_iff.1 ho).1
    rw [Array.getD_eq_getD_getElem?] at hl
    simp [show i < ops.length from by simpa using hil] at hl
  · have : rem (Array.replicate ops.toArray.size false) (idx 0 ops.toArray.toList) = idx 0 ops := by
      apply List.filter_eq_self.2
      rintro ⟨i, o⟩ hm
      have hx := ((mem_idx _ _ _ _).1 hm).2
      have hil : i < ops.length := by simpa using (List.getElem?_eq_some_iff.1 hx).1
      simp [Array.getD_eq_getD_getElem?, hil]
    rw [this]
    have hlen : ∀ (l : List Oper) k, (idx k l).length = l.length := by
      intro l; induction l with
      | nil => intro k; rfl
      | cons x l ih => intro k; simp [idx, ih]
    simp [hlen]
  · have : rem (Array.replicate ops.toArray.size false) (idx 0 ops.toArray.toList) = idx 0 ops := by
      apply List.filter_eq_self.2
      rintro ⟨i, o⟩ hm
      have hx := ((mem_idx _ _ _ _).1 hm).2
      have hil : i < ops.length := by simpa using (List.getElem?_eq_some_iff.1 hx).1
      simp [Array.getD_eq_getD_getElem?, hil]
    rw [this]; exact h'

end
end Sg
end Go.Proofs.YtkoejelglinmnaaGreat

/-
  The program logic, eighth part: the rules for a region that draws its order.
-/
namespace Go.Proofs.YtkoejelglinmnaaGreat
namespace Sg

section
variable {P : Program} {n : Nat} {A : Array Oper} {effs hard : List Nat} {w0 : World} {K : Env → World → Prop} {rest : List (Nat × Oper)} {fin : Bool} {e : Env} {w : World}
  {d : Option Tmp} {ty : TypeId} {pos : String} {aft : Array Edge} {i : Nat}

/-- The operation only reads: this is its value. -/
def Rn (P : Program) (n : Nat) (e : Env) (op : Op) (ty : TypeId) (w : World) (v : Value) : Prop :=
  (execOp (ev n e) ⟨none, op, ty, "", #[], none⟩).run P w = .ok (.value v) w

theorem Rn.run {op : Op} {v : Value} {g : Option (Nat × Bool)} (h : Rn P n e op ty w v) : (execOp (ev n e) ⟨d, op, ty, pos, aft, g⟩).run P w = .ok (.value v) w := h

theorem FD.nil (h : K e w) : FD P n A effs hard w0 K [] fin e w := h

theorem FD.val {op : Op} {v : Value} (h : ∀ w', (fin = false → worldFree ⟨d, op, ty, pos, aft, none⟩ = false → Chg [] w0 w') → Rn P n e op ty w' v) (k : FD P n A effs hard w0 K rest fin (updO e d v) w) :
    FD P n A effs hard w0 K ((i, ⟨d, op, ty, pos, aft, none⟩) :: rest) fin e w := by
  simp only [FD, Clause, Region.wanted, if_true]
  exact .inl ⟨v, h, k⟩

theorem FD.on {op : Op} {j t : Nat} {b : Bool} (hd : (A[j]?).bind (·.dst) = some t) (hv : ev n e (.tmp t) = .bool b)
    (h : FD P n A effs hard w0 K ((i, ⟨d, op, ty, pos, aft, none⟩) :: rest) fin e w) : FD P n A effs hard w0 K ((i, ⟨d, op, ty, pos, aft, some (j, b)⟩) :: rest) fin e w := by
  have hy : yE A n e j = some b := by simp only [yE, hd, hv]
  have h' := h
  simp only [FD, Clause, Region.wanted, if_true] at h'
  simp only [FD, Clause, Region.wanted, hy, BEq.rfl, if_true]
  exact h'

theorem FD.off {op : Op} {j t : Nat} {b c : Bool} (hd : (A[j]?).bind (·.dst) = some t) (hv : ev n e (.tmp t) = .bool c) (hbc : (c == b) = false)
    (h : FD P n A effs hard w0 K rest fin (updO e d undef) w) : FD P n A effs hard w0 K ((i, ⟨d, op, ty, pos, aft, some (j, b)⟩) :: rest) fin e w := by
  have hy : yE A n e j = some c := by simp only [yE, hd, hv]
  have : (some c == some b) = false := by simpa using hbc
  simp only [FD, Clause, Region.wanted, hy, this]
  exact h

theorem opW_of_flow {op : Op} {K' : Env → World → Prop} (h : Flow P n A [⟨d, op, ty, pos, aft, none⟩] e w K') :
    OpW P (ev n e) ⟨d, op, ty, pos, aft, none⟩ w fun v w' => K' (updO e d v) w' := by
  simpa only [Flow, Region.wanted, if_true] using h

/-- An effect by which the world only grows. -/
theorem FD.eff {op : Op} (he : effs.contains i = true) (hw : Chg [] w0 w) (h : Flow P n A [⟨d, op, ty, pos, aft, none⟩] e w fun e' w' => Chg [] w w' ∧ FD P n A effs hard w0 K rest false e' w') :
    FD P n A effs hard w0 K ((i, ⟨d, op, ty, pos, aft, none⟩) :: rest) false e w := by
  have h' := opW_of_flow h
  simp only [FD, Clause, Region.wanted, if_true]
  exact .inr ⟨he, false, by simp, .inl rfl, After.mono h' fun v w' ⟨h1, h2⟩ => ⟨fun _ => hw.then h1, h2⟩⟩

/-- An effect behind which nothing reads the world any more, but what waits for it. -/
theorem FD.hardE {op : Op} (he : effs.contains i = true) (hh : hard.contains i = true) (h : Flow P n A [⟨d, op, ty, pos, aft, none⟩] e w fun e' w' => FD P n A effs hard w0 K rest true e' w') :
    FD P n A effs hard w0 K ((i, ⟨d, op, ty, pos, aft, none⟩) :: rest) fin e w := by
  have h' := opW_of_flow h
  simp only [FD, Clause, Region.wanted, if_true]
  exact .inr ⟨he, true, by simp, .inr hh, After.mono h' fun v w' h2 => ⟨by simp, h2⟩⟩

theorem Rn.move {x : Operand} {v : Value} (hx : ev n e x = v) : Rn P n e (.move x) ty w v := by simp [Rn, execOp, pure, hx]
theorem Rn.assign {x : Operand} {v : Value} (hx : ev n e x = v) : Rn P n e (.assign x) ty w v := by simp [Rn, execOp, pure, hx]
theorem Rn.moveC {v : Value} : Rn P n e (.move (.const v)) ty w v := Rn.move rfl
theorem Rn.assignC {v : Value} : Rn P n e (.assign (.const v)) ty w v := Rn.assign rfl
theorem Rn.pickT {c x y : Operand} {v : Value} (hc : ev n e c = .bool true) (hx : ev n e x = v) : Rn P n e (.pick c x y) ty w v := by simp [Rn, execOp, go_sem, hc, hx]
theorem Rn.pickF {c x y : Operand} {v : Value} (hc : ev n e c = .bool false) (hx : ev n e y = v) : Rn P n e (.pick c x y) ty w v := by simp [Rn, execOp, go_sem, hc, hx]
theorem Rn.pick {c x y : Operand} {b : Bool} (hc : ev n e c = .bool b) : Rn P n e (.pick c x y) ty w (if b then ev n e x else ev n e y) := by simp [Rn, execOp, go_sem, hc]
theorem Rn.not {t : TypeId} {x : Operand} {b : Bool} (hx : ev n e x = .bool b) : Rn P n e (.unOp .not t x) ty w (.bool !b) := by simp [Rn, execOp, go_sem, hx, Op.unary]

section arith
variable {t t' : TypeId} {x y : Operand} {k : IntKind} {a b : Int} {c : Bool}
theorem Rn.add (hx : ev n e x = .int .i64 a) (hy : ev n e y = .int .i64 b) (h1 : -9223372036854775808 ≤ a + b) (h2 : a + b ≤ 9223372036854775807) : Rn P n e (.binOp .add t x y t') ty w (.int .i64 (a + b)) := by
  simp [Rn, execOp, go_sem, hx, hy, binOp, Op.intArith, eqGuard]; exact wrap_i64 h1 h2
theorem Rn.sub (hx : ev n e x = .int .i64 a) (hy : ev n e y = .int .i64 b) (h1 : -9223372036854775808 ≤ a - b) (h2 : a - b ≤ 9223372036854775807) : Rn P n e (.binOp .sub t x y t') ty w (.int .i64 (a - b)) := by
  simp [Rn, execOp, go_sem, hx, hy, binOp, Op.intArith, eqGuard]; exact wrap_i64 h1 h2
theorem Rn.rem (hx : ev n e x = .int k a) (hy : ev n e y = .int k b) (hb : b ≠ 0) : Rn P n e (.binOp .rem t x y t') ty w (.int k (a.tmod b)) := by
  simp [Rn, execOp, go_sem, hx, hy, binOp, Op.intDiv, eqGuard, hb]
theorem Rn.lssD (hx : ev n e x = .int k a) (hy : ev n e y = .int k b) (hc : decide (a < b) = c) : Rn P n e (.binOp .lss t x y t') ty w (.bool c) := by
  subst hc; simp [Rn, execOp, go_sem, hx, hy, binOp, Op.intCmp, eqGuard]
theorem Rn.leqD (hx : ev n e x = .int k a) (hy : ev n e y = .int k b) (hc : decide (a ≤ b) = c) : Rn P n e (.binOp .leq t x y t') ty w (.bool c) := by
  subst hc; simp [Rn, execOp, go_sem, hx, hy, binOp, Op.intCmp, eqGuard]
theorem Rn.gtrD (hx : ev n e x = .int k a) (hy : ev n e y = .int k b) (hc : decide (b < a) = c) : Rn P n e (.binOp .gtr t x y t') ty w (.bool c) := by
  subst hc; simp [Rn, execOp, go_sem, hx, hy, binOp, Op.intCmp, eqGuard]
theorem Rn.geqD (hx : ev n e x = .int k a) (hy : ev n e y = .int k b) (hc : decide (b ≤ a) = c) : Rn P n e (.binOp .geq t x y t') ty w (.bool c) := by
  subst hc; simp [Rn, execOp, go_sem, hx, hy, binOp, Op.intCmp, eqGuard]
theorem Rn.eqlD (hx : ev n e x = .int k a) (hy : ev n e y = .int k b) (hc : decide (a = b) = c) : Rn P n e (.binOp .eql t x y t') ty w (.bool c) := by
  subst hc; simp [Rn, execOp, go_sem, hx, hy, binOp, Op.intCmp, eqGuard]; rfl
theorem Rn.neqD (hx : ev n e x = .int k a) (hy : ev n e y = .int k b) (hc : decide (a ≠ b) = c) : Rn P n e (.binOp .neq t x y t') ty w (.bool c) := by
  subst hc; simp [Rn, execOp, go_sem, hx, hy, binOp, Op.intCmp, eqGuard, bne, BEq.beq]
end arith

theorem Rn.extract {x : Operand} {j : Nat} {vs : Array Value} {v : Value} (hx : ev n e x = .tuple vs) (hv : vs[j]? = some v) : Rn P n e (.extract x j) ty w v := by
  simp [Rn, execOp, go_sem, hx, Instr.extract, hv]
theorem Rn.nilCheck {x : Operand} {a : Addr} (hx : ev n e x = .pointer (some a)) : Rn P n e (.nilCheck x) ty w (.pointer (some a)) := by
  simp [Rn, execOp, go_sem, hx]
theorem Rn.load1 {t : TypeId} {s : Nat} {z : Value} {x : Operand} {a : Addr} {v : Value} (ht : Ty P t false s z) (hx : ev n e x = .pointer (some a)) (hc : w0.cell? a = some v) (hw : Chg [] w0 w) :
    Rn P n e (.load t x) ty w v := by
  have := cell_chg hc hw (by simp)
  simp [Rn, execOp, hx, Instr.loadAt, Instr.sureAddr, Sem.run_bind, run_load1 ht this, Result.andThen, pure, Sem.run]
theorem Rn.loadA {t : TypeId} {s : Nat} {z : Value} {x : Operand} {b o : Nat} {l : List Value} (ht : Ty P t true s z) (hx : ev n e x = .pointer (some ⟨b, o, none⟩))
    (hs : l.length = s) (hc : Cells w0 b o l) (hw : Chg [] w0 w) : Rn P n e (.load t x) ty w (.agg l.toArray) := by
  have := Cells.chg hw (b := b) (by simp) hc
  simp [Rn, execOp, hx, Instr.loadAt, Instr.sureAddr, Sem.run_bind, run_loadAgg ht hs this, Result.andThen, pure, Sem.run]
theorem Rn.fieldAddr {s : TypeId} {f off : Nat} {x : Operand} {b o : Nat} (hF : FieldOf P s f off) (hx : ev n e x = .pointer (some ⟨b, o, none⟩)) :
    Rn P n e (.fieldAddr s x f) ty w (.pointer (some ⟨b, o + off, none⟩)) := by
  obtain ⟨fs, fd, i, h1, h2, h3, h4, h5⟩ := hF.ex
  simp [Rn, execOp, hx, Instr.fieldAt, Instr.sureAddr, Sem.run_bind, run_underlying h1, Result.andThen, pure, Sem.run, h2, fieldPlace, run_sizeOf h4, h5, addr_add, h3]
theorem Rn.len {x : Operand} {t : TypeId} {ats : Array TypeId} {dd : TypeDesc} {a : Option Addr} {l c : Nat} (ht : ats[0]? = some t) (hd : P.underlying t = some dd) (hs : (match dd with | .slice _ => true | _ => false) = true)
    (hx : ev n e x = .slice a l c) : Rn P n e (.call { callee := .builtin .len, args := #[x], argTypes := ats }) ty w (.int .i64 l) := by
  cases dd <;> simp at hs
  simp [Rn, execOp, resolve, Sem.run_bind, Result.andThen, pure, Sem.run, invoke, builtin, Builtin.len_, ht, hx, run_underlying hd, goInt]
theorem Rn.indexAddr {t : TypeId} {s by_ : Nat} {z : Value} {x y : Operand} {b o l c : Nat} {k : IntKind} {j : Int} (ht : SliceTy P t s by_ z) (hx : ev n e x = .slice (some ⟨b, o, none⟩) l c) (hy : ev n e y = .int k j)
    (h0 : 0 ≤ j) (h1 : j < l) : Rn P n e (.indexAddr t x y) ty w (.pointer (some ⟨b, o + j.toNat * s, none⟩)) := by
  obtain ⟨el, i', hu, hi, hs, _⟩ := ht.ex
  simp [Rn, execOp, hx, hy, Instr.indexAt, asIntOf, Sem.run_bind, run_underlying hu, Result.andThen, pure, Sem.run, h0, h1, run_sizeOf hi, addr_add, hs]
theorem Rn.indexAddr1 {t : TypeId} {by_ : Nat} {z : Value} {x y : Operand} {b o l c : Nat} {k : IntKind} {j : Int} (ht : SliceTy P t 1 by_ z) (hx : ev n e x = .slice (some ⟨b, o, none⟩) l c) (hy : ev n e y = .int k j)
    (h0 : 0 ≤ j) (h1 : j < l) : Rn P n e (.indexAddr t x y) ty w (.pointer (some ⟨b, o + j.toNat, none⟩)) := by
  have := Rn.indexAddr (ty := ty) (w := w) ht hx hy h0 h1
  rwa [Nat.mul_one] at this
theorem Rn.indexAddrA {t : TypeId} {len : Nat} {x y : Operand} {b o : Nat} {k : IntKind} {j : Int} (ht : ArrTy P t len) (hx : ev n e x = .pointer (some ⟨b, o, none⟩)) (hy : ev n e y = .int k j)
    (h0 : 0 ≤ j) (h1 : j < len) : Rn P n e (.indexAddr t x y) ty w (.pointer (some ⟨b, o + j.toNat, none⟩)) := by
  obtain ⟨el, i', hu, hi, hs⟩ := ht.ex
  simp [Rn, execOp, hx, hy, Instr.indexAt, Instr.sureAddr, asIntOf, Sem.run_bind, run_underlying hu, Result.andThen, pure, Sem.run, h0, h1, run_sizeOf hi, addr_add, hs]
theorem Rn.convert {t t' : TypeId} {k k' : IntKind} {x : Operand} {a : Int} (hu : P.underlying t' = some (.int k')) (hs : (P.underlying t).isSome = true) (hx : ev n e x = .int k a) (hw : k'.wrap a = a) :
    Rn P n e (.convert t t' x) ty w (.int k' a) := by
  obtain ⟨dd, hd⟩ := Option.isSome_iff_exists.1 hs
  simp [Rn, execOp, hx, Go.convert, Sem.run_bind, run_underlying hd, run_underlying hu, Result.andThen, pure, Sem.run, Conv.intToInt, hw]

end
end Sg
end Go.Proofs.YtkoejelglinmnaaGreat

/-
  The program logic, ninth part: append, copy, clear, slices of slices, make, maps, structs.
-/
namespace Go.Proofs.YtkoejelglinmnaaGreat
namespace Sg

/-- A slice of the call's own: nil, or at the head of a block that is known whole. -/
def Own (w : World) (el : TypeId) (sz : Nat) (a : Option Addr) (len cap : Nat) (xs : List Value) : Prop :=
  xs.length = len * sz ∧ ((a = none ∧ len = 0 ∧ cap = 0) ∨ ∃ g cs, a = some ⟨g, 0, none⟩ ∧ Blk w g cs el ∧ len ≤ cap ∧ cap ≤ maxLen ∧ cs.length = cap * sz ∧ cs.take (len * sz) = xs)

def ownB : Option Addr → List Nat
  | some x => [x.block]
  | none => []

theorem Own.nil (w : World) (el : TypeId) (sz : Nat) : Own w el sz none 0 0 [] := ⟨by simp, .inl ⟨rfl, rfl, rfl⟩⟩

theorem Own.of_blk {w : World} {el : TypeId} {sz g len : Nat} {cs : List Value} (h : Blk w g cs el) (hl : cs.length = len * sz) (hm : len ≤ 1000000000) : Own w el sz (some ⟨g, 0, none⟩) len len cs :=
  ⟨hl, .inr ⟨g, cs, rfl, h, Nat.le_refl _, by unfold maxLen; omega, hl, by rw [← hl]; exact List.take_length⟩⟩

theorem Own.chg {w w' : World} {el : TypeId} {sz : Nat} {a : Option Addr} {len cap : Nat} {xs : List Value} {S : List Nat} (h : Own w el sz a len cap xs) (hc : Chg S w w') (hS : ∀ b ∈ ownB a, b ∉ S) :
    Own w' el sz a len cap xs := by
  refine ⟨h.1, ?_⟩
  rcases h.2 with h | ⟨g, cs, rfl, hb, h1, h2, h3, h4⟩
  · exact .inl h
  · exact .inr ⟨g, cs, rfl, hb.chg hc (hS g (by simp [ownB])), h1, h2, h3, h4⟩

theorem Own.lt {w : World} {el : TypeId} {sz : Nat} {a : Option Addr} {len cap : Nat} {xs : List Value} (h : Own w el sz a len cap xs) : ∀ b ∈ ownB a, b < w.heap.size := by
  rcases h.2 with ⟨rfl, _⟩ | ⟨g, cs, rfl, hb, _⟩
  · simp [ownB]
  · intro b hm; simp [ownB] at hm; subst hm; exact hb.lt

theorem Own.ext {w w' : World} {el : TypeId} {sz : Nat} {a : Option Addr} {len cap : Nat} {xs : List Value} (h : Own w el sz a len cap xs) (hc : Chg [] w w') : Own w' el sz a len cap xs := h.chg hc (by simp)

theorem oneV_of {v : Value} (h : oneV v = true) : v.oneCell' = true := by cases v <;> simp_all [oneV, Value.oneCell']

theorem Cells.get {w : World} {b : Nat} : ∀ {l : List Value} {o j : Nat} {v : Value}, Cells w b o l → l[j]? = some v → w.cell? ⟨b, o + j, none⟩ = some v
  | [], _, _, _, _, h => by simp at h
  | x :: l, o, 0, v, ⟨h, _⟩, hj => by simp at hj; subst hj; exact h
  | x :: l, o, j + 1, v, ⟨_, k⟩, hj => by
    have := Cells.get (j := j) k (by simpa using hj)
    rwa [show o + 1 + j = o + (j + 1) from by omega] at this

theorem Cells.drew {w : World} {b : Nat} : ∀ {l : List Value} {o : Nat}, Cells w b o l → Cells w.drew b o l
  | [], _, _ => trivial
  | _ :: _, _, ⟨h, k⟩ => ⟨h, Cells.drew k⟩

section
variable {P : Program} {n : Nat} {rest : List Oper} {A : Array Oper} {e : Env} {w : World} {K : Env → World → Prop} {d : Option Tmp} {ty : TypeId} {pos : String} {aft : Array Edge}

theorem chg_setRow (w : World) (g : Nat) (cs : Array Value) : Chg [g] w (w.setRow g cs) :=
  ⟨by simp, fun b _ hne => setRow_other w g b cs (by simpa using hne), rfl, rfl, rfl⟩

theorem chg_grown (w : World) (o : Obj) : Chg [] w (w.drew.alloc o) :=
  ⟨by simp, fun b hb _ => RowKit.Below.heap_alloc w.drew o b hb, rfl, rfl, rfl⟩

theorem run_append {t el : TypeId} {i : TypeInfo} {z : Value} {sz by_ : Nat} (hu : P.underlying t = some (.slice el)) (hi : P.info? el = some i) (hs : i.size = sz) (hby : i.bytes = by_) (hz : i.zero = some z) (hzs : z.cells.size = sz) (hsz : 0 < sz)
    {a : Option Addr} {len cap m c bx ox : Nat} {xs ys : List Value} (ho : Own w el sz a len cap xs) (hy : Cells w bx ox ys) (hl : ys.length = m * sz) (h1 : ys.all oneV = true) (hn : (len + m) * by_ ≤ 1000000000) (hn' : len + m ≤ 1000000000) :
    ∃ a' cap' w', (Builtin.append_ #[t, t] ty #[.slice a len cap, .slice (some ⟨bx, ox, none⟩) m c]).run P w = .ok (.slice a' (len + m) cap') w' ∧ Own w' el sz a' (len + m) cap' (xs ++ ys) ∧ Chg (ownB a) w w' ∧
      (a' = a ∨ ∃ g, a' = some ⟨g, 0, none⟩ ∧ w.heap.size ≤ g) ∧ (a' = none → a = none ∧ m = 0) := by
  have hnews : ∀ j v, ys[j]? = some v → w.cell? ((⟨bx, ox, none⟩ : Addr).add j) = some v := fun j v hj => by rw [addr_add]; exact hy.get hj
  have h1' : ∀ u ∈ ys, u.oneCell' = true := fun u hu => oneV_of (List.all_eq_true.1 h1 u hu)
  subst hs hby
  have hlen : (xs ++ ys).length = (len + m) * i.size := by rw [List.length_append, ho.1, hl, Nat.add_mul]
  have grown : ∀ old, old < len + m → Own (w.drew.alloc (.cells (xs.toArray ++ ys.toArray ++ Builtin.zeroCells z.cells (grownCap w (len + m) old el - (len + m))) el)) el i.size (some ⟨w.heap.size, 0, none⟩) (len + m) (grownCap w (len + m) old el) (xs ++ ys) := by
    intro old hold
    have hge := grownCap_ge w (len + m) old el
    have hcm := grownCap_le_maxLen w (len + m) old el (by unfold maxLen; omega)
    refine ⟨hlen, .inr ⟨w.heap.size, (xs.toArray ++ ys.toArray ++ Builtin.zeroCells z.cells (grownCap w (len + m) old el - (len + m))).toList, rfl, ?_, hge, hcm, ?_, ?_⟩⟩
    · exact heap_alloc_new w.drew _
    · simp only [Array.length_toList, Array.size_append, List.size_toArray, size_zeroCells, hzs, ho.1, hl, ← Nat.add_mul]
      congr 1; omega
    · simp only [Array.toList_append, List.append_assoc]
      rw [← List.append_assoc, ← hlen]
      exact List.take_left
  rcases ho.2 with ⟨rfl, rfl, rfl⟩ | ⟨g, cs, rfl, hb, h2, h3, h4, h5⟩
  · have hx : xs = [] := List.eq_nil_of_length_eq_zero (by simpa using ho.1)
    subst hx
    by_cases hm : m = 0
    · subst hm
      have hyn : ys = [] := List.eq_nil_of_length_eq_zero (by simpa using hl)
      subst hyn
      refine ⟨none, 0, w, ?_, Own.nil w el i.size, Chg.refl _ _, .inl rfl, fun _ => ⟨rfl, rfl⟩⟩
      simp [Builtin.append_, Go.run_underlying hu, sizeOf, typeInfo, hi, Builtin.lenOf, Builtin.firstCells, loadCells, loadCellsFrom]
    · have hr := run_append_nil (P := P) w t ty el i z hu hi hz ⟨bx, ox, none⟩ m c ys hl hnews (by omega) (by omega) (by simp only [Nat.zero_add] at hn; omega)
      have hgr := grown 0 (by omega)
      simp only [Nat.zero_add, List.nil_append, Array.empty_append] at hgr ⊢
      exact ⟨_, _, _, hr, hgr, (chg_grown w _).mono (by simp), .inr ⟨_, rfl, Nat.le_refl _⟩, by simp⟩
  · by_cases hroom : len + m ≤ cap
    · have hfit : len * i.size + ys.length ≤ cs.toArray.size := by simp only [List.size_toArray]; rw [hl, h4, ← Nat.add_mul]; exact Nat.mul_le_mul_right _ hroom
      have hr := run_append_room (P := P) w t ty el i hu hi g len cap cs.toArray hb ⟨bx, ox, none⟩ m c ys hl hnews h1' hroom hfit
      refine ⟨_, _, _, hr, ⟨hlen, .inr ⟨g, _, rfl, setRow_heap w g cs.toArray _ el _ hb, hroom, h3, ?_, ?_⟩⟩, chg_setRow w g _, .inl rfl, by simp⟩
      · simp only [List.length_append, List.length_take, List.length_drop, List.size_toArray] at hfit ⊢
        omega
      · simp only [] at h5 ⊢
        rw [h5, ← hlen]
        exact List.take_left
    · have holds : ∀ j u, xs[j]? = some u → w.cell? ((⟨g, 0, none⟩ : Addr).add j) = some u := by
        intro j u hj
        rw [addr_add, hb.cell]
        rw [← h5, List.getElem?_take] at hj
        split at hj
        · simpa using hj
        · cases hj
      have hr := run_append_grow (P := P) w t ty el i z hu hi hz ⟨g, 0, none⟩ len cap xs ho.1 holds ⟨bx, ox, none⟩ m c ys hl hnews (by omega) (by omega) (growslice_fits (by omega) (by omega))
      exact ⟨_, _, _, hr, grown cap (by omega), (chg_grown w _).mono (by simp), .inr ⟨_, rfl, Nat.le_refl _⟩, by simp⟩

theorem Flow.append {t el : TypeId} {sz by_ : Nat} {z : Value} {s x : Operand} {a : Option Addr} {len cap m c bx ox : Nat} {xs ys : List Value} (ht : SliceTy P t sz by_ z) (hu : P.underlying t = some (.slice el))
    (hzs : z.cells.size = sz) (hsz : 0 < sz) (hs : ev n e s = .slice a len cap) (hx : ev n e x = .slice (some ⟨bx, ox, none⟩) m c) (ho : Own w el sz a len cap xs) (hy : Cells w bx ox ys) (hl : ys.length = m * sz) (h1 : ys.all oneV = true)
    (hn : (len + m) * by_ ≤ 1000000000) (hn' : len + m ≤ 1000000000)
    (h : ∀ a' cap' w', Own w' el sz a' (len + m) cap' (xs ++ ys) → Chg (ownB a) w w' → (a' = a ∨ ∃ g, a' = some ⟨g, 0, none⟩ ∧ w.heap.size ≤ g) → (a' = none → a = none ∧ m = 0) → Flow P n A rest (updO e d (.slice a' (len + m) cap')) w' K) :
    Flow P n A (⟨d, .call { callee := .builtin .append, args := #[s, x], argTypes := #[t, t] }, ty, pos, aft, none⟩ :: rest) e w K := by
  obtain ⟨el', i, hu', hi, hs', hby, hz⟩ := ht.ex
  rw [hu] at hu'
  obtain rfl : el = el' := by simpa using hu'
  obtain ⟨a', cap', w', hr, h2, h3, h4, h5⟩ := run_append (ty := ty) hu hi hs' hby hz hzs hsz ho hy hl h1 hn hn' (c := c)
  refine Flow.val rfl (v := .slice a' (len + m) cap') (w' := w') ?_ (h _ _ _ h2 h3 h4 h5)
  simp [execOp, resolve, Sem.run_bind, Result.andThen, pure, Sem.run, invoke, builtin, hs, hx, hr]

/-- append(s, x...) where x holds nothing. -/
theorem Flow.append0 {t el : TypeId} {sz by_ : Nat} {z : Value} {s x : Operand} {a : Option Addr} {len cap c : Nat} {ax : Option Addr} (ht : SliceTy P t sz by_ z) (hu : P.underlying t = some (.slice el))
    (hs : ev n e s = .slice a len cap) (hx : ev n e x = .slice ax 0 c) (hlc : len ≤ cap)
    (h : Flow P n A rest (updO e d (.slice a len cap)) w K) :
    Flow P n A (⟨d, .call { callee := .builtin .append, args := #[s, x], argTypes := #[t, t] }, ty, pos, aft, none⟩ :: rest) e w K := by
  obtain ⟨el', i, hu', hi, hs', hby, hz⟩ := ht.ex
  rw [hu] at hu'
  obtain rfl : el = el' := by simpa using hu'
  refine Flow.val rfl (v := .slice a len cap) (w' := w) ?_ h
  cases a <;> cases ax <;> simp [execOp, resolve, Sem.run_bind, Result.andThen, pure, Sem.run, invoke, builtin, hs, hx, Builtin.append_, Go.run_underlying hu, sizeOf, typeInfo, hi, Builtin.lenOf, Builtin.firstCells, loadCells, loadCellsFrom, hlc, storeCells]

/-! ### new slices -/
theorem fill_one (size : Nat) (v : Value) (zs : Array Value) (hv : v.cells.size = size) (hz : zs.size = size) : Instr.fill (fun i => some (i * size, size)) zs [(0, v)] = some v.cells := by
  simp only [Instr.fill, Nat.zero_mul, hv, ne_eq, not_true_eq_false, decide_false, Nat.zero_add, hz, gt_iff_lt, Nat.lt_irrefl, Bool.or_self, Bool.false_eq_true, if_false]
  congr 1
  have key : ∀ (l : List Value) (k : Nat) (acc : Array Value), k + l.length ≤ acc.size →
      (l.zipIdx k).foldl (fun cs (p : Value × Nat) => cs.setIfInBounds p.2 p.1) acc = (acc.toList.take k ++ l ++ acc.toList.drop (k + l.length)).toArray := by
    intro l
    induction l with
    | nil => intro k acc _; simp
    | cons x l ih =>
      intro k acc hk
      simp only [List.length_cons] at hk
      simp only [List.zipIdx_cons, List.foldl_cons]
      rw [ih (k + 1) _ (by simp; omega)]
      congr 1
      simp only [Array.toList_setIfInBounds]
      have e1 : (acc.toList.set k x).take (k + 1) = acc.toList.take k ++ [x] := by
        rw [List.take_add_one]
        simp [List.take_set, show k < acc.size from by omega]
        rw [List.set_eq_of_length_le (by simp; omega)]
      have e2 : (acc.toList.set k x).drop (k + 1 + l.length) = acc.toList.drop (k + (l.length + 1)) := by
        rw [List.drop_set_of_lt (by omega)]; congr 1; omega
      rw [e1, e2]; simp
  have h := key v.cells.toList 0 zs (by simp [hv, hz])
  rw [← Array.foldl_toList, Array.toList_zipIdx]
  refine Eq.trans ?_ (h.trans ?_)
  · rfl
  · have : zs.toList.drop size = [] := List.drop_eq_nil_of_le (by simp [hz])
    simp [hv, this]

theorem Flow.buildSlice1 {t el : TypeId} {sz by_ : Nat} {z : Value} {x : Operand} {v : Value} {cs : List Value} (ht : SliceTy P t sz by_ z) (hu : P.underlying t = some (.slice el)) (hzs : z.cells.size = sz) (hsz : 0 < sz) (hle : sz ≤ 1000)
    (hx : ev n e x = v) (hcs : v.cells.toList = cs) (hl : cs.length = sz)
    (h : ∀ w', Chg [] w w' → w'.heap.size = w.heap.size + 1 → Blk w' w.heap.size cs el → Flow P n A rest (updO e d (.slice (some ⟨w.heap.size, 0, none⟩) 1 1)) w' K) :
    Flow P n A (⟨d, .buildSlice t 1 #[(0, x)], ty, pos, aft, none⟩ :: rest) e w K := by
  obtain ⟨el', i, hu', hi, hs', hby, hz⟩ := ht.ex
  rw [hu] at hu'
  obtain rfl : el = el' := by simpa using hu'
  have hv : v.cells.size = sz := by rw [← hl, ← hcs]; simp
  refine Flow.val rfl (v := .slice (some ⟨w.heap.size, 0, none⟩) 1 1) (w' := w.alloc (.cells v.cells el)) ?_ (h _ (Chg.alloc _ _ _) (by simp) ?_)
  · have hf := fill_one sz v ((Array.range sz).map fun x => z.cells[x % z.cells.size]!) hv (by simp)
    have h24 : ¬ (2 ^ 24 < sz) := by omega
    have h0 : sz ≠ 0 := by omega
    simp [execOp, Instr.buildSlice, Sem.run_bind, Go.run_underlying hu, Result.andThen, pure, Sem.run, run_sizeOf hi, hs', h24, h0, run_zeroValue hi hz, hx, hf, run_newRow]
  · have := Blk.alloc w cs el
    rw [← hcs] at this ⊢
    simpa using this

theorem Flow.buildSlice0 {t el : TypeId} {sz by_ : Nat} {z : Value} (ht : SliceTy P t sz by_ z) (hu : P.underlying t = some (.slice el))
    (h : ∀ w', Chg [] w w' → w'.heap.size = w.heap.size + 1 → Blk w' w.heap.size [] el → Flow P n A rest (updO e d (.slice (some ⟨w.heap.size, 0, none⟩) 0 0)) w' K) :
    Flow P n A (⟨d, .buildSlice t 0 #[], ty, pos, aft, none⟩ :: rest) e w K := by
  obtain ⟨el', i, hu', hi, hs', hby, hz⟩ := ht.ex
  rw [hu] at hu'
  obtain rfl : el = el' := by simpa using hu'
  refine Flow.val rfl (v := .slice (some ⟨w.heap.size, 0, none⟩) 0 0) (w' := w.alloc (.cells #[] el)) ?_ (h _ (Chg.alloc _ _ _) (by simp) (Blk.alloc w [] el))
  have h0 : Array.range 0 = #[] := rfl
  simp [execOp, Instr.buildSlice, Sem.run_bind, Go.run_underlying hu, Result.andThen, pure, Sem.run, run_sizeOf hi, hs', run_newRow, Instr.fill, h0]

theorem Flow.makeSlice {t el : TypeId} {sz by_ : Nat} {z c0 : Value} {x y : Operand} {l : Nat} (ht : SliceTy P t sz by_ z) (hu : P.underlying t = some (.slice el)) (hz0 : z.cells = Array.replicate sz c0) (hsz : 0 < sz)
    (hx : ev n e x = .int .i64 l) (hy : ev n e y = .int .i64 l) (hb : by_ * l ≤ 1000000000) (hl : l ≤ 1000000000)
    (h : ∀ w', Chg [] w w' → w'.heap.size = w.heap.size + 1 → Blk w' w.heap.size (List.replicate (l * sz) c0) el → Flow P n A rest (updO e d (.slice (some ⟨w.heap.size, 0, none⟩) l l)) w' K) :
    Flow P n A (⟨d, .makeSlice t x y, ty, pos, aft, none⟩ :: rest) e w K := by
  obtain ⟨el', i, hu', hi, hs', hby, hz⟩ := ht.ex
  rw [hu] at hu'
  obtain rfl : el = el' := by simpa using hu'
  have hb' : (i.bytes : Int) * (l : Int) ≤ 281474976710656 := by rw [hby]; have : ((by_ * l : Nat) : Int) ≤ 1000000000 := by omega
                                                                 rw [Int.natCast_mul] at this; omega
  have hr := run_make (P := P) w t el i z hu hi hz .i64 .i64 l l (by omega) (by omega) hb' (by omega)
  have hm : madeCells z.cells (l * sz) = (List.replicate (l * sz) c0).toArray := by
    apply Array.ext'
    simp only [madeCells, Array.toList_map, Array.toList_range, hz0, Array.size_replicate]
    apply List.ext_getElem
    · simp
    · intro j h1 h2
      simp only [List.getElem_map, List.getElem_range, List.getElem_replicate]
      have : j % sz < sz := Nat.mod_lt _ hsz
      simp [this]
  refine Flow.val rfl (v := .slice (some ⟨w.heap.size, 0, none⟩) l l) (w' := w.alloc (.cells (List.replicate (l * sz) c0).toArray el)) ?_ (h _ (Chg.alloc _ _ _) (by simp) (Blk.alloc w _ el))
  simp only [Int.toNat_natCast, hs', hm] at hr
  simp [execOp, Sem.run_bind, hx, hy, hr, Result.andThen, pure, Sem.run]

/-! ### parts of slices -/
theorem run_slice {t el : TypeId} {i : TypeInfo} {a : Option Addr} {len cap : Nat} (hu : P.underlying t = some (.slice el)) (hi : P.info? el = some i) {lo hi' : Option Value} {l h : Nat}
    (hlo : lo = none ∧ l = 0 ∨ ∃ k, lo = some (.int k l)) (hhi : hi' = none ∧ h = len ∨ ∃ k, hi' = some (.int k h)) (h1 : l ≤ h) (h2 : h ≤ cap) :
    (Instr.sliceAt t (.slice a len cap) lo hi' none).run P w = .ok (.slice (if cap = l then a else a.map (·.add (l * i.size))) (h - l) (cap - l)) w := by
  have h1' : (l : Int) ≤ (h : Int) := by omega
  have h2' : (h : Int) ≤ (cap : Int) := by omega
  rcases hlo with ⟨rfl, rfl⟩ | ⟨k, rfl⟩ <;> rcases hhi with ⟨rfl, rfl⟩ | ⟨k', rfl⟩ <;>
    simp [Instr.sliceAt, Sem.run_bind, Go.run_underlying hu, Result.andThen, Instr.slice, Instr.sliceBounds, Instr.sliceBound, asIntOf, pure, Sem.run, run_sizeOf hi, h1', h2']

/-- s[:h] -/
theorem Flow.sliceTo {t : TypeId} {sz by_ : Nat} {z : Value} {x y : Operand} {a : Option Addr} {len cap h : Nat} {k : IntKind} (ht : SliceTy P t sz by_ z) (hx : ev n e x = .slice a len cap) (hy : ev n e y = .int k h) (hh : h ≤ cap)
    (hk : Flow P n A rest (updO e d (.slice a h cap)) w K) : Flow P n A (⟨d, .slice t x none (some y) none, ty, pos, aft, none⟩ :: rest) e w K := by
  obtain ⟨el, i, hu, hi, hs', hby, hz⟩ := ht.ex
  refine Flow.val rfl (v := .slice a h cap) (w' := w) ?_ hk
  have hr := run_slice (P := P) (w := w) (a := a) (len := len) hu hi (lo := none) (hi' := some (.int k h)) (l := 0) (h := h) (.inl ⟨rfl, rfl⟩) (.inr ⟨k, rfl⟩) (Nat.zero_le _) hh
  have ha : (if cap = 0 then a else a.map (·.add (0 * i.size))) = a := by
    split
    · rfl
    · cases a <;> simp [Addr.add]
  rw [ha] at hr
  simp [execOp, Sem.run_bind, hx, hy, hr, Result.andThen, pure, Sem.run]

/-- s[l:], at a block's place -/
theorem Flow.sliceFrom {t : TypeId} {sz by_ : Nat} {z : Value} {x y : Operand} {g o len cap l : Nat} {k : IntKind} (ht : SliceTy P t sz by_ z) (hx : ev n e x = .slice (some ⟨g, o, none⟩) len cap) (hy : ev n e y = .int k l) (hl : l ≤ len) (hc : len ≤ cap)
    (hk : ∀ o', (l < cap → o' = o + l * sz) → Flow P n A rest (updO e d (.slice (some ⟨g, o', none⟩) (len - l) (cap - l))) w K) : Flow P n A (⟨d, .slice t x (some y) none none, ty, pos, aft, none⟩ :: rest) e w K := by
  obtain ⟨el, i, hu, hi, hs', hby, hz⟩ := ht.ex
  have hr := run_slice (P := P) (w := w) (a := some ⟨g, o, none⟩) (cap := cap) hu hi (lo := some (.int k l)) (hi' := none) (l := l) (h := len) (.inr ⟨k, rfl⟩) (.inl ⟨rfl, rfl⟩) hl hc
  by_cases hcl : cap = l
  · rw [if_pos hcl] at hr
    refine Flow.val rfl (v := .slice (some ⟨g, o, none⟩) (len - l) (cap - l)) (w' := w) ?_ (hk o (fun h => by omega))
    simp [execOp, Sem.run_bind, hx, hy, hr, Result.andThen, pure, Sem.run]
  · rw [if_neg hcl] at hr
    simp only [Option.map_some, addr_add, hs'] at hr
    refine Flow.val rfl (v := .slice (some ⟨g, o + l * sz, none⟩) (len - l) (cap - l)) (w' := w) ?_ (hk _ (fun _ => rfl))
    simp [execOp, Sem.run_bind, hx, hy, hr, Result.andThen, pure, Sem.run]

/-! ### copy, clear: elements of one cell -/
theorem Flow.copy {t el : TypeId} {by_ : Nat} {z : Value} {x y : Operand} {g o dl dc : Nat} {bs os sl sc : Nat} {cs src : List Value} {et : TypeId} (ht : SliceTy P t 1 by_ z) (hx : ev n e x = .slice (some ⟨g, o, none⟩) dl dc) (hy : ev n e y = .slice (some ⟨bs, os, none⟩) sl sc)
    (hb : Blk w g cs et) (hs : Cells w bs os src) (hl : src.length = min sl dl) (hfit : o + src.length ≤ cs.length) (h1 : src.all oneV = true)
    (h : ∀ w', Chg [g] w w' → w'.heap.size = w.heap.size → Blk w' g (cs.take o ++ src ++ cs.drop (o + src.length)) et → Flow P n A rest (updO e d (.int .i64 src.length)) w' K) :
    Flow P n A (⟨d, .call { callee := .builtin .copy, args := #[x, y], argTypes := #[t, t] }, ty, pos, aft, none⟩ :: rest) e w K := by
  obtain ⟨el, i, hu, hi, hs', hby, hz⟩ := ht.ex
  have hsrc : ∀ j v, src[j]? = some v → w.cell? ((⟨bs, os, none⟩ : Addr).add j) = some v := fun j v hj => by rw [addr_add]; exact hs.get hj
  have hr := run_copy_row (P := P) w t t ty el g o dl dc ⟨bs, os, none⟩ sl sc cs.toArray et src hu (by simp [hi, hs']) hb hl hsrc (by simpa using hfit) (fun u hu => oneV_of (List.all_eq_true.1 h1 u hu))
  refine Flow.val rfl (v := .int .i64 src.length) (w' := w.setRow g (cs.take o ++ src ++ cs.drop (o + src.length)).toArray) ?_ (h _ (chg_setRow w g _) (by simp) (setRow_heap w g cs.toArray _ et _ hb))
  simp [execOp, resolve, Sem.run_bind, Result.andThen, pure, Sem.run, invoke, builtin, hx, hy, hr, goInt]

/-- copy of nothing -/
theorem Flow.copy0 {t : TypeId} {by_ sz : Nat} {z : Value} {x y : Operand} {a b : Option Addr} {dl dc sl sc : Nat} (ht : SliceTy P t sz by_ z) (hx : ev n e x = .slice a dl dc) (hy : ev n e y = .slice b sl sc) (hl : min sl dl = 0)
    (h : Flow P n A rest (updO e d (.int .i64 0)) w K) :
    Flow P n A (⟨d, .call { callee := .builtin .copy, args := #[x, y], argTypes := #[t, t] }, ty, pos, aft, none⟩ :: rest) e w K := by
  obtain ⟨el, i, hu, hi, hs', hby, hz⟩ := ht.ex
  refine Flow.val rfl (v := .int .i64 0) (w' := w) ?_ h
  have hl' : Nat.min sl dl = 0 := hl
  cases a <;> cases b <;> simp [execOp, resolve, Sem.run_bind, Result.andThen, pure, Sem.run, invoke, builtin, hx, hy, Builtin.copy_, Go.run_underlying hu, Builtin.lenOf, hl', Builtin.firstCells, run_sizeOf hi, loadCells, loadCellsFrom, storeCells, goInt]

theorem Flow.clear {t : TypeId} {by_ : Nat} {z : Value} {x : Operand} {g o l c : Nat} {cs : List Value} {et : TypeId} (ht : SliceTy P t 1 by_ z) (hz1 : z.cells.toList = [z]) (hx : ev n e x = .slice (some ⟨g, o, none⟩) l c)
    (hb : Blk w g cs et) (hfit : o + l ≤ cs.length) (h1 : oneV z = true)
    (h : ∀ w', Chg [g] w w' → w'.heap.size = w.heap.size → Blk w' g (cs.take o ++ List.replicate l z ++ cs.drop (o + l)) et → Flow P n A rest (updO e d (.tuple #[])) w' K) :
    Flow P n A (⟨d, .call { callee := .builtin .clear, args := #[x], argTypes := #[t] }, ty, pos, aft, none⟩ :: rest) e w K := by
  obtain ⟨el, i, hu, hi, hs', hby, hz⟩ := ht.ex
  by_cases hl0 : l = 0
  · subst hl0
    refine Flow.val rfl (v := .tuple #[]) (w' := w) ?_ (h w (Chg.refl _ _) rfl (by simpa using hb))
    simp [execOp, resolve, Sem.run_bind, Result.andThen, pure, Sem.run, invoke, builtin, hx, Builtin.clear_, Go.run_underlying hu]
  · have hzc : (Builtin.zeroCells z.cells l).toList = List.replicate l z := by
      have hz2 : z.cells = #[z] := by apply Array.ext'; simpa using hz1
      simp only [Builtin.zeroCells, hz2]
      apply List.ext_getElem
      · simp
      · intro j h1 h2; simp [Nat.mod_one]
    obtain ⟨w', hr, hc, hsz, hb'⟩ := run_storeCells (P := P) (o := o) (l := List.replicate l z) (i := 0) hb (by simpa using hfit) (fun v hv => by simp at hv; rw [hv.2]; exact h1)
    refine Flow.val rfl (v := .tuple #[]) (w' := w') ?_ (h w' hc hsz (by simpa using hb'))
    obtain ⟨m, rfl⟩ : ∃ m, l = m + 1 := ⟨l - 1, by omega⟩
    simp [execOp, resolve, Sem.run_bind, Result.andThen, pure, Sem.run, invoke, builtin, hx, Builtin.clear_, Go.run_underlying hu, run_zeroValue hi hz, hzc, hr]

/-! ### a slice against nil; bools -/
theorem Flow.eqNil {t t' : TypeId} {el : TypeId} {x : Operand} {a : Option Addr} {l c : Nat} (hu : P.underlying t = some (.slice el)) (hx : ev n e x = .slice a l c) (h : Flow P n A rest (updO e d (.bool a.isNone)) w K) :
    Flow P n A (⟨d, .binOp .eql t x (.const (.slice none 0 0)) t', ty, pos, aft, none⟩ :: rest) e w K := by
  refine Flow.val rfl (v := .bool a.isNone) (w' := w) ?_ h
  have hd : Op.maxDepth = (Op.maxDepth - 1) + 1 := rfl
  have hc : ev n e (.const (.slice none 0 0)) = .slice none 0 0 := rfl
  cases a <;> (simp only [execOp, hx, hc, eqGuard, binOp, Op.equal]; rw [hd]; simp [Op.equalIn, Sem.run_bind, Go.run_underlying hu, Result.andThen, pure, Sem.run])

theorem Flow.eqBool {t t' : TypeId} {x y : Operand} {a b : Bool} (hu : P.underlying t = some .bool) (hx : ev n e x = .bool a) (hy : ev n e y = .bool b) (h : Flow P n A rest (updO e d (.bool (a == b))) w K) :
    Flow P n A (⟨d, .binOp .eql t x y t', ty, pos, aft, none⟩ :: rest) e w K := by
  refine Flow.val rfl (v := .bool (a == b)) (w' := w) ?_ h
  have hd : Op.maxDepth = (Op.maxDepth - 1) + 1 := rfl
  simp only [execOp, hx, hy, eqGuard, binOp, Op.equal]; rw [hd]; simp [Op.equalIn, Sem.run_bind, Go.run_underlying hu, Result.andThen, pure, Sem.run]

theorem Flow.neBool {t t' : TypeId} {x y : Operand} {a b : Bool} (hu : P.underlying t = some .bool) (hx : ev n e x = .bool a) (hy : ev n e y = .bool b) (h : Flow P n A rest (updO e d (.bool (a != b))) w K) :
    Flow P n A (⟨d, .binOp .neq t x y t', ty, pos, aft, none⟩ :: rest) e w K := by
  refine Flow.val rfl (v := .bool (a != b)) (w' := w) ?_ h
  have hd : Op.maxDepth = (Op.maxDepth - 1) + 1 := rfl
  simp only [execOp, hx, hy, eqGuard, binOp, Op.equal]; rw [hd]; simp [Op.equalIn, Sem.run_bind, Go.run_underlying hu, Result.andThen, pure, Sem.run, bne]

end
end Sg
end Go.Proofs.YtkoejelglinmnaaGreat

/-
  The program logic, tenth part: structs that are built, maps from ints, small arithmetic.
-/
namespace Go.Proofs.YtkoejelglinmnaaGreat
namespace Sg

/-- A map from ints: its keys and what they have, in the order of their coming. -/
def MapO (w : World) (r : Nat) (kv : List (Int × Value)) : Prop :=
  ∃ es clk, w.heap[r]? = some (.map es clk) ∧ es.toList.map (fun x => (x.key, x.val)) = kv.map (fun p => (Value.int .i64 p.1, p.2))

theorem MapO.lt {w : World} {r : Nat} {kv : List (Int × Value)} (h : MapO w r kv) : r < w.heap.size := by
  obtain ⟨es, clk, h, _⟩ := h
  exact (Array.getElem?_eq_some_iff.1 h).1

theorem MapO.chg {w w' : World} {r : Nat} {kv : List (Int × Value)} {S : List Nat} (h : MapO w r kv) (hc : Chg S w w') (hr : r ∉ S) : MapO w' r kv := by
  have hl := h.lt
  obtain ⟨es, clk, h, hm⟩ := h
  exact ⟨es, clk, (hc.same r hl hr).trans h, hm⟩

def look (kv : List (Int × Value)) (k : Int) : Option Value := (kv.find? fun p => p.1 == k).map (·.2)

structure MapTy (P : Program) (t : TypeId) (zero : Value) : Prop where
  ex : ∃ kt et i, P.underlying t = some (.map kt et) ∧ P.underlying kt = some (.int .i64) ∧ P.info? et = some i ∧ i.zero = some zero

theorem MapTy.lay {P : Program} {t kt et : TypeId} {zero : Value} (h1 : P.underlying t = some (.map kt et)) (h2 : P.underlying kt = some (.int .i64)) (h3 : (P.info? et).map (fun i => i.zero) = some (some zero)) : MapTy P t zero := by
  cases h : P.info? et with
  | none => simp [h] at h3
  | some i => exact ⟨kt, et, i, h1, h2, h, by simpa [h] using h3⟩

theorem findNow_ints (k : Int) : ∀ (es : List MapEntry) (kv : List (Int × Value)) (i : Nat), es.map (fun x => (x.key, x.val)) = kv.map (fun p => (Value.int .i64 p.1, p.2)) →
    ∃ r, Instr.findNow (.int .i64) (.int .i64 k) es i = some r ∧ (match r with | none => look kv k = none | some (_, v) => look kv k = some v)
  | [], kv, i, h => by
    cases kv with
    | nil => exact ⟨none, rfl, rfl⟩
    | cons p kv => simp at h
  | x :: es, kv, i, h => by
    cases kv with
    | nil => simp at h
    | cons p kv =>
      simp only [List.map_cons, List.cons.injEq, Prod.mk.injEq] at h
      obtain ⟨⟨h1, h2⟩, h3⟩ := h
      obtain ⟨r, hr, hm⟩ := findNow_ints k es kv (i + 1) h3
      simp only [Instr.findNow, h1, Instr.sameNow, if_true]
      by_cases hk : k = p.1
      · subst hk
        simp only [BEq.rfl]
        exact ⟨_, rfl, by simp [look, List.find?_cons, h2]⟩
      · have hb : (k == p.1) = false := by simpa using hk
        have hb' : (p.1 == k) = false := by simpa using fun h => hk h.symm
        simp only [hb]
        refine ⟨r, hr, ?_⟩
        have : look (p :: kv) k = look kv k := by simp [look, List.find?_cons, hb']
        rw [this]; exact hm

section
variable {P : Program} {n : Nat} {rest : List Oper} {A : Array Oper} {e : Env} {w : World} {K : Env → World → Prop} {d : Option Tmp} {ty : TypeId} {pos : String} {aft : Array Edge}

theorem Flow.makeMap {t : TypeId} (h : ∀ w', Chg [] w w' → w'.heap.size = w.heap.size + 1 → MapO w' w.heap.size [] → Flow P n A rest (updO e d (.map (some w.heap.size))) w' K) :
    Flow P n A (⟨d, .makeMap t none, ty, pos, aft, none⟩ :: rest) e w K := by
  refine Flow.val rfl (v := .map (some w.heap.size)) (w' := w.alloc (.map #[] 0)) ?_ (h _ (Chg.alloc _ _ _) (by simp) ⟨#[], 0, World.alloc_heap_new w _, rfl⟩)
  simp [execOp, Instr.makeMap, newObj, Sem.run_bind, Sem.run, Result.andThen, pure]

theorem run_getMap {r : Nat} {es : Array MapEntry} {clk : Nat} (h : w.heap[r]? = some (.map es clk)) : (getObj r).run P w = .ok (.map es clk) w := by
  simp [getObj, Sem.run, h]

theorem run_checkKey {kt : TypeId} {k : Int} {b : Bool} (h : P.underlying kt = some (.int .i64)) : (Instr.checkKey b 10000 kt (.int .i64 k)).run P w = .ok () w := by
  have key : ∀ m, (Instr.checkKey b (m + 1) kt (.int .i64 k)).run P w = .ok () w := fun m => by
    simp [Instr.checkKey, Sem.run_bind, Go.run_underlying h, Result.andThen, pure, Sem.run]
  exact key 9999

theorem run_lookup {t : TypeId} {z : Value} {r : Nat} {k : Int} {kv : List (Int × Value)} (ht : MapTy P t z) (hm : MapO w r kv) :
    (Instr.lookup t (.map (some r)) (.int .i64 k) false).run P w = .ok ((look kv k).getD z) w := by
  obtain ⟨kt, et, i, h1, h2, h3, h4⟩ := ht.ex
  obtain ⟨es, clk, hh, hl⟩ := hm
  obtain ⟨x, hx, hxm⟩ := findNow_ints k es.toList kv 0 hl
  have hf : (Instr.findKey kt (.int .i64 k) es.toList).run P w = .ok x w := by
    simp [Instr.findKey, Sem.run_bind, Go.run_underlying h2, Result.andThen, hx, pure, Sem.run]
  cases x with
  | none =>
    simp only at hxm
    simp [Instr.lookup, Sem.run_bind, Go.run_underlying h1, Result.andThen, run_getMap hh, run_checkKey h2, hf, pure, Sem.run, run_zeroValue h3 h4, hxm]
  | some p =>
    obtain ⟨j, v⟩ := p
    simp only at hxm
    simp [Instr.lookup, Sem.run_bind, Go.run_underlying h1, Result.andThen, run_getMap hh, run_checkKey h2, hf, pure, Sem.run, hxm]

theorem Flow.lookup {t : TypeId} {z v : Value} {x y : Operand} {r : Nat} {k : Int} {kv : List (Int × Value)} (ht : MapTy P t z) (hx : ev n e x = .map (some r)) (hy : ev n e y = .int .i64 k) (hm : MapO w r kv) (hv : (look kv k).getD z = v)
    (h : Flow P n A rest (updO e d v) w K) : Flow P n A (⟨d, .lookup t x y false, ty, pos, aft, none⟩ :: rest) e w K := by
  refine Flow.val rfl (v := v) (w' := w) ?_ h
  simp [execOp, Sem.run_bind, hx, hy, run_lookup ht hm, hv, Result.andThen, pure, Sem.run]

/-- A store at a key that is not there yet. -/
theorem Flow.mapUpdate {t : TypeId} {z v : Value} {x y u : Operand} {r : Nat} {k : Int} {kv : List (Int × Value)} (ht : MapTy P t z) (hx : ev n e x = .map (some r)) (hy : ev n e y = .int .i64 k) (hu : ev n e u = v) (hm : MapO w r kv) (hk : look kv k = none)
    (h : ∀ w', Chg [r] w w' → w'.heap.size = w.heap.size → MapO w' r (kv ++ [(k, v)]) → Flow P n A rest (updO e d undef) w' K) :
    Flow P n A (⟨d, .mapUpdate t x y u, ty, pos, aft, none⟩ :: rest) e w K := by
  obtain ⟨kt, et, i, h1, h2, h3, h4⟩ := ht.ex
  obtain ⟨es, clk, hh, hl⟩ := hm
  obtain ⟨x', hx', hxm⟩ := findNow_ints k es.toList kv 0 hl
  have hxn : x' = none := by
    cases x' with
    | none => rfl
    | some p => obtain ⟨j, v⟩ := p; simp only at hxm; rw [hk] at hxm; cases hxm
  subst hxn
  have hf : (Instr.findKey kt (.int .i64 k) es.toList).run P w = .ok none w := by
    simp [Instr.findKey, Sem.run_bind, Go.run_underlying h2, Result.andThen, hx', pure, Sem.run]
  have hrl : r < w.heap.size := (Array.getElem?_eq_some_iff.1 hh).1
  let w' : World := w.putObj r (.map (es.push { key := .int .i64 k, val := v, born := clk }) (clk + 1))
  have hr : (Instr.mapUpdate t (.map (some r)) (.int .i64 k) v).run P w = .ok () w' := by
    simp [Instr.mapUpdate, Sem.run_bind, Go.run_underlying h1, Result.andThen, run_getMap hh, run_checkKey h2, hf, setObj, Sem.run, hh, w', World.putObj, pure]
  refine Flow.op rfl ?_
  have hrun : (execOp (ev n e) ⟨d, .mapUpdate t x y u, ty, pos, aft, none⟩).run P w = .ok .skip w' := by
    simp [execOp, Sem.run_bind, hx, hy, hu, hr, Result.andThen, pure, Sem.run]
  unfold OpW; rw [hrun]
  refine h w' (Chg.putObj w r _) (by simp [w']) ⟨_, _, World.putObj_heap_same hrl, ?_⟩
  simp [hl]

/-! ### structs -/
def placesOf (P : Program) (t : TypeId) : Option (Array (Nat × Nat)) :=
  match P.underlying t with
  | some (.struct fs) => fs.mapM fun f => (P.info? f.type).map fun i => (f.offset, i.size)
  | _ => none

theorem run_places {fs : Array Field} {ps : Array (Nat × Nat)} (h : fs.mapM (fun f => (P.info? f.type).map fun i => (f.offset, i.size)) = some ps) :
    (fs.mapM (m := Sem) fun f => do pure (f.offset, ← sizeOf f.type)).run P w = .ok ps w := by
  obtain ⟨l⟩ := fs
  have key : ∀ (l : List Field) (ps : List (Nat × Nat)), l.mapM (fun f => (P.info? f.type).map fun i => (f.offset, i.size)) = some ps →
      (l.mapM (m := Sem) fun f => do pure (f.offset, ← sizeOf f.type)).run P w = .ok ps w := by
    intro l
    induction l with
    | nil => intro ps h; simp at h; subst h; simp [pure, Sem.run]
    | cons f l ih =>
      intro ps h
      rw [List.mapM_cons] at h
      cases hi : P.info? f.type with
      | none => simp [hi] at h
      | some i =>
        cases hl : l.mapM (fun f => (P.info? f.type).map fun i => (f.offset, i.size)) with
        | none => simp [hi, hl] at h
        | some qs =>
          simp [hi, hl] at h
          subst h
          rw [List.mapM_cons]
          have := ih qs hl
          simp only [pure] at this
          simp [Sem.run_bind, run_sizeOf hi, Result.andThen, pure, Sem.run, this]
  have h' : l.mapM (fun f => (P.info? f.type).map fun i => (f.offset, i.size)) = some ps.toList := by
    have := congrArg (Option.map Array.toList) h
    simpa using this
  have hk := key l ps.toList h'
  have hrun : (List.toArray l).mapM (m := Sem) (fun f => do pure (f.offset, ← sizeOf f.type)) = (do let x ← l.mapM (m := Sem) (fun f => do pure (f.offset, ← sizeOf f.type)); pure x.toArray) := by
    simp [List.mapM_toArray]
  rw [hrun, Sem.run_bind, hk]
  simp [Result.andThen, pure, Sem.run]

theorem Flow.build {t : TypeId} {sz : Nat} {z : Value} {xs : Array (Nat × Operand)} {vs : List (Nat × Value)} {ps : Array (Nat × Nat)} {cs : Array Value} (ht : Ty P t true sz z) (hp : placesOf P t = some ps) (hx : (xs.map fun p => (p.1, ev n e p.2)).toList = vs)
    (hf : Instr.fill (ps[·]?) z.cells vs = some cs) (h : Flow P n A rest (updO e d (.agg cs)) w K) : Flow P n A (⟨d, .build t xs, ty, pos, aft, none⟩ :: rest) e w K := by
  obtain ⟨i, hi, his, hz⟩ := ht.info
  unfold placesOf at hp
  split at hp
  · rename_i fs hu
    refine Flow.val rfl (v := .agg cs) (w' := w) ?_ h
    have hr := run_places (w := w) hp
    have hx' : Array.toList (Array.map (fun x => match x with | (i, x) => (i, ev n e x)) xs) = vs := hx
    simp only [execOp, Instr.build, Sem.run_bind, run_zeroValue hi hz, Result.andThen, Go.run_underlying hu, hr, hx', hf]
    simp [pure, Sem.run]
  · cases hp

theorem Rn.build {t : TypeId} {sz : Nat} {z : Value} {xs : Array (Nat × Operand)} {vs : List (Nat × Value)} {ps : Array (Nat × Nat)} {cs : Array Value} (ht : Ty P t true sz z) (hp : placesOf P t = some ps) (hx : (xs.map fun p => (p.1, ev n e p.2)).toList = vs)
    (hf : Instr.fill (ps[·]?) z.cells vs = some cs) : Rn P n e (.build t xs) ty w (.agg cs) := by
  obtain ⟨i, hi, his, hz⟩ := ht.info
  unfold placesOf at hp
  split at hp
  · rename_i fs hu
    have hr := run_places (w := w) hp
    have hx' : Array.toList (Array.map (fun x => match x with | (i, x) => (i, ev n e x)) xs) = vs := hx
    simp only [Rn, execOp, Instr.build, Sem.run_bind, run_zeroValue hi hz, Result.andThen, Go.run_underlying hu, hr, hx', hf]
    simp [pure, Sem.run]
  · cases hp

/-- A struct of two fields of one cell each. -/
theorem Flow.build2 {t : TypeId} {z a b : Value} {x y : Operand} (ht : Ty P t true 2 z) (hp : placesOf P t = some #[(0, 1), (1, 1)]) (hz : z.cells.size = 2) (h1 : ev n e x = a) (h2 : ev n e y = b) (ha : oneV a = true) (hb : oneV b = true)
    (h : Flow P n A rest (updO e d (.agg #[a, b])) w K) : Flow P n A (⟨d, .build t #[(0, x), (1, y)], ty, pos, aft, none⟩ :: rest) e w K := by
  have ca : a.cells = #[a] := by cases a <;> first | rfl | simp [oneV] at ha
  have cb : b.cells = #[b] := by cases b <;> first | rfl | simp [oneV] at hb
  refine Flow.build ht hp (vs := [(0, a), (1, b)]) (cs := #[a, b]) (by simp [h1, h2]) ?_ h
  have : z.cells = #[z.cells[0]!, z.cells[1]!] := by
    apply Array.ext
    · simp [hz]
    · intro i hi1 hi2
      simp at hi2
      have : i = 0 ∨ i = 1 := by omega
      rcases this with rfl | rfl <;> simp [hz]
  rw [this]
  simp [Instr.fill, ca, cb]

theorem Rn.build2 {t : TypeId} {z a b : Value} {x y : Operand} (ht : Ty P t true 2 z) (hp : placesOf P t = some #[(0, 1), (1, 1)]) (hz : z.cells.size = 2) (h1 : ev n e x = a) (h2 : ev n e y = b) (ha : oneV a = true) (hb : oneV b = true) :
    Rn P n e (.build t #[(0, x), (1, y)]) ty w (.agg #[a, b]) := by
  have ca : a.cells = #[a] := by cases a <;> first | rfl | simp [oneV] at ha
  have cb : b.cells = #[b] := by cases b <;> first | rfl | simp [oneV] at hb
  refine Rn.build ht hp (vs := [(0, a), (1, b)]) (cs := #[a, b]) (by simp [h1, h2]) ?_
  have : z.cells = #[z.cells[0]!, z.cells[1]!] := by
    apply Array.ext
    · simp [hz]
    · intro i hi1 hi2
      simp at hi2
      have : i = 0 ∨ i = 1 := by omega
      rcases this with rfl | rfl <;> simp [hz]
  rw [this]
  simp [Instr.fill, ca, cb]

end
end Sg
end Go.Proofs.YtkoejelglinmnaaGreat

/-
  An operation whose guard was itself left out; results in cells.
-/
namespace Go.Proofs.YtkoejelglinmnaaGreat
namespace Sg
section
variable {P : Program} {n : Nat} {A : Array Oper} {rest : List Oper} {d : Option Tmp} {ty : TypeId} {pos : String} {aft : Array Edge} {e : Env} {w : World} {K : Env → World → Prop}

theorem Flow.offU {op : Op} {j t : Nat} {b : Bool} (hd : (A[j]?).bind (·.dst) = some t) (hv : ev n e (.tmp t) = undef)
    (h : Flow P n A rest (updO e d undef) w K) : Flow P n A (⟨d, op, ty, pos, aft, some (j, b)⟩ :: rest) e w K := by
  have hy : yE A n e j = none := by simp only [yE, hd, hv]; rfl
  simp only [Flow, Region.wanted, hy]
  exact h

theorem FD.offU {effs hard : List Nat} {w0 : World} {rest : List (Nat × Oper)} {i : Nat} {fin : Bool} {op : Op} {j t : Nat} {b : Bool} (hd : (A[j]?).bind (·.dst) = some t) (hv : ev n e (.tmp t) = undef)
    (h : FD P n A effs hard w0 K rest fin (updO e d undef) w) : FD P n A effs hard w0 K ((i, ⟨d, op, ty, pos, aft, some (j, b)⟩) :: rest) fin e w := by
  have hy : yE A n e j = none := by simp only [yE, hd, hv]; rfl
  simp only [FD, Clause, Region.wanted, hy]
  exact h

/-! ### arithmetic of u64 -/
theorem Flow.mulU {t t' : TypeId} {x y : Operand} {a b c : Int} (hx : ev n e x = .int .u64 a) (hy : ev n e y = .int .u64 b) (hc : IntKind.u64.wrap (a * b) = c)
    (h : Flow P n A rest (updO e d (.int .u64 c)) w K) : Flow P n A (⟨d, .binOp .mul t x y t', ty, pos, aft, none⟩ :: rest) e w K := by
  subst hc
  exact Flow.val rfl (by simp [execOp, go_sem, hx, hy, binOp, Op.intArith]) h

theorem Flow.addU {t t' : TypeId} {x y : Operand} {a b c : Int} (hx : ev n e x = .int .u64 a) (hy : ev n e y = .int .u64 b) (hc : IntKind.u64.wrap (a + b) = c)
    (h : Flow P n A rest (updO e d (.int .u64 c)) w K) : Flow P n A (⟨d, .binOp .add t x y t', ty, pos, aft, none⟩ :: rest) e w K := by
  subst hc
  exact Flow.val rfl (by simp [execOp, go_sem, hx, hy, binOp, Op.intArith]) h

theorem Flow.andU {t t' : TypeId} {x y : Operand} {a b c : Nat} (hx : ev n e x = .int .u64 a) (hy : ev n e y = .int .u64 b) (ha : a < 18446744073709551616) (hb : b < 18446744073709551616) (hc : a &&& b = c)
    (h : Flow P n A rest (updO e d (.int .u64 c)) w K) : Flow P n A (⟨d, .binOp .and t x y t', ty, pos, aft, none⟩ :: rest) e w K := by
  subst hc
  have hv := bits_and_u64_nat a b ha hb
  refine Flow.val rfl (v := .int .u64 ((a &&& b : Nat) : Int)) (w' := w) ?_ h
  rw [← hv]
  simp [execOp, go_sem, hx, hy, binOp, Op.intBits, bits]

theorem Flow.shrU {t t' : TypeId} {x y : Operand} {a c : Int} (hx : ev n e x = .int .u64 a) (hy : ev n e y = .int .u64 32) (hc : a.fdiv 4294967296 = c)
    (h : Flow P n A rest (updO e d (.int .u64 c)) w K) : Flow P n A (⟨d, .binOp .shr t x y t', ty, pos, aft, none⟩ :: rest) e w K := by
  subst hc
  exact Flow.val rfl (by simp [execOp, go_sem, hx, hy, binOp, Op.shift]) h

/-! ### parts of slices in a region that draws -/
theorem Rn.sliceTo {t : TypeId} {sz by_ : Nat} {z : Value} {x y : Operand} {a : Option Addr} {len cap h : Nat} {k : IntKind} (ht : SliceTy P t sz by_ z) (hx : ev n e x = .slice a len cap) (hy : ev n e y = .int k h) (hh : h ≤ cap) :
    Rn P n e (.slice t x none (some y) none) ty w (.slice a h cap) := by
  obtain ⟨el, i, hu, hi, hs', hby, hz⟩ := ht.ex
  have hr := run_slice (P := P) (w := w) (a := a) (len := len) hu hi (lo := none) (hi' := some (.int k h)) (l := 0) (h := h) (.inl ⟨rfl, rfl⟩) (.inr ⟨k, rfl⟩) (Nat.zero_le _) hh
  have ha : (if cap = 0 then a else a.map (·.add (0 * i.size))) = a := by
    split
    · rfl
    · cases a <;> simp [Addr.add]
  rw [ha] at hr
  simp [Rn, execOp, Sem.run_bind, hx, hy, hr, Result.andThen, pure, Sem.run]

theorem Rn.sliceFrom {t : TypeId} {sz by_ : Nat} {z : Value} {x y : Operand} {g o len cap l : Nat} {k : IntKind} (ht : SliceTy P t sz by_ z) (hx : ev n e x = .slice (some ⟨g, o, none⟩) len cap) (hy : ev n e y = .int k l) (hl : l ≤ len) (hlc : l < cap) (hc : len ≤ cap) :
    Rn P n e (.slice t x (some y) none none) ty w (.slice (some ⟨g, o + l * sz, none⟩) (len - l) (cap - l)) := by
  obtain ⟨el, i, hu, hi, hs', hby, hz⟩ := ht.ex
  have hr := run_slice (P := P) (w := w) (a := some ⟨g, o, none⟩) (cap := cap) hu hi (lo := some (.int k l)) (hi' := none) (l := l) (h := len) (.inr ⟨k, rfl⟩) (.inl ⟨rfl, rfl⟩) hl hc
  rw [if_neg (by omega)] at hr
  simp only [Option.map_some, addr_add, hs'] at hr
  simp [Rn, execOp, Sem.run_bind, hx, hy, hr, Result.andThen, pure, Sem.run]

end
end Sg
end Go.Proofs.YtkoejelglinmnaaGreat

/-
  What a function hands back out of cells.
-/
namespace Go.Proofs.YtkoejelglinmnaaGreat
namespace Sg
section
variable {P : Program} {fn : Func} {m : Nat} {e : Env} {w : World}

def resF (tmps : Array Value) : ResultVar → Sem Value
  | .tmp t => pure (tmps.getD t undef)
  | .cell a t => do loadVar t (← asAddr (tmps.getD a undef))

theorem results_eq (fn : Func) (tmps : Array Value) : results fn tmps = (do
    let vs ← fn.results.mapM (resF tmps)
    pure (if h : vs.size = 1 then vs[0] else .tuple vs)) := by
  unfold results
  congr 1

/-- What one result is. -/
def OneR (P : Program) (m : Nat) (e : Env) (w : World) (r : ResultVar) (v : Value) : Prop := (resF (fr m e []).tmps r).run P w = .ok v w

theorem OneR.tmp {t : Tmp} {v : Value} (hv : ev m e (.tmp t) = v) : OneR P m e w (.tmp t) v := by
  have he : (fr m e []).tmps.getD t undef = v := by rw [← hv, ← fr_eval m e []]; rfl
  simp only [OneR, resF, he, pure, Sem.run]

theorem OneR.cellA {a : Tmp} {t : TypeId} {s : Nat} {z : Value} {b o : Nat} {l : List Value} (ht : Ty P t true s z) (hv : ev m e (.tmp a) = .pointer (some ⟨b, o, none⟩)) (hs : l.length = s) (hc : Cells w b o l) : OneR P m e w (.cell a t) (.agg l.toArray) := by
  have he : (fr m e []).tmps.getD a undef = .pointer (some ⟨b, o, none⟩) := by rw [← hv, ← fr_eval m e []]; rfl
  simp only [OneR, resF, he, asAddr, Sem.run_bind, pure, Sem.run, Result.andThen]
  exact run_loadAgg ht hs hc

theorem OneR.cell1 {a : Tmp} {t : TypeId} {s : Nat} {z : Value} {b o : Nat} {v : Value} (ht : Ty P t false s z) (hv : ev m e (.tmp a) = .pointer (some ⟨b, o, none⟩)) (hc : w.cell? ⟨b, o, none⟩ = some v) : OneR P m e w (.cell a t) v := by
  have he : (fr m e []).tmps.getD a undef = .pointer (some ⟨b, o, none⟩) := by rw [← hv, ← fr_eval m e []]; rfl
  simp only [OneR, resF, he, asAddr, Sem.run_bind, pure, Sem.run, Result.andThen]
  exact run_load1 ht hc

theorem resG1 {r : ResultVar} {v : Value} (h : fn.results = #[r]) (h1 : OneR P m e w r v) : (results fn (fr m e []).tmps).run P w = .ok v w := by
  rw [results_eq, h]
  unfold OneR at h1
  simp [Sem.run_bind, Result.andThen, h1, pure, Sem.run]

theorem resG2 {r r' : ResultVar} {v v' : Value} (h : fn.results = #[r, r']) (h1 : OneR P m e w r v) (h2 : OneR P m e w r' v') : (results fn (fr m e []).tmps).run P w = .ok (.tuple #[v, v']) w := by
  rw [results_eq, h]
  unfold OneR at h1 h2
  simp [Sem.run_bind, Result.andThen, h1, h2, pure, Sem.run]

theorem resG3 {r r' r'' : ResultVar} {v v' v'' : Value} (h : fn.results = #[r, r', r'']) (h1 : OneR P m e w r v) (h2 : OneR P m e w r' v') (h3 : OneR P m e w r'' v'') : (results fn (fr m e []).tmps).run P w = .ok (.tuple #[v, v', v'']) w := by
  rw [results_eq, h]
  unfold OneR at h1 h2 h3
  simp [Sem.run_bind, Result.andThen, h1, h2, h3, pure, Sem.run]

end

/-! ### structs out of parts, in lists -/
def fillL (ps : List (Nat × Nat)) : List Value → List (Nat × Value) → Option (List Value)
  | cells, [] => some cells
  | cells, (i, v) :: rest =>
    match ps[i]? with
    | none => none
    | some (off, size) =>
      if v.cells.toList.length == size && Nat.ble (off + size) cells.length then fillL ps (cells.take off ++ v.cells.toList ++ cells.drop (off + size)) rest
      else none

theorem fold_put (off : Nat) : ∀ (vs : List Value) (k : Nat) (cells : Array Value), off + k + vs.length ≤ cells.size →
    (vs.zipIdx k).foldl (fun cs (x : Value × Nat) => cs.setIfInBounds (off + x.2) x.1) cells = (cells.toList.take (off + k) ++ vs ++ cells.toList.drop (off + k + vs.length)).toArray
  | [], k, cells, h => by simp
  | v :: vs, k, cells, h => by
    simp only [List.zipIdx_cons, List.foldl_cons, List.length_cons] at h ⊢
    rw [fold_put off vs (k + 1) _ (by simp; omega)]
    congr 1
    simp only [Array.toList_setIfInBounds]
    have e1 : (cells.toList.set (off + k) v).take (off + (k + 1)) = cells.toList.take (off + k) ++ [v] := by
      rw [show off + (k + 1) = off + k + 1 from by omega, List.take_add_one]
      simp [List.take_set, show off + k < cells.size from by omega]
      rw [List.set_eq_of_length_le (by simp; omega)]
    have e2 : (cells.toList.set (off + k) v).drop (off + (k + 1) + vs.length) = cells.toList.drop (off + k + (vs.length + 1)) := by
      rw [List.drop_set_of_lt (by omega)]; congr 1; omega
    rw [e1, e2]; simp

theorem fill_list (ps : List (Nat × Nat)) : ∀ (parts : List (Nat × Value)) (cells cs : List Value), fillL ps cells parts = some cs → Instr.fill (ps.toArray[·]?) cells.toArray parts = some cs.toArray
  | [], cells, cs, h => by simp only [fillL, Option.some.injEq] at h; subst h; rfl
  | (i, v) :: rest, cells, cs, h => by
    simp only [fillL] at h
    simp only [Instr.fill, List.getElem?_toArray]
    split at h
    · cases h
    · rename_i off size hp
      rw [hp]
      split at h
      · rename_i hc
        simp only [Bool.and_eq_true, beq_iff_eq, Nat.ble_eq] at hc
        have hs : v.cells.size = size := by rw [← Array.length_toList]; exact hc.1
        have hfold := fold_put off v.cells.toList 0 cells.toArray (by simp [hs]; omega)
        simp only [hs, ne_eq, not_true_eq_false, decide_false, List.size_toArray, gt_iff_lt, Bool.false_or, decide_eq_true_eq]
        rw [if_neg (by omega)]
        have he : v.cells.zipIdx.foldl (fun cs (x : Value × Nat) => cs.setIfInBounds (off + x.2) x.1) cells.toArray = (cells.take off ++ v.cells.toList ++ cells.drop (off + size)).toArray := by
          rw [← Array.foldl_toList, Array.toList_zipIdx, hfold]
          simp [hs]
        rw [he]
        have ih := fill_list ps rest _ cs h
        simp only [List.getElem?_toArray] at ih
        exact ih
      · cases h

section
variable {P : Program} {n : Nat} {A : Array Oper} {rest : List Oper} {d : Option Tmp} {ty : TypeId} {pos : String} {aft : Array Edge} {e : Env} {w : World} {K : Env → World → Prop}

theorem Flow.shr1U {t t' : TypeId} {x y : Operand} {a c : Int} (hx : ev n e x = .int .u64 a) (hy : ev n e y = .int .u64 1) (hc : a.fdiv 2 = c)
    (h : Flow P n A rest (updO e d (.int .u64 c)) w K) : Flow P n A (⟨d, .binOp .shr t x y t', ty, pos, aft, none⟩ :: rest) e w K := by
  subst hc
  exact Flow.val rfl (by simp [execOp, go_sem, hx, hy, binOp, Op.shift]) h

/-- s[l:], whatever s is -/
theorem Flow.sliceFromG {t : TypeId} {sz by_ : Nat} {z : Value} {x y : Operand} {a : Option Addr} {len cap l : Nat} {k : IntKind} (ht : SliceTy P t sz by_ z) (hx : ev n e x = .slice a len cap) (hy : ev n e y = .int k l) (hl : l ≤ len) (hc : len ≤ cap)
    (hk : ∀ a', Flow P n A rest (updO e d (.slice a' (len - l) (cap - l))) w K) : Flow P n A (⟨d, .slice t x (some y) none none, ty, pos, aft, none⟩ :: rest) e w K := by
  obtain ⟨el, i, hu, hi, hs', hby, hz⟩ := ht.ex
  have hr := run_slice (P := P) (w := w) (a := a) (cap := cap) hu hi (lo := some (.int k l)) (hi' := none) (l := l) (h := len) (.inr ⟨k, rfl⟩) (.inl ⟨rfl, rfl⟩) hl hc
  refine Flow.val rfl (v := .slice (if cap = l then a else a.map (·.add (l * i.size))) (len - l) (cap - l)) (w' := w) ?_ (hk _)
  simp [execOp, Sem.run_bind, hx, hy, hr, Result.andThen, pure, Sem.run]

theorem Flow.buildL {t : TypeId} {sz : Nat} {z : Value} {xs : Array (Nat × Operand)} {l : List (Nat × Operand)} {ps : List (Nat × Nat)} {zs cs : List Value} (ht : Ty P t true sz z) (hp : placesOf P t = some ps.toArray) (hl : xs = l.toArray) (hz : z.cells = zs.toArray)
    (hf : fillL ps zs (l.map fun p => (p.1, ev n e p.2)) = some cs) (h : Flow P n A rest (updO e d (.agg cs.toArray)) w K) : Flow P n A (⟨d, .build t xs, ty, pos, aft, none⟩ :: rest) e w K := by
  subst hl
  refine Flow.build ht hp (vs := l.map fun p => (p.1, ev n e p.2)) (by simp) ?_ h
  rw [hz]
  exact fill_list ps _ zs cs hf

theorem Rn.buildL {t : TypeId} {sz : Nat} {z : Value} {xs : Array (Nat × Operand)} {l : List (Nat × Operand)} {ps : List (Nat × Nat)} {zs cs : List Value} (ht : Ty P t true sz z) (hp : placesOf P t = some ps.toArray) (hl : xs = l.toArray) (hz : z.cells = zs.toArray)
    (hf : fillL ps zs (l.map fun p => (p.1, ev n e p.2)) = some cs) : Rn P n e (.build t xs) ty w (.agg cs.toArray) := by
  subst hl
  refine Rn.build ht hp (vs := l.map fun p => (p.1, ev n e p.2)) (by simp) ?_
  rw [hz]
  exact fill_list ps _ zs cs hf

end
end Sg
end Go.Proofs.YtkoejelglinmnaaGreat

/-
  The plain data: tours, flaws; the days of a span that are open.
-/
namespace Go.Proofs.YtkoejelglinmnaaGreat

structure Span where
  lo : Int
  hi : Int
  deriving DecidableEq

structure Flaw where
  id : Int
  lo : Int
  hi : Int
  merit : Int
  deriving DecidableEq

structure Tour where
  days : Int
  closed : List Int
  flaws : List Flaw

/-- The days from d on, k of them, that are not closed. -/
def daysFrom (closed : List Int) : Nat → Int → List Int
  | 0, _ => []
  | k + 1, d => if closed.contains d then daysFrom closed k (d + 1) else d :: daysFrom closed k (d + 1)

/-- The open days of a span. -/
def opens (closed : List Int) (lo hi : Int) : List Int := daysFrom closed (hi + 1 - lo).toNat lo

theorem mem_daysFrom (closed : List Int) : ∀ (k : Nat) (d x : Int), x ∈ daysFrom closed k d ↔ d ≤ x ∧ x < d + k ∧ x ∉ closed := by
  intro k
  induction k with
  | zero => intro d x; simp [daysFrom]; omega
  | succ k ih =>
    intro d x
    simp only [daysFrom]
    split
    · rename_i h
      have h : d ∈ closed := by simpa using h
      rw [ih]
      constructor
      · rintro ⟨h1, h2, h3⟩; exact ⟨by omega, by omega, h3⟩
      · rintro ⟨h1, h2, h3⟩
        have : x ≠ d := fun e => h3 (e ▸ h)
        exact ⟨by omega, by omega, h3⟩
    · rename_i h
      have h : d ∉ closed := by simpa using h
      rw [List.mem_cons, ih]
      constructor
      · rintro (rfl | ⟨h1, h2, h3⟩)
        · exact ⟨by omega, by omega, h⟩
        · exact ⟨by omega, by omega, h3⟩
      · rintro ⟨h1, h2, h3⟩
        by_cases e : x = d
        · exact .inl e
        · exact .inr ⟨by omega, by omega, h3⟩

theorem mem_opens {closed : List Int} {lo hi x : Int} : x ∈ opens closed lo hi ↔ lo ≤ x ∧ x ≤ hi ∧ x ∉ closed := by
  unfold opens
  rw [mem_daysFrom]
  constructor
  · rintro ⟨h1, h2, h3⟩; exact ⟨h1, by omega, h3⟩
  · rintro ⟨h1, h2, h3⟩; exact ⟨h1, by omega, h3⟩

theorem opens_step {closed : List Int} {lo hi : Int} (h : lo ≤ hi) :
    opens closed lo hi = if closed.contains lo then opens closed (lo + 1) hi else lo :: opens closed (lo + 1) hi := by
  unfold opens
  obtain ⟨k, hk⟩ : ∃ k : Nat, (hi + 1 - lo).toNat = k + 1 := ⟨(hi - lo).toNat, by omega⟩
  have hk' : (hi + 1 - (lo + 1)).toNat = k := by omega
  rw [hk, hk', daysFrom]

theorem opens_nil {closed : List Int} {lo hi : Int} (h : hi < lo) : opens closed lo hi = [] := by
  unfold opens
  have : (hi + 1 - lo).toNat = 0 := by omega
  rw [this, daysFrom]

end Go.Proofs.YtkoejelglinmnaaGreat

/-
  How data lie in memory.
-/
namespace Go.Proofs.YtkoejelglinmnaaGreat
namespace Sg

/-! ### frames at a loop's head -/
def putL (e : Env) : List (Nat × Value) → Env
  | [] => e
  | (i, v) :: l => putL (upd e i v) l

def AllAt (e : Env) : List (Nat × Value) → Prop
  | [] => True
  | (i, v) :: l => e i = v ∧ AllAt e l

theorem upd_self {e : Env} {i : Nat} {v : Value} (h : e i = v) : upd e i v = e := by
  funext j
  simp only [upd]
  split
  · rename_i hj; rw [hj]; exact h.symm
  · rfl

theorem putL_self {e : Env} : ∀ {l : List (Nat × Value)}, AllAt e l → e = putL e l
  | [], _ => rfl
  | (i, v) :: l, ⟨h, k⟩ => by
    simp only [putL, upd_self h]
    exact putL_self k

/-! ### slices -/
/-- The ints of a slice that begins at a. -/
def IL (w : World) (a : Option Addr) (l : List Int) : Prop :=
  l = [] ∨ ∃ b o, a = some ⟨b, o, none⟩ ∧ ∀ i (h : i < l.length), w.cell? ⟨b, o + i, none⟩ = some (.int .i64 l[i])

theorem IL.get {w : World} {a : Option Addr} {l : List Int} (h : IL w a l) {i : Nat} (hi : i < l.length) :
    ∃ b o, a = some ⟨b, o, none⟩ ∧ ∀ i (h : i < l.length), w.cell? ⟨b, o + i, none⟩ = some (.int .i64 l[i]) := by
  rcases h with rfl | h
  · simp at hi
  · exact h

/-- A slice that holds something begins in no block of S. -/
def Off {α : Type} (a : Option Addr) (l : List α) (S : List Nat) : Prop := l ≠ [] → ∀ x, a = some x → x.block ∉ S

theorem IL.chg {w w' : World} {a : Option Addr} {l : List Int} {S : List Nat} (h : IL w a l) (hc : Chg S w w') (hS : Off a l S) : IL w' a l := by
  rcases h with rfl | ⟨b, o, rfl, h⟩
  · exact .inl rfl
  · refine .inr ⟨b, o, rfl, fun i hi => cell_chg (h i hi) hc (hS (fun e => ?_) ⟨b, o, none⟩ rfl)⟩
    subst e; simp at hi

theorem IL.lt {w : World} {a : Option Addr} {l : List Int} (h : IL w a l) (hl : l ≠ []) : ∀ x, a = some x → x.block < w.heap.size := by
  rcases h with rfl | ⟨b, o, rfl, h⟩
  · exact absurd rfl hl
  · rintro x hx
    obtain rfl : (⟨b, o, none⟩ : Addr) = x := by simpa using hx
    exact cell_lt (h 0 (List.length_pos_iff.2 hl))

theorem IL.off {w : World} {a : Option Addr} {l : List Int} (h : IL w a l) {S : List Nat} (hS : ∀ b ∈ S, w.heap.size ≤ b) : Off a l S :=
  fun hl x hx hm => absurd (hS _ hm) (Nat.not_le_of_lt (h.lt hl x hx))

theorem IL.ext {w w' : World} {a : Option Addr} {l : List Int} (h : IL w a l) (hc : Chg [] w w') : IL w' a l := h.chg hc (fun _ _ _ => by simp)

def flawCells (f : Flaw) : List Value := [.int .i64 f.id, .int .i64 f.lo, .int .i64 f.hi, .int .i64 f.merit]

/-- The flaws of a slice that begins at a. -/
def FL (w : World) (a : Option Addr) (l : List Flaw) : Prop :=
  l = [] ∨ ∃ b o, a = some ⟨b, o, none⟩ ∧ ∀ i (h : i < l.length), Cells w b (o + i * 4) (flawCells l[i])

theorem FL.get {w : World} {a : Option Addr} {l : List Flaw} (h : FL w a l) {i : Nat} (hi : i < l.length) :
    ∃ b o, a = some ⟨b, o, none⟩ ∧ ∀ i (h : i < l.length), Cells w b (o + i * 4) (flawCells l[i]) := by
  rcases h with rfl | h
  · simp at hi
  · exact h

theorem FL.chg {w w' : World} {a : Option Addr} {l : List Flaw} {S : List Nat} (h : FL w a l) (hc : Chg S w w') (hS : Off a l S) : FL w' a l := by
  rcases h with rfl | ⟨b, o, rfl, h⟩
  · exact .inl rfl
  · refine .inr ⟨b, o, rfl, fun i hi => Cells.chg hc (hS (fun e => ?_) ⟨b, o, none⟩ rfl) (h i hi)⟩
    subst e; simp at hi

theorem FL.lt {w : World} {a : Option Addr} {l : List Flaw} (h : FL w a l) (hl : l ≠ []) : ∀ x, a = some x → x.block < w.heap.size := by
  rcases h with rfl | ⟨b, o, rfl, h⟩
  · exact absurd rfl hl
  · rintro x hx
    obtain rfl : (⟨b, o, none⟩ : Addr) = x := by simpa using hx
    exact cell_lt (h 0 (List.length_pos_iff.2 hl)).1

theorem FL.off {w : World} {a : Option Addr} {l : List Flaw} (h : FL w a l) {S : List Nat} (hS : ∀ b ∈ S, w.heap.size ≤ b) : Off a l S :=
  fun hl x hx hm => absurd (hS _ hm) (Nat.not_le_of_lt (h.lt hl x hx))

theorem FL.ext {w w' : World} {a : Option Addr} {l : List Flaw} (h : FL w a l) (hc : Chg [] w w') : FL w' a l := h.chg hc (fun _ _ _ => by simp)

/-- A tour, by value. -/
def TourV (w : World) (v : Value) (t : Tour) : Prop :=
  ∃ ac cc af cf, v = .agg #[.int .i64 t.days, .slice ac t.closed.length cc, .slice af t.flaws.length cf] ∧ IL w ac t.closed ∧ FL w af t.flaws

theorem TourV.ext {w w' : World} {v : Value} {t : Tour} (h : TourV w v t) (hc : Chg [] w w') : TourV w' v t := by
  obtain ⟨ac, cc, af, cf, rfl, h1, h2⟩ := h
  exact ⟨ac, cc, af, cf, rfl, h1.ext hc, h2.ext hc⟩

/-- The ints are of int's range. -/
def I64 (z : Int) : Prop := -9223372036854775808 ≤ z ∧ z ≤ 9223372036854775807

end Sg
end Go.Proofs.YtkoejelglinmnaaGreat
