/- RX, part 5: 'Goes' (from here the frame comes to its end), the steps of a frame on symbolic values, and that they are the machine's. -/
import Derived.Test.YtopjfkcoknenfaaDoorRx4
namespace Go.Rx
open Go RowKit

/-- From this list of items, in this state, the frame of function f comes to an end of which R holds. -/
def Goes (P : Program) (f : FuncId) (k : List Item) (a : Act) (w : World) (R : Ending → World → Prop) : Prop :=
  ∀ (b : Frame), b.fn = f → b.kind = .normal → ∀ cs, ∃ e w' fr, R e w' ∧ Comes P (lone (b.at a k) cs w) (lone fr cs w') e ∧ fr.fn = f ∧ fr.leaving P w' e

section
variable {P : Program} {f : FuncId} {k k' : List Item} {a a' : Act} {w w' : World} {R : Ending → World → Prop} {ops : Array Oper} {i : Nat} {rest : List Nat} {o : Oper}

theorem Goes.calls {fn : Func} {c : Code} {args : Array Value} (hf : P.funcs[f]? = some fn) (hb : fn.body = some c)
    (h : Goes P f [.code c] { tmps := args ++ Array.replicate (fn.ntmps - args.size) undef, defers := [] } w R) : Calls P f args w R := by
  intro cs
  obtain ⟨e, w', fr, hR, hc, h1, h2⟩ := h { (default : Frame) with fn := f, kind := .normal } rfl rfl cs
  refine ⟨e, w', fr, hR, ?_, h1, h2⟩
  have henter : Frame.enter P f args .normal =
      ({ (default : Frame) with fn := f, kind := .normal } : Frame).at { tmps := args ++ Array.replicate (fn.ntmps - args.size) undef, defers := [] } [.code c] := by
    simp [Frame.enter, Frame.at, hf, hb]
  rw [henter]
  exact hc
theorem Goes.many (hs : ∀ (b : Frame), b.fn = f → b.kind = .normal → ∀ cs, Steps P (lone (b.at a k) cs w) (lone (b.at a' k') cs w')) (h : Goes P f k' a' w' R) : Goes P f k a w R := by
  intro b hb hk cs
  obtain ⟨e, w'', fr, hR, hc, h1, h2⟩ := h b hb hk cs
  exact ⟨e, w'', fr, hR, Comes.of_steps (hs b hb hk cs) hc, h1, h2⟩
theorem Goes.one (hs : ∀ (b : Frame), b.fn = f → b.kind = .normal → ∀ cs, step P (lone (b.at a k) cs w) = .next (lone (b.at a' k') cs w')) (h : Goes P f k' a' w' R) : Goes P f k a w R :=
  Goes.many (fun b hb hk cs => .one (hs b hb hk cs)) h
theorem Goes.mono {R' : Ending → World → Prop} (h : Goes P f k a w R) (hr : ∀ e w, R e w → R' e w) : Goes P f k a w R' := fun b hb hk cs =>
  let ⟨e, w', fr, hR, rest⟩ := h b hb hk cs
  ⟨e, w', fr, hr _ _ hR, rest⟩
/-- A piece of code by the kit's own rules, where it ends as it should. -/
theorem Goes.wp {c : Code} {Q : Exit → Act → World → Prop} (h : c.wp P Q a w) (hq : ∀ e a' w', Q e a' w' → e = .normal ∧ Goes P f k a' w' R) : Goes P f (.code c :: k) a w R := by
  intro b hb hk cs
  obtain ⟨e, a', w', q, harr⟩ := h b k cs
  obtain ⟨rfl, hg⟩ := hq e a' w' q
  obtain ⟨e, w'', fr, hR, hc, h1, h2⟩ := hg b hb hk cs
  exact ⟨e, w'', fr, hR, Comes.of_steps harr hc, h1, h2⟩
theorem Goes.ret {fn : Func} {v : Value} (hf : P.funcs[f]? = some fn) (hd : a.defers = []) (hr : (results fn a.tmps).run P w = .ok v w) (hR : R (.returned v) w) : Goes P f (.code .ret :: k) a w R := by
  intro b hb hk cs
  refine ⟨.returned v, w, { b.at a (.code .ret :: k) with mode := .returning }, hR, .one step_ret, hb, rfl, hd, hk, fn, ?_, hr⟩
  show P.funcs[b.fn]? = some fn
  rw [hb]; exact hf
theorem Goes.done {fn : Func} {v : Value} (hf : P.funcs[f]? = some fn) (hd : a.defers = []) (hr : (results fn a.tmps).run P w = .ok v w) (hR : R (.returned v) w) : Goes P f [] a w R := by
  intro b hb hk cs
  refine ⟨.returned v, w, { b.at a [] with mode := .returning }, hR, .one step_end, hb, rfl, hd, hk, fn, ?_, hr⟩
  show P.funcs[b.fn]? = some fn
  rw [hb]; exact hf
theorem Goes.value {v : Value} (ho : ops[i]? = some o) (hw : Region.wanted o (yielded ops a.tmps) = true) (hr : Comes1 P a o w v w') (h : Goes P f (.inRegion ops rest :: k) (a.put o.dst v) w' R) :
    Goes P f (.inRegion ops (i :: rest) :: k) a w R := by
  refine Goes.one (fun b hb hk cs => ?_) h
  have hg := stepG_op (P := P) (b := b) (k := k) (cs := cs) (w := w) (rest := rest) ho hw
  have hfin : ∀ v, (b.at a (.inRegion ops (i :: rest) :: k)).finish v = b.at (a.put o.dst v) (.inRegion ops rest :: k) := by
    intro v; rw [Frame.finish_at, ho]; rfl
  refine step_lone_go ?_
  rw [hg, ← hfin]
  rcases hr with hr | ⟨hr, rfl⟩ <;> simp [stepG.apply, hr]
theorem Goes.skip (ho : ops[i]? = some o) (hw : Region.wanted o (yielded ops a.tmps) = false) (h : Goes P f (.inRegion ops rest :: k) (a.put o.dst undef) w R) :
    Goes P f (.inRegion ops (i :: rest) :: k) a w R := by
  refine Goes.one (fun b hb hk cs => ?_) h
  have hs := step_op_skip (P := P) (b := b) (a := a) (k := k) (cs := cs) (w := w) (ops := ops) (i := i) (rest := rest) (by simp [ho]; simpa using hw)
  simp only [ho, Option.bind_some] at hs
  exact hs
theorem Goes.call {g : FuncId} {args : Array Value} (ho : ops[i]? = some o) (hw : Region.wanted o (yielded ops a.tmps) = true) (hr : (execOp a.eval o).run P w = .ok (.enter g args) w)
    (h : Calls P g args w fun e w' => ∃ v, e = .returned v ∧ Goes P f (.inRegion ops rest :: k) (a.put o.dst v) w' R) : Goes P f (.inRegion ops (i :: rest) :: k) a w R := by
  intro b hb hk cs
  have hg := stepG_op (P := P) (b := b) (k := k) (cs := cs) (w := w) (rest := rest) ho hw
  have hfin : ∀ v, (b.at a (.inRegion ops (i :: rest) :: k)).finish v = b.at (a.put o.dst v) (.inRegion ops rest :: k) := by
    intro v; rw [Frame.finish_at, ho]; rfl
  obtain ⟨e, w', fr, ⟨v, rfl, hG⟩, hsteps, _, hleave⟩ := h (b.at a (.inRegion ops (i :: rest) :: k) :: cs)
  have henter : step P (lone (b.at a (.inRegion ops (i :: rest) :: k)) cs w) =
      .next (lone (Frame.enter P g args .normal) (b.at a (.inRegion ops (i :: rest) :: k) :: cs) w) :=
    step_lone_go (by rw [hg]; simp [stepG.apply, hr, Frame.at])
  obtain ⟨e, w'', fr', hR, hc, h1, h2⟩ := hG b hb hk cs
  refine ⟨e, w'', fr', hR, Comes.of_steps (.head henter (Steps.trans hsteps (.one ?_))) hc, h1, h2⟩
  rw [← hfin]; exact step_leave_returned hleave
/-- A loop: at each head I holds, and a round either leaves the loop or comes back to the head with a smaller number. -/
theorem Goes.loop {c : Code} (I : Nat → Act → World → Prop) {n : Nat} (h0 : I n a w)
    (round : ∀ n a w, I n a w → (∀ m a' w', m < n → I m a' w' → Goes P f (.inLoop c :: k) a' w' R) → Goes P f (.code c :: .inLoop c :: k) a w R) : Goes P f (.code (.loop c) :: k) a w R := by
  have key : ∀ n a w, I n a w → Goes P f (.code c :: .inLoop c :: k) a w R := by
    intro n
    induction n using Nat.strongRecOn with
    | _ n ih => exact fun a w hI => round n a w hI fun m a' w' hm hI' => Goes.one (fun b _ _ cs => step_inLoop) (ih m hm a' w' hI')
  exact Goes.one (fun b _ _ cs => step_loop) (key n a w h0)
end

/-! ### Calls that are known as functions of values -/
abbrev Spec := FuncId → List Value → Option Value
def enters (P : Program) (f : FuncId) : Bool := match P.funcs[f]? with | some fn => fn.name != "runtime.NumGoroutine" && fn.body.isSome | none => false
def SpecOk (P : Program) (Z : Nat → Prop) (w0 : World) (sp : Spec) : Prop := ∀ f args r, sp f args = some r → enters P f = true ∧ ∀ ids mem w, MemOk Z w0 ids mem w → Calls P f args.toArray w (fun e w' => e = .returned r ∧ Below w.heap.size w w')
def SL.val : SL → Option Value
  | .v x => some x
  | .p _ _ => none
def SLvals : List SL → Option (List Value)
  | [] => some []
  | x :: r => x.val.bind fun a => (SLvals r).map fun l => a :: l
def SV.val : SV → Option Value
  | .l x => x.val
  | .g cs => (SLvals cs).map fun l => .agg l.toArray
def SVvals : List SV → Option (List Value)
  | [] => some []
  | x :: r => x.val.bind fun a => (SVvals r).map fun l => a :: l
theorem SL.val_den {ids : List Nat} {s : SL} {v : Value} (h : s.val = some v) : s.den ids = some v := by
  cases s with
  | v x => exact h
  | p k o => cases h
theorem SLvals_den {ids : List Nat} : ∀ {cs : List SL} {l : List Value}, SLvals cs = some l → dens ids cs = some l
  | [], l, h => h
  | x :: r, l, h => by
    simp only [SLvals, Option.bind_eq_some_iff, Option.map_eq_some_iff] at h
    obtain ⟨a, ha, l', hl', rfl⟩ := h
    simp [dens, SL.val_den ha, SLvals_den hl']
theorem SV.val_den {ids : List Nat} {s : SV} {v : Value} (h : s.val = some v) : s.den ids = some v := by
  cases s with
  | l x => exact SL.val_den h
  | g cs =>
    simp only [SV.val, Option.map_eq_some_iff] at h
    obtain ⟨l, hl, rfl⟩ := h
    simp [SV.den, SLvals_den hl]
def exCall (sp : Spec) (sl : Sl) (o : Oper) : Option SV :=
  match o.op with
  | .call { callee := .value (.func f), args, argTypes := _ } => ((evs sl args.toList).bind SVvals).bind fun l => (sp f l).map fun r => .l (.v r)
  | _ => none
/-- What a call's operation asks: to enter the function, with these arguments. -/
theorem call_enter {P : Program} {a : Act} {w : World} {dst : Option Tmp} {f : FuncId} {args : Array Operand} {ts : Array TypeId} {ty : TypeId} {pos : String} {af : Array Edge} {g : Option (Nat × Bool)} (h : enters P f = true) :
    (execOp a.eval ⟨dst, .call ⟨.value (.func f), args, ts⟩, ty, pos, af, g⟩).run P w = .ok (.enter f (args.map a.eval)) w := by
  unfold enters at h
  cases hf : P.funcs[f]? with
  | none => rw [hf] at h; cases h
  | some fn =>
    rw [hf] at h
    simp only [Bool.and_eq_true, bne_iff_ne, ne_eq] at h
    have hb : fn.body.isNone = false := by
      cases hh : fn.body with
      | none => rw [hh] at h; simp at h
      | some c => rfl
    have e : (callFunc f (args.map a.eval)).run P w = .ok (.enter f (args.map a.eval)) w := by
      unfold callFunc
      rw [Sem.run_bind]
      show Sem.run P (match P.funcs[f]? with | none => _ | some fn => _) w = _
      rw [hf]
      have hn : (fn.name == "runtime.NumGoroutine") = false := by simpa using h.1
      show Sem.run P (if (fn.name == "runtime.NumGoroutine") = true then _ else if fn.body.isNone = true then _ else _) w = _
      rw [hn, hb]
      rfl
    have e2 : (#[] : Array Value) ++ args.map a.eval ++ #[] = args.map a.eval := by simp
    show (callFunc f (#[] ++ args.map a.eval ++ #[])).run P w = _
    rw [e2]
    exact e
end Go.Rx
