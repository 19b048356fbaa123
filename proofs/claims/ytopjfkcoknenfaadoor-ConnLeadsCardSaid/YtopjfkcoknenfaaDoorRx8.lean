/- RX, part 8: how a function is entered, how it ends, how a call is met. -/
import Derived.Test.YtopjfkcoknenfaaDoorRx7
namespace Go.Rx
open Go RowKit

def SVdens (ids : List Nat) : List SV → Option (List Value)
  | [] => some []
  | x :: r => (x.den ids).bind fun a => (SVdens ids r).map fun l => a :: l
theorem SVdens_mono {ids ids' : List Nat} (h : ids <+: ids') : ∀ {ss : List SV} {l : List Value}, SVdens ids ss = some l → SVdens ids' ss = some l
  | [], l, hs => hs
  | x :: r, l, hs => by
    simp only [SVdens, Option.bind_eq_some_iff, Option.map_eq_some_iff] at hs ⊢
    obtain ⟨a, ha, l', hl', rfl⟩ := hs
    exact ⟨a, SV.den_mono h ha, l', SVdens_mono h hl', rfl⟩
theorem SVdens_length {ids : List Nat} : ∀ {ss : List SV} {l : List Value}, SVdens ids ss = some l → l.length = ss.length
  | [], l, hs => by cases hs; rfl
  | x :: r, l, hs => by
    simp only [SVdens, Option.bind_eq_some_iff, Option.map_eq_some_iff] at hs
    obtain ⟨a, ha, l', hl', rfl⟩ := hs
    simp [SVdens_length hl']
def argSl : Nat → List SV → List (Nat × SV)
  | _, [] => []
  | i, s :: r => (i, s) :: argSl (i + 1) r
theorem argSl_look {ids : List Nat} : ∀ {ss : List SV} {l : List Value} {i j : Nat} {s : SV}, SVdens ids ss = some l → alook (argSl i ss) j = some s → ∃ v, i ≤ j ∧ l[j - i]? = some v ∧ s.den ids = some v
  | [], l, i, j, s, _, h => by cases h
  | x :: r, l, i, j, s, hs, h => by
    simp only [SVdens, Option.bind_eq_some_iff, Option.map_eq_some_iff] at hs
    obtain ⟨a, ha, l', hl', rfl⟩ := hs
    simp only [argSl, alook] at h
    split at h
    · rename_i e; subst e; cases h; exact ⟨a, Nat.le_refl _, by simp, ha⟩
    · obtain ⟨v, h1, h2, h3⟩ := argSl_look hl' h
      refine ⟨v, by omega, ?_, h3⟩
      rw [show j - i = (j - (i + 1)) + 1 from by omega]
      simpa using h2

section
variable {P : Program} {T : Tab} {sp : Spec} {Z : Nat → Prop} {w0 : World} {f : FuncId} {R : Ending → World → Prop}

theorem MemOk.empty (w : World) : MemOk (fun _ => False) w [] [] w :=
  ⟨List.nodup_nil, rfl, fun _ h => (by cases h), fun h => (by simp at h), Nat.le_refl _, fun _ _ _ => rfl, rfl, rfl, rfl⟩
theorem MemOk.toBelow {ids : List Nat} {mem : Mem} {w : World} (h : MemOk (fun _ => False) w0 ids mem w) : Below w0.heap.size w0 w :=
  ⟨h.outer.1, h.outer.2.1, h.outer.2.2, h.size, fun k hk => h.kept k hk id⟩

theorem Calls.rx {fn : Func} {body : Code} (hf : P.funcs[f]? = some fn) (hb : fn.body = some body) {args : List SV} {vals : List Value} {ids : List Nat} {mem : Mem} {w : World} (gl : List (Nat × Nat)) (hgl : ∀ {g k : Nat}, glook gl g = some k → ids[k]? = some g) (hv : SVdens ids args = some vals)
    (hn : args.length ≤ fn.ntmps) (hm : MemOk Z w0 ids mem w) (h : ∀ a, Sat Z w0 ids { n := fn.ntmps, m := argSl 0 args, gl := gl } mem a w → Goes P f [.code body] a w R) : Calls P f vals.toArray w R := by
  refine Goes.calls hf hb (h _ ⟨⟨rfl, ?_, ?_, hgl⟩, hm⟩)
  · have := SVdens_length hv
    simp; omega
  · intro i s hs
    obtain ⟨v, h1, h2, h3⟩ := argSl_look hv hs
    refine ⟨v, ?_, h3⟩
    simp only [Nat.sub_zero] at h2
    have hlt : i < vals.length := by
      rcases Nat.lt_or_ge i vals.length with h | h
      · exact h
      · rw [List.getElem?_eq_none h] at h2; cases h2
    show (vals.toArray ++ Array.replicate (fn.ntmps - vals.toArray.size) undef)[i]? = some v
    rw [Array.getElem?_append_left (by simpa using hlt)]
    simpa using h2

def exLoad (T : Tab) (mem : Mem) (t k off : Nat) : Option SV :=
  match look T t with
  | some i =>
    match mem[k]? with
    | some (_, cs) =>
      bif i.agg then (if off + i.size ≤ cs.length then some (.g ((cs.drop off).take i.size)) else none)
      else (cs[off]?).map fun x => .l x
    | none => none
  | none => none
def exRes1 (T : Tab) (sl : Sl) (mem : Mem) : ResultVar → Option SV
  | .tmp t => alook sl.m t
  | .cell ad t => match alook sl.m ad with | some (.l (.p k off)) => exLoad T mem t k off | _ => none
def exRes (T : Tab) (sl : Sl) (mem : Mem) : List ResultVar → Option (List SV)
  | [] => some []
  | x :: r => (exRes1 T sl mem x).bind fun a => (exRes T sl mem r).map fun l => a :: l
def oneOf : List Value → Value
  | [v] => v
  | vs => .tuple vs.toArray
def atEnd : List Item → Bool
  | [] => true
  | .code .ret :: _ => true
  | _ => false

def resSem (a : Act) : ResultVar → Sem Value
  | .tmp t => pure (a.tmps.getD t undef)
  | .cell ad t => do loadVar t (← asAddr (a.tmps.getD ad undef))
theorem exRes1_ok (hf : T.fits P) {ids : List Nat} {sl : Sl} {mem : Mem} {a : Act} {w : World} (hs : Sat Z w0 ids sl mem a w) {x : ResultVar} {s : SV} (h : exRes1 T sl mem x = some s) :
    ∃ v, s.den ids = some v ∧ (resSem a x).run P w = .ok v w := by
  cases x with
  | tmp t =>
    obtain ⟨v, hv, hd⟩ := hs.slots.slot h
    refine ⟨v, hd, ?_⟩
    simp [resSem, Array.getD_eq_getD_getElem?, hv, pure]
  | cell ad t =>
    simp only [exRes1] at h
    split at h
    · rename_i k off hl
      obtain ⟨v, hv, hd⟩ := hs.slots.slot hl
      obtain ⟨b, hb, rfl⟩ := den_p hd
      unfold exLoad at h
      split at h
      · rename_i i hi
        split at h
        · rename_i u cs hk
          obtain ⟨v, hdv, hr⟩ := load_ok (off := off) (s := s) (obs := []) hf hs.mem hi hk hb (by
            revert h
            cases i.agg with
            | true =>
              simp only [cond_true]
              intro h
              split at h
              · rename_i hc; rw [if_pos hc]; cases h; rfl
              · cases h
            | false =>
              simp only [cond_false, Option.map_eq_some_iff]
              intro ⟨y, hy, e⟩
              exact ⟨y, hy, by rw [e]⟩)
          refine ⟨v, hdv, ?_⟩
          simp only [resSem, Array.getD_eq_getD_getElem?, hv, Option.getD_some]
          exact hr
        · cases h
      · cases h
    · cases h
theorem exRes_ok (hf : T.fits P) {ids : List Nat} {sl : Sl} {mem : Mem} {a : Act} {w : World} (hs : Sat Z w0 ids sl mem a w) : ∀ {xs : List ResultVar} {rs : List SV}, exRes T sl mem xs = some rs →
    ∃ vs, SVdens ids rs = some vs ∧ (xs.mapM (resSem a)).run P w = .ok vs w
  | [], rs, h => by cases h; exact ⟨[], rfl, rfl⟩
  | x :: r, rs, h => by
    simp only [exRes, Option.bind_eq_some_iff, Option.map_eq_some_iff] at h
    obtain ⟨s, hx, l, hl, rfl⟩ := h
    obtain ⟨v, hv, hr⟩ := exRes1_ok hf hs hx
    obtain ⟨vs, hvs, hrs⟩ := exRes_ok hf hs hl
    refine ⟨v :: vs, by simp [SVdens, hv, hvs], ?_⟩
    rw [List.mapM_cons, Sem.run_bind, hr]
    show Sem.run P (List.mapM (resSem a) r >>= _) w = _
    rw [Sem.run_bind, hrs]
    rfl
/-- The end of a function. -/
theorem Goes.fin (hf : T.fits P) {fn : Func} (hfn : P.funcs[f]? = some fn) (c : Cfg) (hk : atEnd c.todo = true) {rs : List SV} (hres : exRes T c.sl c.mem fn.results.toList = some rs) {ids : List Nat} {a : Act} {w : World}
    (hs : Sat Z w0 ids c.sl c.mem a w) (hR : ∀ vs, SVdens ids rs = some vs → R (.returned (oneOf vs)) w) : Goes P f c.todo a w R := by
  obtain ⟨vs, hvs, hr⟩ := exRes_ok hf hs hres
  have hrun : (results fn a.tmps).run P w = .ok (oneOf vs) w := by
    unfold results
    have hm : (fn.results.mapM (resSem a)).run P w = .ok vs.toArray w := by
      rw [Array.mapM_eq_mapM_toList]
      show Sem.run P ((List.mapM (resSem a) fn.results.toList) >>= fun l => pure (Array.mk l)) w = _
      rw [Sem.run_bind, hr]
      rfl
    show Sem.run P (fn.results.mapM (resSem a) >>= fun vs => pure (if h : vs.size = 1 then vs[0] else .tuple vs)) w = _
    rw [Sem.run_bind, hm]
    show Result.ok _ w = _
    congr 1
    match vs with
    | [] => rfl
    | [v] => rfl
    | v :: u :: r => simp [oneOf]
  unfold atEnd at hk
  split at hk
  · rename_i e
    rw [e]
    exact Goes.done hfn hs.slots.defers hrun (hR vs hvs)
  · rename_i k e
    rw [e]
    exact Goes.ret hfn hs.slots.defers hrun (hR vs hvs)
  · cases hk

/-- Where a run stands at a call: the function, the arguments, and what the state is once it has answered. -/
def callOf (c : Cfg) : Option (FuncId × List SV) :=
  match c.todo with
  | .inRegion ops (i :: _) :: _ =>
    match ops[i]? with
    | some { op := .call { callee := .value (.func g), args, argTypes := _ }, guard := gd, dst := dst, .. } =>
      match gd with
      | none => if inB c.sl dst then (evs c.sl args.toList).map fun l => (g, l) else none
      | some (j, want) =>
        match ((ops[j]?).bind (·.dst)).bind (alook c.sl.m) with
        | some (.l (.v (.bool b))) => if b = want then (if inB c.sl dst then (evs c.sl args.toList).map fun l => (g, l) else none) else none
        | _ => none
    | _ => none
  | _ => none
def answered (c : Cfg) (s : SV) (mem : Mem) : Cfg :=
  match c.todo with
  | .inRegion ops (i :: rest) :: k => ⟨.inRegion ops rest :: k, putS c.sl ((ops[i]?).bind (·.dst)) s, mem, c.lp⟩
  | _ => c
theorem evs_dens {ids : List Nat} {sl : Sl} {mem : Mem} {a : Act} {w : World} (hs : Sat Z w0 ids sl mem a w) : ∀ {xs : List Operand} {ss : List SV}, evs sl xs = some ss → SVdens ids ss = some (xs.map a.eval)
  | [], ss, h => by cases h; rfl
  | x :: r, ss, h => by
    simp only [evs, Option.bind_eq_some_iff, Option.map_eq_some_iff] at h
    obtain ⟨s, hx, l, hl, rfl⟩ := h
    simp [SVdens, hs.ev hx, evs_dens hs hl]
/-- A call, met by its contract. -/
theorem Goes.atCall (c : Cfg) {g : FuncId} {args : List SV} (hc : callOf c = some (g, args)) (he : enters P g = true) {ids : List Nat} {a : Act} {w : World} (hs : Sat Z w0 ids c.sl c.mem a w)
    {vals : List Value} (hv : SVdens ids args = some vals)
    (h : Calls P g vals.toArray w fun e w' => ∃ r, e = .returned r ∧ ∀ a', (∀ ids' s, ids <+: ids' → s.den ids' = some r → Slots ids' (answered c s c.mem).sl a') → Goes P f (answered c (.l (.v r)) c.mem).todo a' w' R) : Goes P f c.todo a w R := by
  obtain ⟨todo, sl, mem, lp⟩ := c
  unfold callOf at hc
  simp only at hc hs ⊢
  split at hc
  · rename_i ops i rest k
    split at hc
    · rename_i dst g' args' ts ty pos af gd ho
      have core : Region.wanted (⟨dst, .call ⟨.value (.func g'), args', ts⟩, ty, pos, af, gd⟩ : Oper) (yielded ops a.tmps) = true → inB sl dst = true → (evs sl args'.toList).map (fun l => (g', l)) = some (g, args) → Goes P f (.inRegion ops (i :: rest) :: k) a w R := fun hw hb hx => by
        simp only [Option.map_eq_some_iff, Prod.mk.injEq] at hx
        obtain ⟨l, hl, rfl, rfl⟩ := hx
        have hva : args'.map a.eval = vals.toArray := by
          have := evs_dens hs hl
          rw [hv] at this
          apply Array.ext'
          simpa using (Option.some.inj this).symm
        refine Goes.call ho hw (call_enter he) ?_
        rw [hva]
        refine h.mono fun e w' ⟨r, her, hg⟩ => ⟨r, her, ?_⟩
        refine hg _ fun ids' s hp hd => ?_
        show Slots ids' (putS sl ((ops[i]?).bind (·.dst)) s) (a.put dst r)
        rw [ho]
        exact (hs.slots.mono hp).put hd hb
      split at hc
      · split at hc
        · rename_i hb
          exact core rfl hb hc
        · cases hc
      · rename_i j want
        split at hc
        · rename_i b hl
          split at hc
          · rename_i hbw
            split at hc
            · rename_i hb
              refine core ?_ hb hc
              obtain ⟨t, ht, hlt⟩ := Option.bind_eq_some_iff.1 hl
              obtain ⟨v, hv', hd'⟩ := hs.slots.slot hlt
              obtain rfl := den_v hd'
              unfold Region.wanted yielded
              simp only
              rw [ht]
              simp only [Option.bind_some, hv']
              subst hbw
              cases b <;> rfl
            · cases hc
          · cases hc
        · cases hc
    · cases hc
  · cases hc

/-- A whole path of a function that is handed no known memory: decided by 'ds', from its head to its end. -/
theorem Calls.path (hf : T.fits P) {w : World} (hsp : SpecOk P (fun _ => False) w sp) (hm : P.follows .mixedOrders = true) {fn : Func} {body : Code} (hfn : P.funcs[f]? = some fn) (hb : fn.body = some body) {args : List SV} {vals : List Value} (n : Nat) (ds : List Bool) {A : Prop} {vs : List Value} {lp : Bool}
    (hv : SVdens [] args = some vals) (hn : args.length ≤ fn.ntmps) (hA : A) (he : All (run T sp n ds { todo := [.code body], sl := { n := fn.ntmps, m := argSl 0 args }, mem := [], lp := lp }).1 = A)
    (hend : atEnd (run T sp n ds { todo := [.code body], sl := { n := fn.ntmps, m := argSl 0 args }, mem := [], lp := lp }).2.todo = true)
    (hres : (exRes T (run T sp n ds { todo := [.code body], sl := { n := fn.ntmps, m := argSl 0 args }, mem := [], lp := lp }).2.sl (run T sp n ds { todo := [.code body], sl := { n := fn.ntmps, m := argSl 0 args }, mem := [], lp := lp }).2.mem fn.results.toList).bind (SVdens []) = some vs) :
    Calls P f vals.toArray w fun e w' => e = .returned (oneOf vs) ∧ Below w.heap.size w w' := by
  refine Calls.rx hfn hb [] (fun h => by cases h) hv hn (MemOk.empty w) fun a hs => run_ok hf hsp hm n ds _ hs (he ▸ hA) fun ids' a' w' _ hs' => ?_
  obtain ⟨rs, hrs, hvs⟩ := Option.bind_eq_some_iff.1 hres
  refine Goes.fin hf hfn _ hend hrs hs' fun vs' hvs' => ⟨?_, hs'.mem.toBelow⟩
  have := SVdens_mono (List.nil_prefix (l := ids')) hvs
  rw [hvs'] at this
  rw [Option.some.inj this]

/-- Memory as it is known at a function's head. -/
theorem MemOk.init {ids : List Nat} {mem : Mem} {w : World} (hn : ids.Nodup) (hl : ids.length = mem.length)
    (hb : ∀ {k : Nat} {t : Nat} {cs : List SL}, mem[k]? = some (t, cs) → ∃ (b : Nat) (C : List Value), ids[k]? = some b ∧ dens ids cs = some C ∧ w.heap[b]? = some (Obj.cells C.toArray t (0, 0))) : MemOk (fun b => b ∈ ids) w ids mem w :=
  ⟨hn, hl, fun _ h => .inl h, hb, Nat.le_refl _, fun _ _ _ => rfl, rfl, rfl, rfl⟩
/-- Where what was known at the head is as it was, all old memory is. -/
theorem MemOk.same {ids0 ids : List Nat} {mem0 mem : Mem} {w : World} (h0 : MemOk (fun b => b ∈ ids0) w0 ids0 mem0 w0) (h : MemOk (fun b => b ∈ ids0) w0 ids mem w) (hp : ids0 <+: ids) (hm : mem.take mem0.length = mem0) : Below w0.heap.size w0 w := by
  refine ⟨h.outer.1, h.outer.2.1, h.outer.2.2, h.size, fun b hb => ?_⟩
  by_cases hz : b ∈ ids0
  · obtain ⟨k, hk, hkb⟩ := List.mem_iff_getElem.1 hz
    have hk' : k < mem0.length := h0.len ▸ hk
    have e0 : mem0[k]? = some (mem0[k].1, mem0[k].2) := by simp [hk']
    have e1 : mem[k]? = some (mem0[k].1, mem0[k].2) := by
      rw [← e0]
      have := congrArg (fun l => l[k]?) hm
      simp only [List.getElem?_take, hk', if_true] at this
      exact this
    obtain ⟨b0, C0, hb0, hd0, hh0⟩ := h0.blk e0
    obtain ⟨b1, C1, hb1, hd1, hh1⟩ := h.blk e1
    have eb0 : b0 = b := by rw [List.getElem?_eq_getElem hk, hkb] at hb0; exact (Option.some.inj hb0).symm
    have eb1 : b1 = b := by
      obtain ⟨r, rfl⟩ := hp
      rw [List.getElem?_append_left hk, List.getElem?_eq_getElem hk, hkb] at hb1
      exact (Option.some.inj hb1).symm
    subst eb0
    subst eb1
    have := dens_mono hp hd0
    rw [hd1] at this
    rw [hh0, hh1, Option.some.inj this]
  · exact h.kept b hb hz
theorem SVvals_dens {ids : List Nat} : ∀ {rs : List SV} {vs : List Value}, SVvals rs = some vs → SVdens ids rs = some vs
  | [], vs, h => h
  | x :: r, vs, h => by
    simp only [SVvals, Option.bind_eq_some_iff, Option.map_eq_some_iff] at h
    obtain ⟨v, hv1, l, hl, rfl⟩ := h
    simp [SVdens, SV.val_den hv1, SVvals_dens hl]
/-- A whole path of a function, with memory that is known at its head and is at its end as it was. -/
theorem Calls.pathM (hf : T.fits P) (hm : P.follows .mixedOrders = true) {fn : Func} {body : Code} (hfn : P.funcs[f]? = some fn) (hb : fn.body = some body) {w : World} {ids : List Nat} {mem : Mem} (gl : List (Nat × Nat)) (hgl : ∀ {g k : Nat}, glook gl g = some k → ids[k]? = some g)
    (h0 : MemOk (fun b => b ∈ ids) w ids mem w) (hsp : SpecOk P (fun b => b ∈ ids) w sp) {args : List SV} {vals : List Value} (n : Nat) (ds : List Bool) {A : Prop} {vs : List Value} {lp : Bool}
    (hv : SVdens ids args = some vals) (hn : args.length ≤ fn.ntmps) (hA : A) (he : All (run T sp n ds { todo := [.code body], sl := { n := fn.ntmps, m := argSl 0 args, gl := gl }, mem := mem, lp := lp }).1 = A)
    (hend : atEnd (run T sp n ds { todo := [.code body], sl := { n := fn.ntmps, m := argSl 0 args, gl := gl }, mem := mem, lp := lp }).2.todo = true)
    (hres : (exRes T (run T sp n ds { todo := [.code body], sl := { n := fn.ntmps, m := argSl 0 args, gl := gl }, mem := mem, lp := lp }).2.sl (run T sp n ds { todo := [.code body], sl := { n := fn.ntmps, m := argSl 0 args, gl := gl }, mem := mem, lp := lp }).2.mem fn.results.toList).bind SVvals = some vs)
    (hsame : (run T sp n ds { todo := [.code body], sl := { n := fn.ntmps, m := argSl 0 args, gl := gl }, mem := mem, lp := lp }).2.mem.take mem.length = mem) :
    Calls P f vals.toArray w fun e w' => e = .returned (oneOf vs) ∧ Below w.heap.size w w' := by
  refine Calls.rx hfn hb gl hgl hv hn h0 fun a hs => run_ok hf hsp hm n ds _ hs (he ▸ hA) fun ids' a' w' hp hs' => ?_
  obtain ⟨rs, hrs, hvs⟩ := Option.bind_eq_some_iff.1 hres
  refine Goes.fin hf hfn _ hend hrs hs' fun vs' hvs' => ⟨?_, h0.same hs'.mem hp hsame⟩
  have := SVvals_dens (ids := ids') hvs
  rw [hvs'] at this
  rw [Option.some.inj this]
end
end Go.Rx
