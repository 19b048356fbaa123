/- RX, part 6: the run of a frame on symbolic values, and its law. -/
import Derived.Test.YtopjfkcoknenfaaDoorRx5
namespace Go.Rx
open Go RowKit

def putS (sl : Sl) (dst : Option Tmp) (s : SV) : Sl :=
  match dst with
  | some d => { sl with m := (d, s) :: sl.m }
  | none => sl
def blook : List (Nat × Bool) → Nat → Option Bool
  | [], _ => none
  | (u, b) :: r, t => if u = t then some b else blook r t
def bput (dec : List (Nat × Bool)) : Option Tmp → List (Nat × Bool)
  | none => dec
  | some d => dec.filter fun x => x.1 != d
def DecOk (a : Act) (dec : List (Nat × Bool)) : Prop := ∀ x ∈ dec, a.tmps[x.1]? = some (.bool x.2)
theorem blook_mem : ∀ {dec : List (Nat × Bool)} {t : Nat} {b : Bool}, blook dec t = some b → (t, b) ∈ dec
  | [], _, _, h => by cases h
  | (u, c) :: r, t, b, h => by
    simp only [blook] at h
    split at h
    · rename_i e; subst e; cases h; simp
    · simp [blook_mem h]
def inB (sl : Sl) : Option Tmp → Bool
  | some d => decide (d < sl.n)
  | none => true

theorem Slots.mono {ids ids' : List Nat} {sl : Sl} {a : Act} (h : Slots ids sl a) (hp : ids <+: ids') : Slots ids' sl a :=
  ⟨h.defers, h.sz, fun hs => let ⟨v, hv, hd⟩ := h.slot hs; ⟨v, hv, SV.den_mono hp hd⟩, fun {g k} hg => by
    have := h.glob hg
    obtain ⟨r, rfl⟩ := hp
    have hk : k < ids.length := by
      rcases Nat.lt_or_ge k ids.length with hlt | hge
      · exact hlt
      · rw [List.getElem?_eq_none hge] at this; cases this
    rw [List.getElem?_append_left hk]; exact this⟩
theorem Slots.put {ids : List Nat} {sl : Sl} {a : Act} (h : Slots ids sl a) {s : SV} {v : Value} (hd : s.den ids = some v) {dst : Option Tmp} (hb : inB sl dst = true) : Slots ids (putS sl dst s) (a.put dst v) := by
  cases dst with
  | none => exact h
  | some d =>
    simp only [inB, decide_eq_true_eq] at hb
    refine ⟨h.defers, by simp [Act.put, putS, h.sz], ?_, h.glob⟩
    intro i t ht
    simp only [putS, alook] at ht
    split at ht
    · rename_i e; subst e; cases ht
      exact ⟨v, by simp [Act.put, h.sz, hb], hd⟩
    · rename_i e
      obtain ⟨u, hu, hdu⟩ := h.slot ht
      exact ⟨u, by simp [Act.put, e, hu], hdu⟩
theorem DecOk.put {a : Act} {dec : List (Nat × Bool)} (h : DecOk a dec) (dst : Option Tmp) (v : Value) : DecOk (a.put dst v) (bput dec dst) := by
  cases dst with
  | none => exact h
  | some d =>
    intro x hx
    simp only [bput, List.mem_filter, bne_iff_ne, ne_eq] at hx
    have := h x hx.1
    simp only [Act.put]
    rw [Array.getElem?_setIfInBounds, if_neg (fun e => hx.2 e.symm)]
    exact this
theorem DecOk.nil (a : Act) : DecOk a [] := fun _ h => by cases h

/-- Is the operation to be carried out? What is decided, what is then owed. -/
def guardS (ops : Array Oper) (sl : Sl) (dec : List (Nat × Bool)) (ds : List Bool) (o : Oper) : Option (Bool × List Prop × Sl × List (Nat × Bool) × List Bool) :=
  match o.guard with
  | none => some (true, [], sl, dec, ds)
  | some (j, want) =>
    match (ops[j]?).bind (·.dst) with
    | none => none
    | some t =>
      match blook dec t with
      | some d => some (d == want, [], sl, dec, ds)
      | none =>
        match alook sl.m t with
        | some (.l (.v (.bool b))) =>
          match ds with
          | [] => none
          | d :: r => some (d == want, [b = d], { sl with m := (t, vBool d) :: sl.m }, (t, d) :: dec, r)
        | some (.l (.v (.tuple _))) => some (false, [], sl, dec, ds)
        | _ => none

theorem guardS_ok {ids : List Nat} {sl sl1 : Sl} {a : Act} {ops : Array Oper} {dec dec1 : List (Nat × Bool)} {ds ds1 : List Bool} {o : Oper} {r : Bool} {obs : List Prop} (hs : Slots ids sl a) (hd : DecOk a dec)
    (h : guardS ops sl dec ds o = some (r, obs, sl1, dec1, ds1)) (ho : All obs) : Region.wanted o (yielded ops a.tmps) = r ∧ Slots ids sl1 a ∧ DecOk a dec1 ∧ sl1.n = sl.n := by
  unfold guardS at h
  unfold Region.wanted
  split at h
  · rename_i hg
    simp only [Option.some.injEq, Prod.mk.injEq] at h
    obtain ⟨rfl, rfl, rfl, rfl, rfl⟩ := h
    rw [hg]
    exact ⟨rfl, hs, hd, rfl⟩
  · rename_i j want hg
    rw [hg]
    split at h
    · cases h
    · rename_i t ht
      have hy : ∀ v, a.tmps[t]? = some v → yielded ops a.tmps j = match v with | .bool b => some b | _ => none := fun v hv => by
        unfold yielded
        rw [ht]
        simp only [Option.bind_some, hv]
        cases v <;> rfl
      split at h
      · rename_i d hbl
        simp only [Option.some.injEq, Prod.mk.injEq] at h
        obtain ⟨rfl, rfl, rfl, rfl, rfl⟩ := h
        refine ⟨?_, hs, hd, rfl⟩
        show (yielded ops a.tmps j == some want) = (d == want)
        rw [hy _ (hd _ (blook_mem hbl))]
        cases d <;> cases want <;> rfl
      · split at h
        · rename_i b hsl
          split at h
          · cases h
          · rename_i d r'
            simp only [Option.some.injEq, Prod.mk.injEq] at h
            obtain ⟨rfl, rfl, rfl, rfl, rfl⟩ := h
            obtain rfl : b = d := ho.1
            obtain ⟨v, hv, hdv⟩ := hs.slot hsl
            obtain rfl := den_v hdv
            refine ⟨?_, ⟨hs.defers, hs.sz, ?_, hs.glob⟩, ?_, rfl⟩
            · show (yielded ops a.tmps j == some want) = (b == want)
              rw [hy _ hv]
              cases b <;> cases want <;> rfl
            · intro i s hi
              simp only [alook] at hi
              split at hi
              · rename_i e; subst e; cases hi; exact ⟨_, hv, rfl⟩
              · exact hs.slot hi
            · intro x hx
              rcases List.mem_cons.1 hx with rfl | hx
              · exact hv
              · exact hd x hx
        · rename_i vs hsl
          simp only [Option.some.injEq, Prod.mk.injEq] at h
          obtain ⟨rfl, rfl, rfl, rfl, rfl⟩ := h
          obtain ⟨v, hv, hdv⟩ := hs.slot hsl
          obtain rfl := den_v hdv
          refine ⟨?_, hs, hd, rfl⟩
          show (yielded ops a.tmps j == some want) = false
          rw [hy _ hv]
          rfl
        · cases h

def exOp (T : Tab) (sp : Spec) (sl : Sl) (mem : Mem) (o : Oper) : Option (SV × List Prop × Mem) :=
  match exPure T sl mem o with
  | some (s, obs) => some (s, obs, mem)
  | none =>
    match exBuild T sl o with
    | some s => some (s, [], mem)
    | none =>
      match exEff T sl mem o with
      | some (s, mem') => some (s, [], mem')
      | none => (exCall sp sl o).map fun s => (s, [], mem)

/-- The operations of a region, in the order of the list, as far as they are known. -/
def exOps (T : Tab) (sp : Spec) (ops : Array Oper) : List Nat → Sl → Mem → List (Nat × Bool) → List Bool → List Prop × List Nat × Sl × Mem × List Bool
  | [], sl, mem, _, ds => ([], [], sl, mem, ds)
  | i :: r, sl, mem, dec, ds =>
    match ops[i]? with
    | none => ([], i :: r, sl, mem, ds)
    | some o =>
      match guardS ops sl dec ds o with
      | none => ([], i :: r, sl, mem, ds)
      | some (go, obs, sl1, dec1, ds1) =>
        if inB sl1 o.dst then
          if go then
            match exOp T sp sl1 mem o with
            | some (s, obs2, mem') =>
              let q := exOps T sp ops r (putS sl1 o.dst s) mem' (bput dec1 o.dst) ds1
              (obs ++ obs2 ++ q.1, q.2)
            | none => (obs, i :: r, sl1, mem, ds1)
          else
            let q := exOps T sp ops r (putS sl1 o.dst (.l (.v undef))) mem (bput dec1 o.dst) ds1
            (obs ++ q.1, q.2)
        else ([], i :: r, sl, mem, ds)

/-- The same where no operation may write or make memory (of the region's own): for a region that draws its order. -/
def exQ (T : Tab) (sp : Spec) (ops : Array Oper) (mem : Mem) : List Oper → Sl → List (Nat × Bool) → List Bool → Option (List Prop × Sl × List Bool)
  | [], sl, _, ds => some ([], sl, ds)
  | o :: r, sl, dec, ds =>
    match guardS ops sl dec ds o with
    | none => none
    | some (go, obs, sl1, dec1, ds1) =>
      if inB sl1 o.dst then
        if go then
          match exPure T sl1 mem o with
          | some (s, obs2) => (exQ T sp ops mem r (putS sl1 o.dst s) (bput dec1 o.dst) ds1).map fun q => (obs ++ obs2 ++ q.1, q.2)
          | none =>
            match exBuild T sl1 o with
            | some s => (exQ T sp ops mem r (putS sl1 o.dst s) (bput dec1 o.dst) ds1).map fun q => (obs ++ q.1, q.2)
            | none =>
              match exCall sp sl1 o with
              | some s => (exQ T sp ops mem r (putS sl1 o.dst s) (bput dec1 o.dst) ds1).map fun q => (obs ++ q.1, q.2)
              | none => none
        else (exQ T sp ops mem r (putS sl1 o.dst (.l (.v undef))) (bput dec1 o.dst) ds1).map fun q => (obs ++ q.1, q.2)
      else none

structure Cfg where
  todo : List Item
  sl : Sl
  mem : Mem
  lp : Bool := false      -- may loops be entered, and gone round?

/-- One step: what is owed, the next state, the decisions that are left, and whether to go on. -/
def stepS (T : Tab) (sp : Spec) (c : Cfg) (ds : List Bool) : Option (List Prop × Cfg × List Bool × Bool) :=
  match c.todo with
  | .inBlock _ :: k => some ([], { c with todo := k }, ds, true)
  | .inRegion ops l :: k =>
    match exOps T sp ops l c.sl c.mem [] ds with
    | (obs, [], sl, mem, ds') => some (obs, ⟨k, sl, mem, c.lp⟩, ds', true)
    | (obs, l', sl, mem, ds') => some (obs, ⟨.inRegion ops l' :: k, sl, mem, c.lp⟩, ds', false)
  | .code cd :: k =>
    match cd with
    | .skip => some ([], { c with todo := k }, ds, true)
    | .label _ => some ([], { c with todo := k }, ds, true)
    | .seq x y => some ([], { c with todo := .code x :: .code y :: k }, ds, true)
    | .block id x => some ([], { c with todo := .code x :: .inBlock id :: k }, ds, true)
    | .exit id => (exitTo id k).map fun k' => ([], { c with todo := k' }, ds, true)
    | .cond x t e =>
      match ev c.sl x, ds with
      | some (.l (.v (.bool b))), d :: r => some ([b = d], { c with todo := .code (if d then t else e) :: k }, r, true)
      | _, _ => none
    | .region _ ops false => some ([], { c with todo := .inRegion ops (List.range ops.size) :: k }, ds, true)
    | .region _ ops true =>
      if Region.lexB .any ops then (exQ T sp ops c.mem ops.toList c.sl [] ds).map fun q => (q.1, ⟨k, q.2.1, c.mem, c.lp⟩, q.2.2, true) else none
    | .loop x => if c.lp then some ([], { c with todo := .code x :: .inLoop x :: k }, ds, true) else none
    | _ => none
  | .inLoop x :: k => if c.lp then some ([], { c with todo := .code x :: .inLoop x :: k }, ds, true) else none
  | _ => none

def run (T : Tab) (sp : Spec) : Nat → List Bool → Cfg → List Prop × Cfg
  | 0, _, c => ([], c)
  | n + 1, ds, c =>
    match stepS T sp c ds with
    | none => ([], c)
    | some (obs, c', ds', true) => let q := run T sp n ds' c'; (obs ++ q.1, q.2)
    | some (obs, c', _, false) => (obs, c')
end Go.Rx
