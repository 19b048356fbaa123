/- RX, part 3: every operation that leaves the world alone. -/
import Derived.Test.YtopjfkcoknenfaaDoorRx2
namespace Go.Rx
open Go

def addOff (o n : Nat) : Nat := if n = 0 then o else o + n
theorem addOff_add (b o n : Nat) : (⟨b, o, none⟩ : Addr).add n = ⟨b, addOff o n, none⟩ := by
  unfold Addr.add addOff; split <;> rfl

def mn2 (x y : Int) : Int := if y < x then y else x
def mx2 (x y : Int) : Int := if y > x then y else x
def exMin : List SV → Option SV
  | [.l (.v (.int k a)), .l (.v (.int _ b))] => some (vInt k (mn2 a b))
  | [.l (.v (.int k a)), .l (.v (.int _ b)), .l (.v (.int _ c))] => some (vInt k (mn2 (mn2 a b) c))
  | _ => none
def exMax : List SV → Option SV
  | [.l (.v (.int k a)), .l (.v (.int _ b))] => some (vInt k (mx2 a b))
  | [.l (.v (.int k a)), .l (.v (.int _ b)), .l (.v (.int _ c))] => some (vInt k (mx2 (mx2 a b) c))
  | _ => none
def evs (sl : Sl) : List Operand → Option (List SV)
  | [] => some []
  | x :: r => (ev sl x).bind fun a => (evs sl r).map fun l => a :: l

def exPure (T : Tab) (sl : Sl) (mem : Mem) (o : Oper) : Option (SV × List Prop) :=
  match o.op with
  | .move x | .assign x => (ev sl x).map fun s => (s, [])
  | .pick c a b =>
    match ev sl c, ev sl a, ev sl b with
    | some (.l (.v (.bool c))), some (.l (.v (.bool x))), some (.l (.v (.bool y))) => some (vBool (bif c then x else y), [])
    | some (.l (.v (.bool c))), some x, some y => some (bif c then x else y, [])
    | _, _, _ => none
  | .load t ad =>
    match look T t, ev sl ad with
    | some i, some (.l (.p k off)) =>
      match mem[k]? with
      | some (_, cs) =>
        bif i.agg then (if off + i.size ≤ cs.length then some (.g ((cs.drop off).take i.size), []) else none)
        else (cs[off]?).map fun x => (.l x, [])
      | none => none
    | _, _ => none
  | .nilCheck x =>
    match ev sl x with
    | some (.l (.p k o)) => some (.l (.p k o), [])
    | some (.l (.v (.pointer (some a)))) => some (.l (.v (.pointer (some a))), [])
    | _ => none
  | .binOp op t x y _ =>
    match ev sl x, ev sl y with
    | some a, some b => exBin T op t a b
    | _, _ => none
  | .unOp .not _ x =>
    match ev sl x with
    | some (.l (.v (.bool b))) => some (vBool (!b), [])
    | _ => none
  | .convert src dst x =>
    match look T src, (look T dst).bind (·.kind), ev sl x with
    | some _, some k, some (.l (.v (.int _ n))) => some (vInt k (k.wrap n), [])
    | _, _, _ => none
  | .fieldAddr t x f =>
    match (look T t).bind (·.flds[f]?), ev sl x with
    | some (off, sz), some (.l (.p k o)) => if sz = 0 then none else some (.l (.p k (addOff o off)), [])
    | _, _ => none
  | .extract x i =>
    match ev sl x with
    | some (.l (.v (.tuple vs))) => (vs[i]?).map fun v => (.l (.v v), [])
    | _ => none
  | .indexAddr t x ix =>
    match (look T t).bind (·.elem), ev sl x, ev sl ix with
    | some (n, sz), some (.l (.p k o)), some (.l (.v (.int _ i))) => if sz = 0 then none else some (.l (.p k (addOff o (i.toNat * sz))), [0 ≤ i, i < n])
    | _, _, _ => none
  | .index t x ix =>
    match look T t, ev sl x, ev sl ix with
    | some i, some (.g cs), some (.l (.v (.int _ q))) =>
      match i.elem with
      | some (n, sz) =>
        if sz = 0 then none else
        match i.eagg with
        | some true => if q.toNat * sz + sz ≤ cs.length then some (.g ((cs.drop (q.toNat * sz)).take sz), [0 ≤ q, q < n]) else none
        | some false => (cs[q.toNat * sz]?).map fun y => (.l y, [0 ≤ q, q < n])
        | none => none
      | none => none
    | _, _, _ => none
  | .call { callee := .builtin .len, args, argTypes } =>
    match (argTypes[0]?).bind (look T), evs sl args.toList with
    | some i, some [.l (.v (.slice _ n _))] => if i.cls = 3 then some (vInt .i64 n, []) else none
    | some i, some [.l (.v (.string s))] => if i.cls = 2 then some (vInt .i64 s.size, []) else none
    | _, _ => none
  | .call { callee := .builtin .min, args, argTypes := _ } => (evs sl args.toList).bind fun l => (exMin l).map fun s => (s, [])
  | .call { callee := .builtin .max, args, argTypes := _ } => (evs sl args.toList).bind fun l => (exMax l).map fun s => (s, [])
  | _ => none

theorem evs_ok {Z : Nat → Prop} {w0 : World} {ids : List Nat} {sl : Sl} {mem : Mem} {a : Act} {w : World} (h : Sat Z w0 ids sl mem a w) :
    ∀ {xs : List Operand} {ss : List SV}, evs sl xs = some ss → ss.length = xs.length ∧ ∀ (i : Nat) (s : SV), ss[i]? = some s → ∃ x, xs[i]? = some x ∧ s.den ids = some (a.eval x)
  | [], ss, he => by cases he; exact ⟨rfl, fun i s h => by simp at h⟩
  | x :: r, ss, he => by
    simp only [evs, Option.bind_eq_some_iff, Option.map_eq_some_iff] at he
    obtain ⟨s, hs, l, hl, rfl⟩ := he
    obtain ⟨h1, h2⟩ := evs_ok h hl
    refine ⟨by simp [h1], fun i t ht => ?_⟩
    cases i with
    | zero => simp at ht; subst ht; exact ⟨x, rfl, h.ev hs⟩
    | succ i => obtain ⟨y, hy, hd⟩ := h2 i t (by simpa using ht); exact ⟨y, by simpa using hy, hd⟩
theorem evs_map {Z : Nat → Prop} {w0 : World} {ids : List Nat} {sl : Sl} {mem : Mem} {a : Act} {w : World} (h : Sat Z w0 ids sl mem a w) :
    ∀ {xs : List Operand} {ss : List SV}, evs sl xs = some ss → ss.map (SV.den ids) = xs.map fun x => some (a.eval x)
  | [], ss, he => by cases he; rfl
  | x :: r, ss, he => by
    simp only [evs, Option.bind_eq_some_iff, Option.map_eq_some_iff] at he
    obtain ⟨s, hs, l, hl, rfl⟩ := he
    simp [h.ev hs, evs_map h hl]

section
variable {P : Program} {w : World}
theorem run_loadCellsFrom {b off : Nat} {C : Array Value} {t : Nat} (hb : w.heap[b]? = some (.cells C t (0, 0))) :
    ∀ (n i : Nat) (acc : Array Value), off + i + n ≤ C.size →
      (loadCellsFrom ⟨b, off, none⟩ i n acc).run P w = .ok (acc ++ C.extract (off + i) (off + i + n)) w
  | 0, i, acc, _ => by
    simp only [loadCellsFrom, pure, Sem.run, Nat.add_zero]
    congr 1
    simp; omega
  | n + 1, i, acc, hn => by
    have hlt : off + i < C.size := by omega
    have hc : w.cell? ((⟨b, off, none⟩ : Addr).add i) = some C[off + i] := by
      rw [addOff_add]
      have : addOff off i = off + i := by unfold addOff; split <;> omega
      rw [this]
      simp [World.cell?, hb, hlt]
    rw [loadCellsFrom, show load ((⟨b, off, none⟩ : Addr).add i) = Sem.load .plain ((⟨b, off, none⟩ : Addr).add i) .pure from rfl, Sem.run_bind]
    simp only [Sem.run, hc]
    show (loadCellsFrom ⟨b, off, none⟩ (i + 1) n (acc.push C[off + i])).run P w = _
    rw [run_loadCellsFrom hb n (i + 1) _ (by omega)]
    congr 1
    apply Array.ext'
    simp only [Array.toList_append, Array.toList_push, Array.toList_extract, List.append_assoc]
    congr 1
    rw [show off + (i + 1) = off + i + 1 from by omega, show off + i + 1 + n = off + i + (n + 1) from by omega]
    simp only [List.extract_eq_take_drop]
    rw [show off + i + (n + 1) - (off + i) = n + 1 from by omega, show off + i + (n + 1) - (off + i + 1) = n from by omega]
    rw [List.drop_eq_getElem_cons (i := off + i) (by simpa using hlt), List.take_succ_cons]
    simp
end
theorem fieldAt_run {P : Program} {t : TypeId} {i : TI} (hi : i.fits P t) {f off sz : Nat} (hf : i.flds[f]? = some (off, sz)) (hs : sz ≠ 0) (b o : Nat) (w : World) :
    (Instr.fieldAt t (.pointer (some ⟨b, o, none⟩)) f).run P w = .ok (.pointer (some ⟨b, addOff o off, none⟩)) w := by
  have h1 := hi.2.2.1
  unfold fieldsOf at h1
  split at h1
  · rename_i fs hu
    rw [← h1] at hf
    simp only [List.getElem?_map, Option.map_eq_some_iff, Prod.mk.injEq] at hf
    obtain ⟨fl, hfl, rfl, rfl⟩ := hf
    have hfl' : fs[f]? = some fl := by simpa using hfl
    have hsz : (sizeOf fl.type).run P w = .ok (P.cellsOf fl.type) w := by
      simp only [Program.cellsOf] at hs ⊢
      cases hx : P.info? fl.type with
      | none => rw [hx] at hs; simp at hs
      | some x => simp [sizeOf, typeInfo, program, Sem.run, hx, pure, bind, Sem.bind]
    unfold Instr.fieldAt
    rw [Sem.run_bind, und w hu]
    show (match fs[f]? with | some f => _ | x => _ : Sem Value).run P w = _
    rw [hfl']
    simp [Instr.sureAddr, pure, fieldPlace, Sem.run_bind, hsz, hs, addOff_add]
  · rw [← h1] at hf; simp at hf
theorem indexAt_run {P : Program} {t : TypeId} {i : TI} (hi : i.fits P t) {n sz : Nat} (hf : i.elem = some (n, sz)) (k : IntKind) (x : Int) (h0 : 0 ≤ x) (h1 : x < n) (hz : sz ≠ 0) (b o : Nat) (w : World) :
    (Instr.indexAt t (.pointer (some ⟨b, o, none⟩)) (.int k x)).run P w = .ok (.pointer (some ⟨b, addOff o (x.toNat * sz), none⟩)) w := by
  have h2 := hi.2.2.2.1
  unfold elemOf' at h2
  split at h2
  · rename_i m e hu
    rw [hf] at h2
    simp only [Option.some.injEq, Prod.mk.injEq] at h2
    obtain ⟨rfl, rfl⟩ := h2
    have hsz : (sizeOf e).run P w = .ok (P.cellsOf e) w := by
      simp only [Program.cellsOf] at hz ⊢
      cases hx : P.info? e with
      | none => rw [hx] at hz; simp at hz
      | some x => simp [sizeOf, typeInfo, program, Sem.run, hx, pure, bind, Sem.bind]
    unfold Instr.indexAt
    simp [asIntOf, Sem.run_bind, pure, und w hu, Instr.sureAddr, h0, h1, hsz, addOff_add]
  · rw [hf] at h2; cases h2

theorem den_p {ids : List Nat} {k o : Nat} {v : Value} (h : (SV.l (.p k o)).den ids = some v) : ∃ b, ids[k]? = some b ∧ v = .pointer (some ⟨b, o, none⟩) := by
  simp only [SV.den, SL.den, Option.map_eq_some_iff] at h
  obtain ⟨b, hb, rfl⟩ := h
  exact ⟨b, hb, rfl⟩
theorem den_v {ids : List Nat} {x v : Value} (h : (SV.l (.v x)).den ids = some v) : v = x := (Option.some.inj h).symm

section
variable {P : Program} {T : Tab} {Z : Nat → Prop} {w0 : World} {ids : List Nat} {sl : Sl} {mem : Mem} {a : Act} {w : World}
theorem load_ok (hf : T.fits P) (hm : MemOk Z w0 ids mem w) {t k off : Nat} {i : TI} {u : Nat} {cs : List SL} {s : SV} {obs : List Prop} {b : Nat} (hl : look T t = some i) (hk : mem[k]? = some (u, cs)) (hb : ids[k]? = some b)
    (h : (bif i.agg then (if off + i.size ≤ cs.length then some (.g ((cs.drop off).take i.size), []) else none) else (cs[off]?).map fun x => (.l x, [])) = some (s, obs)) :
    ∃ v, s.den ids = some v ∧ (Instr.loadAt t (.pointer (some ⟨b, off, none⟩))).run P w = .ok v w := by
  obtain ⟨b', C, hb', hd, hh⟩ := hm.blk hk
  obtain rfl := Option.some.inj (hb.symm.trans hb')
  have fi := Tab.fits_look hf hl
  have hlen := dens_length hd
  have go : ∀ v, (loadVar t ⟨b, off, none⟩).run P w = .ok v w → (Instr.loadAt t (.pointer (some ⟨b, off, none⟩))).run P w = .ok v w := fun v h => by
    unfold Instr.loadAt
    rw [Sem.run_bind]
    exact h
  cases ha : i.agg with
  | true =>
    rw [ha] at h
    simp only [cond_true] at h
    split at h
    · rename_i hsz
      simp only [Option.some.injEq, Prod.mk.injEq] at h
      obtain ⟨rfl, rfl⟩ := h
      refine ⟨.agg ((C.drop off).take i.size).toArray, ?_, go _ ?_⟩
      · simp [SV.den, dens_take _ (dens_drop _ hd)]
      · unfold loadVar
        rw [Sem.run_bind, fi.isAgg, ha]
        show (do pure (.agg (← loadCells ⟨b, off, none⟩ (← sizeOf t))) : Sem Value).run P w = _
        rw [Sem.run_bind, fi.size]
        show (do pure (.agg (← loadCells ⟨b, off, none⟩ i.size)) : Sem Value).run P w = _
        rw [Sem.run_bind, loadCells, run_loadCellsFrom hh _ _ _ (by simp; omega)]
        show Result.ok _ w = _
        congr 2
        apply Array.ext'
        simp [List.extract_eq_take_drop]
    · cases h
  | false =>
    rw [ha] at h
    simp only [cond_false, Option.map_eq_some_iff, Prod.mk.injEq] at h
    obtain ⟨x, hx, rfl, rfl⟩ := h
    obtain ⟨v, hv, hdv⟩ := dens_get hd hx
    refine ⟨v, hdv, go _ ?_⟩
    unfold loadVar
    rw [Sem.run_bind, fi.isAgg, ha]
    have hc : w.cell? ⟨b, off, none⟩ = some v := by simp [World.cell?, hh, hv]
    show (load ⟨b, off, none⟩).run P w = _
    simp [load, Sem.run, hc]

theorem index_run {P : Program} {t : TypeId} {i : TI} (hi : i.fits P t) {n sz : Nat} (hf : i.elem = some (n, sz)) (hz : sz ≠ 0) (k : IntKind) (x : Int) (h0 : 0 ≤ x) (h1 : x < n) {C : List Value} {v : Value} {g : Bool} (hg : i.eagg = some g)
    (hv : bif g then v = .agg ((C.drop (x.toNat * sz)).take sz).toArray else C[x.toNat * sz]? = some v) (w : World) :
    (Instr.index t (.agg C.toArray) (.int k x)).run P w = .ok v w := by
  have h2 := hi.2.2.2.1
  have h3 := hi.2.2.2.2.2.2
  unfold elemOf' at h2
  split at h2
  · rename_i m e hu
    rw [hf] at h2
    simp only [Option.some.injEq, Prod.mk.injEq] at h2
    obtain ⟨rfl, rfl⟩ := h2
    have hsz : (sizeOf e).run P w = .ok (P.cellsOf e) w := by
      simp only [Program.cellsOf] at hz ⊢
      cases hx : P.info? e with
      | none => rw [hx] at hz; simp at hz
      | some x => simp [sizeOf, typeInfo, program, Sem.run, hx, pure, bind, Sem.bind]
    unfold eaggOf at h3
    rw [hu, hg] at h3
    have hag := isAgg_run h3 w
    unfold Instr.index
    rw [Sem.run_bind]
    show Sem.run P (underlying t >>= _) w = _
    rw [Sem.run_bind, und w hu]
    show Sem.run P (if 0 ≤ x ∧ x < (m : Int) then (sizeOf e >>= fun s => part e C.toArray (x.toNat * s)) else _) w = _
    rw [if_pos ⟨h0, h1⟩, Sem.run_bind, hsz]
    show Sem.run P (part e C.toArray (x.toNat * P.cellsOf e)) w = _
    unfold part
    rw [Sem.run_bind, hag]
    cases g with
    | true =>
      simp only [cond_true] at hv
      subst hv
      show Sem.run P (sizeOf e >>= fun s => (pure (Value.agg (C.toArray.extract (x.toNat * P.cellsOf e) (x.toNat * P.cellsOf e + s))) : Sem Value)) w = _
      rw [Sem.run_bind, hsz]
      show Result.ok _ w = _
      congr 2
      apply Array.ext'
      simp [List.extract_eq_take_drop]
    | false =>
      simp only [cond_false] at hv
      show Sem.run P (match C.toArray[x.toNat * P.cellsOf e]? with | some v => pure v | none => _) w = _
      have : C.toArray[x.toNat * P.cellsOf e]? = some v := by simpa using hv
      rw [this]
      rfl
  · rw [hf] at h2; cases h2
theorem exPure_ok (hf : T.fits P) (hs : Sat Z w0 ids sl mem a w) {o : Oper} {s : SV} {obs : List Prop} (h : exPure T sl mem o = some (s, obs)) (ho : All obs) :
    ∃ v, s.den ids = some v ∧ (execOp a.eval o).run P w = .ok (.value v) w := by
  have val : ∀ {v : Value} {m : Sem Value}, m.run P w = .ok v w → (do pure (Next.value (← m)) : Sem Next).run P w = .ok (.value v) w := fun {v m} hm => by
    rw [Sem.run_bind, hm]; rfl
  obtain ⟨dst, op, type, pos, after, guard⟩ := o
  unfold exPure at h
  simp only at h
  split at h
  · rename_i x
    simp only [Option.map_eq_some_iff, Prod.mk.injEq] at h
    obtain ⟨s', hx, rfl, rfl⟩ := h
    exact ⟨_, hs.ev hx, rfl⟩
  · rename_i x
    simp only [Option.map_eq_some_iff, Prod.mk.injEq] at h
    obtain ⟨s', hx, rfl, rfl⟩ := h
    exact ⟨_, hs.ev hx, rfl⟩
  · rename_i c x y
    split at h
    · rename_i cb xb yb hc hx hy
      simp only [Option.some.injEq, Prod.mk.injEq] at h
      obtain ⟨rfl, rfl⟩ := h
      have h1 := den_v (hs.ev hc)
      have h2 := den_v (hs.ev hx)
      have h3 := den_v (hs.ev hy)
      refine ⟨_, rfl, ?_⟩
      simp only [execOp, Sem.run_bind, h1, h2, h3]
      cases cb <;> rfl
    · rename_i cb x' y' _ hc hx hy
      simp only [Option.some.injEq, Prod.mk.injEq] at h
      obtain ⟨rfl, rfl⟩ := h
      have h1 := den_v (hs.ev hc)
      refine ⟨if cb then a.eval x else a.eval y, by cases cb; exact hs.ev hy; exact hs.ev hx, ?_⟩
      simp only [execOp, Sem.run_bind, h1]
      cases cb <;> rfl
    · cases h
  · rename_i t ad
    split at h
    · rename_i i k off hl hx
      split at h
      · rename_i u cs hk
        obtain ⟨b, hb, hv⟩ := den_p (hs.ev hx)
        obtain ⟨v, hd, hr⟩ := load_ok hf hs.mem hl hk hb h
        refine ⟨v, hd, ?_⟩
        simp only [execOp, hv]
        exact val hr
      · cases h
    · cases h
  · rename_i x
    split at h
    · rename_i k o hx
      simp only [Option.some.injEq, Prod.mk.injEq] at h
      obtain ⟨rfl, rfl⟩ := h
      obtain ⟨b, hb, hv⟩ := den_p (hs.ev hx)
      refine ⟨_, hs.ev hx, ?_⟩
      simp only [execOp, hv]
      rfl
    · rename_i p hx
      simp only [Option.some.injEq, Prod.mk.injEq] at h
      obtain ⟨rfl, rfl⟩ := h
      refine ⟨_, rfl, ?_⟩
      simp only [execOp, den_v (hs.ev hx)]
      rfl
    · cases h
  · rename_i op t x y yt
    split at h
    · rename_i sx sy hx hy
      obtain ⟨v, hd, hr⟩ := exBin_ok hf h ho (hs.ev hx) (hs.ev hy) x y
      exact ⟨v, hd, val (hr w)⟩
    · cases h
  · rename_i t x
    split at h
    · rename_i b hx
      simp only [Option.some.injEq, Prod.mk.injEq] at h
      obtain ⟨rfl, rfl⟩ := h
      refine ⟨_, rfl, ?_⟩
      simp only [execOp, den_v (hs.ev hx), Op.unary]
      rfl
    · cases h
  · rename_i src dst' x
    split at h
    · rename_i i k kn n hl hk hx
      simp only [Option.some.injEq, Prod.mk.injEq] at h
      obtain ⟨rfl, rfl⟩ := h
      obtain ⟨j, hj, hjk⟩ := Option.bind_eq_some_iff.1 hk
      have f1 := (Tab.fits_look hf hl).2.1
      have f2 := (Tab.fits_look hf hj).2.2.2.2.1
      rw [hjk] at f2
      obtain ⟨d1, hd1⟩ : ∃ d, P.underlying src = some d := by
        unfold aggOf at f1
        cases hu : P.underlying src with
        | none => rw [hu] at f1; cases f1
        | some d => exact ⟨d, rfl⟩
      have hd2 : P.underlying dst' = some (.int k) := by
        unfold kindOf at f2
        split at f2
        · rename_i k' hu; cases f2; exact hu
        · cases f2
      refine ⟨_, rfl, val ?_⟩
      rw [den_v (hs.ev hx)]
      unfold convert
      rw [Sem.run_bind, und w hd1]
      show (do _ : Sem Value).run P w = _
      rw [Sem.run_bind, und w hd2]
      rfl
    · cases h
  · rename_i t x f
    split at h
    · rename_i off sz k o hl hx
      split at h
      · cases h
      · rename_i hsz
        simp only [Option.some.injEq, Prod.mk.injEq] at h
        obtain ⟨rfl, rfl⟩ := h
        obtain ⟨i, hi, hfl⟩ := Option.bind_eq_some_iff.1 hl
        obtain ⟨b, hb, hv⟩ := den_p (hs.ev hx)
        refine ⟨.pointer (some ⟨b, addOff o off, none⟩), by simp [SV.den, SL.den, hb], ?_⟩
        simp only [execOp, hv]
        exact val (fieldAt_run (Tab.fits_look hf hi) hfl hsz b o w)
    · cases h
  · rename_i x i
    split at h
    · rename_i vs hx
      simp only [Option.map_eq_some_iff, Prod.mk.injEq] at h
      obtain ⟨v, hv, rfl, rfl⟩ := h
      refine ⟨v, rfl, ?_⟩
      simp only [execOp, den_v (hs.ev hx)]
      exact val (by simp [Instr.extract, hv, pure])
    · cases h
  · rename_i t x ix
    split at h
    · rename_i n sz k o kk i hl hx hi
      split at h
      · cases h
      · rename_i hsz
        simp only [Option.some.injEq, Prod.mk.injEq] at h
        obtain ⟨rfl, rfl⟩ := h
        obtain ⟨j, hj, hfl⟩ := Option.bind_eq_some_iff.1 hl
        obtain ⟨b, hb, hv⟩ := den_p (hs.ev hx)
        refine ⟨.pointer (some ⟨b, addOff o (i.toNat * sz), none⟩), by simp [SV.den, SL.den, hb], ?_⟩
        simp only [execOp, hv, den_v (hs.ev hi)]
        exact val (indexAt_run (Tab.fits_look hf hj) hfl kk i ho.1 ho.2.1 hsz b o w)
    · cases h
  · rename_i t x ix
    split at h
    · rename_i i cs kk q hl hx hix
      split at h
      · rename_i n sz hel
        split at h
        · cases h
        · rename_i hsz
          obtain ⟨C, hC, hv⟩ : ∃ C, dens ids cs = some C ∧ a.eval x = .agg C.toArray := by
            have := hs.ev hx
            simp only [SV.den, Option.map_eq_some_iff] at this
            obtain ⟨C, hC, e⟩ := this
            exact ⟨C, hC, e.symm⟩
          have hlen := dens_length hC
          split at h
          · rename_i hg
            split at h
            · rename_i hle
              simp only [Option.some.injEq, Prod.mk.injEq] at h
              obtain ⟨rfl, rfl⟩ := h
              refine ⟨.agg ((C.drop (q.toNat * sz)).take sz).toArray, by simp [SV.den, dens_take _ (dens_drop _ hC)], ?_⟩
              simp only [execOp, hv, den_v (hs.ev hix)]
              exact val (index_run (Tab.fits_look hf hl) hel hsz kk q ho.1 ho.2.1 hg rfl w)
            · cases h
          · rename_i hg
            simp only [Option.map_eq_some_iff, Prod.mk.injEq] at h
            obtain ⟨y, hy, rfl, rfl⟩ := h
            obtain ⟨v, hv1, hv2⟩ := dens_get hC hy
            refine ⟨v, hv2, ?_⟩
            simp only [execOp, hv, den_v (hs.ev hix)]
            refine val (index_run (Tab.fits_look hf hl) hel hsz kk q ho.1 ho.2.1 hg hv1 w)
          · cases h
      · cases h
    · cases h
  · rename_i args argTypes
    have nx : (execOp a.eval ⟨dst, .call ⟨.builtin .len, args, argTypes⟩, type, pos, after, guard⟩).run P w = (builtin .len argTypes type (args.map fun | .const _ => true | _ => false) (args.map a.eval)).run P w := by
      simp only [execOp, resolve, invoke]
      rfl
    have un : ∀ {i : TI} {t : Nat}, argTypes[0]? = some t → look T t = some i → ∀ x, args.map a.eval = #[x] → ∀ n : Nat, (match P.underlying t, x with | some .string, .string s => n = s.size | some (.slice _), .slice _ m _ => n = m | _, _ => False) →
        (builtin .len argTypes type (args.map fun | .const _ => true | _ => false) (args.map a.eval)).run P w = .ok (.value (.int .i64 n)) w := by
      intro i t ht hl x hx n hn
      refine val (v := .int .i64 n) ?_
      unfold Builtin.len_
      rw [ht, hx]
      cases hu : P.underlying t with
      | none => rw [hu] at hn; exact hn.elim
      | some d =>
        rw [hu] at hn
        show Sem.run P (underlying t >>= _) w = _
        rw [Sem.run_bind, und w hu]
        cases d <;> cases x <;> first | exact hn.elim | (simp only at hn; subst hn; rfl)
    split at h
    · rename_i i aa n cc hl hx
      split at h
      · rename_i hc
        simp only [Option.some.injEq, Prod.mk.injEq] at h
        obtain ⟨rfl, rfl⟩ := h
        obtain ⟨t, ht, hlt⟩ := Option.bind_eq_some_iff.1 hl
        have hmap := evs_map hs hx
        obtain ⟨e, he⟩ := cls3 (hc ▸ (Tab.fits_look hf hlt).2.2.2.2.2.1)
        have hx1 : args.map a.eval = #[.slice aa n cc] := by
          apply Array.ext'
          simp only [Array.toList_map]
          have := congrArg (List.filterMap id) hmap
          simpa [SV.den, SL.den, List.filterMap_map, Function.comp_def] using this.symm
        refine ⟨_, rfl, ?_⟩
        rw [nx]
        exact un ht hlt _ hx1 n (by rw [he])
      · cases h
    · rename_i i str hl hx
      split at h
      · rename_i hc
        simp only [Option.some.injEq, Prod.mk.injEq] at h
        obtain ⟨rfl, rfl⟩ := h
        obtain ⟨t, ht, hlt⟩ := Option.bind_eq_some_iff.1 hl
        have hmap := evs_map hs hx
        have he := cls2 (hc ▸ (Tab.fits_look hf hlt).2.2.2.2.2.1)
        have hx1 : args.map a.eval = #[.string str] := by
          apply Array.ext'
          simp only [Array.toList_map]
          have := congrArg (List.filterMap id) hmap
          simpa [SV.den, SL.den, List.filterMap_map, Function.comp_def] using this.symm
        refine ⟨_, rfl, ?_⟩
        rw [nx]
        exact un ht hlt _ hx1 _ (by rw [he])
      · cases h
    · cases h
  · rename_i args argTypes
    have nx : (execOp a.eval ⟨dst, .call ⟨.builtin .min, args, argTypes⟩, type, pos, after, guard⟩).run P w = (builtin .min argTypes type (args.map fun | .const _ => true | _ => false) (args.map a.eval)).run P w := by
      simp only [execOp, resolve, invoke]
      rfl
    obtain ⟨l, hl, h⟩ := Option.bind_eq_some_iff.1 h
    simp only [Option.map_eq_some_iff, Prod.mk.injEq] at h
    obtain ⟨s', hs', rfl, rfl⟩ := h
    have hmap := congrArg (List.filterMap id) (evs_map hs hl)
    have hmap : l.filterMap (SV.den ids) = args.toList.map a.eval := by simpa [List.filterMap_map, Function.comp_def] using hmap
    unfold exMin at hs'
    split at hs' <;> simp only [Option.some.injEq, reduceCtorEq] at hs' <;> subst hs' <;> refine ⟨_, rfl, ?_⟩ <;> rw [nx] <;> refine val ?_ <;>
      first | (simp [Builtin.min_, ← hmap, SV.den, SL.den, Builtin.min2, mn2, pure, Sem.run_bind]; done) | (simp [Builtin.min_, ← hmap, SV.den, SL.den, Builtin.min2, mn2, pure, Sem.run_bind]; rfl)
  · rename_i args argTypes
    have nx : (execOp a.eval ⟨dst, .call ⟨.builtin .max, args, argTypes⟩, type, pos, after, guard⟩).run P w = (builtin .max argTypes type (args.map fun | .const _ => true | _ => false) (args.map a.eval)).run P w := by
      simp only [execOp, resolve, invoke]
      rfl
    obtain ⟨l, hl, h⟩ := Option.bind_eq_some_iff.1 h
    simp only [Option.map_eq_some_iff, Prod.mk.injEq] at h
    obtain ⟨s', hs', rfl, rfl⟩ := h
    have hmap := congrArg (List.filterMap id) (evs_map hs hl)
    have hmap : l.filterMap (SV.den ids) = args.toList.map a.eval := by simpa [List.filterMap_map, Function.comp_def] using hmap
    unfold exMax at hs'
    split at hs' <;> simp only [Option.some.injEq, reduceCtorEq] at hs' <;> subst hs' <;> refine ⟨_, rfl, ?_⟩ <;> rw [nx] <;> refine val ?_ <;>
      first | (simp [Builtin.max_, ← hmap, SV.den, SL.den, Builtin.max2, mx2, pure, Sem.run_bind]; done) | (simp [Builtin.max_, ← hmap, SV.den, SL.den, Builtin.max2, mx2, pure, Sem.run_bind]; rfl)
  · cases h
end
end Go.Rx
