/- RX, part 1: symbolic values, symbolic memory, and what single operations do to them (plain definitions and their laws over whatever program). -/
import Derived.WalkKit
import Derived.Deep.Quiet
import Derived.OrdersHeld
import Derived.KernelRfl
namespace Go.Rx
open Go

/-- A cell's value: a value that names no known block, or a pointer into known block k. -/
inductive SL where
  | v (x : Value)
  | p (k o : Nat)
/-- A slot's value: one cell, or the cells of a struct or array. -/
inductive SV where
  | l (x : SL)
  | g (cs : List SL)

def SL.den (ids : List Nat) : SL → Option Value
  | .v x => some x
  | .p k o => (ids[k]?).map fun b => .pointer (some ⟨b, o, none⟩)
def dens (ids : List Nat) : List SL → Option (List Value)
  | [] => some []
  | x :: r => (x.den ids).bind fun a => (dens ids r).map fun l => a :: l
def SV.den (ids : List Nat) : SV → Option Value
  | .l x => x.den ids
  | .g cs => (dens ids cs).map fun l => .agg l.toArray

theorem SL.den_mono {ids ids' : List Nat} (h : ids <+: ids') {s : SL} {v : Value} (hs : s.den ids = some v) : s.den ids' = some v := by
  cases s with
  | v x => exact hs
  | p k o =>
    simp only [SL.den, Option.map_eq_some_iff] at hs ⊢
    obtain ⟨b, hb, rfl⟩ := hs
    obtain ⟨r, rfl⟩ := h
    have hk : k < ids.length := by
      rcases Nat.lt_or_ge k ids.length with h | h
      · exact h
      · rw [List.getElem?_eq_none h] at hb; cases hb
    exact ⟨b, by rw [List.getElem?_append_left hk]; exact hb, rfl⟩
theorem dens_mono {ids ids' : List Nat} (h : ids <+: ids') : ∀ {cs : List SL} {l : List Value}, dens ids cs = some l → dens ids' cs = some l
  | [], l, hs => hs
  | x :: r, l, hs => by
    simp only [dens, Option.bind_eq_some_iff, Option.map_eq_some_iff] at hs ⊢
    obtain ⟨a, ha, l', hl', rfl⟩ := hs
    exact ⟨a, SL.den_mono h ha, l', dens_mono h hl', rfl⟩
theorem SV.den_mono {ids ids' : List Nat} (h : ids <+: ids') {s : SV} {v : Value} (hs : s.den ids = some v) : s.den ids' = some v := by
  cases s with
  | l x => exact SL.den_mono h hs
  | g cs =>
    simp only [SV.den, Option.map_eq_some_iff] at hs ⊢
    obtain ⟨l, hl, rfl⟩ := hs
    exact ⟨l, dens_mono h hl, rfl⟩
theorem dens_length {ids : List Nat} : ∀ {cs : List SL} {l : List Value}, dens ids cs = some l → l.length = cs.length
  | [], l, hs => by cases hs; rfl
  | x :: r, l, hs => by
    simp only [dens, Option.bind_eq_some_iff, Option.map_eq_some_iff] at hs
    obtain ⟨a, ha, l', hl', rfl⟩ := hs
    simp [dens_length hl']
theorem dens_get {ids : List Nat} : ∀ {cs : List SL} {l : List Value}, dens ids cs = some l → ∀ {i : Nat} {s : SL}, cs[i]? = some s → ∃ v, l[i]? = some v ∧ s.den ids = some v
  | [], l, hs, i, s, h => by simp at h
  | x :: r, l, hs, i, s, h => by
    simp only [dens, Option.bind_eq_some_iff, Option.map_eq_some_iff] at hs
    obtain ⟨a, ha, l', hl', rfl⟩ := hs
    cases i with
    | zero => simp at h; subst h; exact ⟨a, rfl, ha⟩
    | succ i => simpa using dens_get hl' (by simpa using h)
theorem dens_append {ids : List Nat} : ∀ {cs ds : List SL} {l m : List Value}, dens ids cs = some l → dens ids ds = some m → dens ids (cs ++ ds) = some (l ++ m)
  | [], ds, l, m, hs, hd => by cases hs; exact hd
  | x :: r, ds, l, m, hs, hd => by
    simp only [dens, Option.bind_eq_some_iff, Option.map_eq_some_iff, List.cons_append] at hs ⊢
    obtain ⟨a, ha, l', hl', rfl⟩ := hs
    exact ⟨a, ha, l' ++ m, dens_append hl' hd, rfl⟩
theorem dens_take {ids : List Nat} : ∀ {cs : List SL} {l : List Value} (n : Nat), dens ids cs = some l → dens ids (cs.take n) = some (l.take n)
  | [], l, n, hs => by cases hs; simp [dens]
  | x :: r, l, 0, hs => by simp [dens]
  | x :: r, l, n + 1, hs => by
    simp only [dens, Option.bind_eq_some_iff, Option.map_eq_some_iff, List.take_succ_cons] at hs ⊢
    obtain ⟨a, ha, l', hl', rfl⟩ := hs
    exact ⟨a, ha, l'.take n, dens_take n hl', rfl⟩
theorem dens_drop {ids : List Nat} : ∀ {cs : List SL} {l : List Value} (n : Nat), dens ids cs = some l → dens ids (cs.drop n) = some (l.drop n)
  | [], l, n, hs => by cases hs; simp [dens]
  | x :: r, l, 0, hs => by simpa using hs
  | x :: r, l, n + 1, hs => by
    simp only [dens, Option.bind_eq_some_iff, Option.map_eq_some_iff] at hs
    obtain ⟨a, ha, l', hl', rfl⟩ := hs
    simpa using dens_drop n hl'
theorem dens_vs (ids : List Nat) : ∀ (l : List Value), dens ids (l.map SL.v) = some l
  | [] => rfl
  | x :: r => by simp [dens, SL.den, dens_vs ids r]
theorem dens_vs_inj {ids : List Nat} {l m : List Value} (h : dens ids (l.map SL.v) = some m) : m = l := by
  rw [dens_vs] at h; exact (Option.some.inj h).symm

/-- Known memory: block k of the list is a block of this type with these cells. -/
abbrev Mem := List (Nat × List SL)
structure MemOk (Z : Nat → Prop) (w0 : World) (ids : List Nat) (mem : Mem) (w : World) : Prop where
  nodup : ids.Nodup
  len : ids.length = mem.length
  own : ∀ b ∈ ids, Z b ∨ w0.heap.size ≤ b
  blk : ∀ {k : Nat} {t : Nat} {cs : List SL}, mem[k]? = some (t, cs) → ∃ (b : Nat) (C : List Value), ids[k]? = some b ∧ dens ids cs = some C ∧ w.heap[b]? = some (Obj.cells C.toArray t (0, 0))
  size : w0.heap.size ≤ w.heap.size
  kept : ∀ b, b < w0.heap.size → ¬ Z b → w.heap[b]? = w0.heap[b]?
  outer : w.os = w0.os ∧ w.tape = w0.tape ∧ w.output = w0.output

/-- Slots: how many there are, and what is known of some, the latest first. -/
structure Sl where
  n : Nat
  m : List (Nat × SV)
  gl : List (Nat × Nat) := []      -- package-level variables whose blocks are known: the variable, the block's place in the memory
def alook : List (Nat × SV) → Nat → Option SV
  | [], _ => none
  | (u, s) :: r, t => if u = t then some s else alook r t
def glook : List (Nat × Nat) → Nat → Option Nat
  | [], _ => none
  | (u, k) :: r, g => if u = g then some k else glook r g
structure Slots (ids : List Nat) (sl : Sl) (a : Act) : Prop where
  defers : a.defers = []
  sz : a.tmps.size = sl.n
  slot : ∀ {i : Nat} {s : SV}, alook sl.m i = some s → ∃ v : Value, a.tmps[i]? = some v ∧ s.den ids = some v
  glob : ∀ {g k : Nat}, glook sl.gl g = some k → ids[k]? = some g
structure Sat (Z : Nat → Prop) (w0 : World) (ids : List Nat) (sl : Sl) (mem : Mem) (a : Act) (w : World) : Prop where
  slots : Slots ids sl a
  mem : MemOk Z w0 ids mem w

def ev (sl : Sl) : Operand → Option SV
  | .tmp t => alook sl.m t
  | .const v => some (.l (.v v))
  | .global g => match glook sl.gl g with | some k => some (.l (.p k 0)) | none => some (.l (.v (.pointer (some ⟨g, 0, none⟩))))
  | .func f => some (.l (.v (.func (.func f) #[] #[])))

theorem Sat.ev {Z : Nat → Prop} {w0 : World} {ids : List Nat} {sl : Sl} {mem : Mem} {a : Act} {w : World} (h : Sat Z w0 ids sl mem a w) {x : Operand} {s : SV} (he : ev sl x = some s) : s.den ids = some (a.eval x) := by
  cases x with
  | tmp t =>
    obtain ⟨v, hv, hd⟩ := h.slots.slot he
    rw [hd]
    simp [Act.eval, Array.getD_eq_getD_getElem?, hv]
  | const v => simp only [Rx.ev, Option.some.injEq] at he; subst he; rfl
  | global g =>
    simp only [Rx.ev] at he
    split at he
    · rename_i k hk
      simp only [Option.some.injEq] at he; subst he
      simp [SV.den, SL.den, h.slots.glob hk, Act.eval]
    · simp only [Option.some.injEq] at he; subst he; rfl
  | func f => simp only [Rx.ev, Option.some.injEq] at he; subst he; rfl

/-! ### Types -/
structure TI where
  size : Nat
  zero : Value
  agg : Bool
  flds : List (Nat × Nat) := []      -- of a struct: each field's offset and size
  elem : Option (Nat × Nat) := none   -- of an array: its length, its elements' size
  kind : Option IntKind := none
  cls : Nat := 0
  eagg : Option Bool := none      -- of an array: are its elements structs or arrays?
def fieldsOf (P : Program) (t : TypeId) : List (Nat × Nat) :=
  match P.underlying t with
  | some (.struct fs) => fs.toList.map fun f => (f.offset, P.cellsOf f.type)
  | _ => []
def elemOf' (P : Program) (t : TypeId) : Option (Nat × Nat) :=
  match P.underlying t with
  | some (.array n e) => some (n, P.cellsOf e)
  | _ => none
def kindOf (P : Program) (t : TypeId) : Option IntKind :=
  match P.underlying t with
  | some (.int k) => some k
  | _ => none
def aggOf (P : Program) (t : TypeId) : Option Bool :=
  match P.underlying t with
  | some (.struct _) | some (.array _ _) => some true
  | some _ => some false
  | none => none
def eaggOf (P : Program) (t : TypeId) : Option Bool :=
  match P.underlying t with
  | some (.array _ e) => aggOf P e
  | _ => none
theorem isAgg_run {P : Program} {t : TypeId} {b : Bool} (h : aggOf P t = some b) (w : World) : (isAgg t).run P w = .ok b w := by
  unfold aggOf at h
  simp only [Go.isAgg, underlying, program, bind, Sem.bind]
  cases hu : P.underlying t with
  | none => rw [hu] at h; cases h
  | some d =>
    rw [hu] at h
    cases d <;> simp_all [pure, Sem.run, Sem.bind]
/-- 1 a bool, 2 a string, 3 a slice, 4 a pointer (to what is not empty), 5 an integer, 6 a struct or array, 0 any other. -/
def clsOf (P : Program) (t : TypeId) : Nat :=
  match P.underlying t with
  | some .bool => 1
  | some .string => 2
  | some (.slice _) => 3
  | some (.pointer e) => if P.cellsOf e = 0 then 0 else 4
  | some (.int _) => 5
  | some (.struct _) | some (.array _ _) => 6
  | _ => 0
def TI.fits (P : Program) (t : TypeId) (i : TI) : Prop :=
  (P.info? t).map (fun x => (x.size, x.zero)) = some (i.size, some i.zero) ∧ aggOf P t = some i.agg ∧ fieldsOf P t = i.flds ∧ elemOf' P t = i.elem ∧ kindOf P t = i.kind ∧ clsOf P t = i.cls ∧ eaggOf P t = i.eagg
abbrev Tab := List (Nat × TI)
def look : Tab → Nat → Option TI
  | [], _ => none
  | (u, i) :: r, t => if u = t then some i else look r t
def Tab.fits (P : Program) : Tab → Prop
  | [] => True
  | (u, i) :: r => i.fits P u ∧ Tab.fits P r
theorem Tab.fits_look {P : Program} : ∀ {T : Tab}, T.fits P → ∀ {t : Nat} {i : TI}, look T t = some i → i.fits P t
  | [], _, t, i, h => by cases h
  | (u, j) :: r, hf, t, i, h => by
    simp only [look] at h
    split at h
    · rename_i e; cases h; rw [← e]; exact hf.1
    · exact Tab.fits_look hf.2 h

section
variable {P : Program} {t : TypeId} {i : TI}
theorem TI.fits.size (h : i.fits P t) (w : World) : (sizeOf t).run P w = .ok i.size w := by
  obtain ⟨x, hx, he⟩ := Option.map_eq_some_iff.1 h.1
  simp only [Prod.mk.injEq] at he
  rw [← he.1]
  simp [sizeOf, typeInfo, program, Sem.run, hx, pure, bind, Sem.bind]
theorem TI.fits.zero_run (h : i.fits P t) (w : World) : (zeroValue t).run P w = .ok i.zero w := by
  obtain ⟨x, hx, he⟩ := Option.map_eq_some_iff.1 h.1
  simp only [Prod.mk.injEq] at he
  simp [zeroValue, typeInfo, program, Sem.run, hx, pure, bind, Sem.bind, he.2]
theorem TI.fits.cells (h : i.fits P t) : P.cellsOf t = i.size := by
  obtain ⟨x, hx, he⟩ := Option.map_eq_some_iff.1 h.1
  simp only [Prod.mk.injEq] at he
  simp [Program.cellsOf, hx, he.1]
theorem TI.fits.isAgg (h : i.fits P t) (w : World) : (isAgg t).run P w = .ok i.agg w := by
  have := h.2.1
  unfold aggOf at this
  simp only [Go.isAgg, underlying, program, bind, Sem.bind]
  cases hu : P.underlying t with
  | none => rw [hu] at this; cases this
  | some d =>
    rw [hu] at this
    cases d <;> simp_all [pure, Sem.run, Sem.bind]
end
end Go.Rx
