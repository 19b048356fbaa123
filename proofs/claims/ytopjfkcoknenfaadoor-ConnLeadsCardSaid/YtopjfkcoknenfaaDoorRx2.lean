/- RX, part 2: operations that leave the world alone, on symbolic values. -/
import Derived.Test.YtopjfkcoknenfaaDoorRx1
namespace Go.Rx
open Go

def All : List Prop → Prop
  | [] => True
  | p :: r => p ∧ All r
theorem All.append {l m : List Prop} (h : All (l ++ m)) : All l ∧ All m := by
  induction l with
  | nil => exact ⟨trivial, h⟩
  | cons p r ih => exact ⟨⟨h.1, (ih h.2).1⟩, (ih h.2).2⟩

def vInt (k : IntKind) (n : Int) : SV := .l (.v (.int k n))
def vBool (b : Bool) : SV := .l (.v (.bool b))

/-- Arithmetic on two integers of one kind. -/
def exInt (op : BinOp) (k : IntKind) (a b : Int) : Option (SV × List Prop) :=
  match op with
  | .add => some (vInt k (k.wrap (a + b)), [])
  | .sub => some (vInt k (k.wrap (a - b)), [])
  | .mul => some (vInt k (k.wrap (a * b)), [])
  | .quo => some (vInt k (k.wrap (a.tdiv b)), [b ≠ 0])
  | .rem => some (vInt k (a.tmod b), [b ≠ 0])
  | .and => some (vInt k (k.wrap (BitVec.ofInt k.bits a &&& BitVec.ofInt k.bits b).toNat), [])
  | .or => some (vInt k (k.wrap (BitVec.ofInt k.bits a ||| BitVec.ofInt k.bits b).toNat), [])
  | .xor => some (vInt k (k.wrap (BitVec.ofInt k.bits a ^^^ BitVec.ofInt k.bits b).toNat), [])
  | .andNot => some (vInt k (k.wrap (BitVec.ofInt k.bits a &&& ~~~ BitVec.ofInt k.bits b).toNat), [])
  | .eql => some (vBool (a == b), [])
  | .neq => some (vBool (a != b), [])
  | .lss => some (vBool (decide (a < b)), [])
  | .leq => some (vBool (decide (a ≤ b)), [])
  | .gtr => some (vBool (decide (a > b)), [])
  | .geq => some (vBool (decide (a ≥ b)), [])
  | _ => none
theorem exInt_ok {P : Program} {op : BinOp} {t : TypeId} {k : IntKind} {a b : Int} {s : SV} {obs : List Prop} (h : exInt op k a b = some (s, obs)) (ho : All obs) (ids : List Nat) :
    ∃ v, s.den ids = some v ∧ ∀ w, (binOp op t (.int k a) (.int k b)).run P w = .ok v w := by
  cases op <;> simp only [exInt, Option.some.injEq, Prod.mk.injEq, reduceCtorEq] at h
  all_goals
    obtain ⟨rfl, rfl⟩ := h
    refine ⟨_, rfl, fun w => ?_⟩
    try have hb := ho.1
    simp [binOp, Op.intArith, Op.intDiv, Op.intBits, Op.intCmp, pure, *]

def exCmp (T : Tab) (op : BinOp) (t : TypeId) (x y : SV) : Option (SV × List Prop) :=
  match op, (look T t).map (·.cls), x, y with
  | .eql, some 1, .l (.v (.bool a)), .l (.v (.bool b)) => some (vBool (a == b), [])
  | .neq, some 1, .l (.v (.bool a)), .l (.v (.bool b)) => some (vBool (!(a == b)), [])
  | .eql, some 2, .l (.v (.string a)), .l (.v (.string b)) => some (vBool (a.toList == b.toList), [])
  | .neq, some 2, .l (.v (.string a)), .l (.v (.string b)) => some (vBool (!(a.toList == b.toList)), [])
  | .eql, some 4, .l (.v (.pointer a)), .l (.v (.pointer none)) => some (vBool a.isNone, [])
  | .neq, some 4, .l (.v (.pointer a)), .l (.v (.pointer none)) => some (vBool (!a.isNone), [])
  | .eql, some 4, .l (.p _ _), .l (.v (.pointer none)) => some (vBool false, [])
  | .neq, some 4, .l (.p _ _), .l (.v (.pointer none)) => some (vBool true, [])
  | _, _, _, _ => none

def exBin (T : Tab) (op : BinOp) (t : TypeId) (x y : SV) : Option (SV × List Prop) :=
  match x, y with
  | .l (.v (.int k a)), .l (.v (.int k' b)) => if k = k' then exInt op k a b else none
  | x, y => exCmp T op t x y

theorem eqGuard_skip {P : Program} {op : BinOp} {t : TypeId} {x y : Operand} {a b : Value} (h : ∀ c, a ≠ .agg c) (h' : a ≠ .nilIface) (w : World) : (eqGuard op t x y a b).run P w = .ok () w := by
  unfold eqGuard
  cases op <;> simp [pure] <;> (split <;> simp_all [Sem.run])

theorem cls1 {P : Program} {t : TypeId} (h : clsOf P t = 1) : P.underlying t = some .bool := by
  unfold clsOf at h; split at h <;> first | assumption | simp at h | (split at h <;> simp at h)
theorem cls3 {P : Program} {t : TypeId} (h : clsOf P t = 3) : ∃ e, P.underlying t = some (.slice e) := by
  unfold clsOf at h; split at h <;> first | exact ⟨_, by assumption⟩ | simp at h | (split at h <;> simp at h)
theorem cls2 {P : Program} {t : TypeId} (h : clsOf P t = 2) : P.underlying t = some .string := by
  unfold clsOf at h; split at h <;> first | assumption | simp at h | (split at h <;> simp at h)
theorem cls4 {P : Program} {t : TypeId} (h : clsOf P t = 4) : ∃ e, P.underlying t = some (.pointer e) := by
  unfold clsOf at h; split at h <;> first | exact ⟨_, by assumption⟩ | simp at h | (split at h <;> simp at h)
section
variable {P : Program} {t : TypeId} (w : World)
theorem und {d : TypeDesc} (h : P.underlying t = some d) : (underlying t).run P w = .ok d w := by
  simp [underlying, program, Sem.run, h, bind, Sem.bind, pure]
theorem eq_bool (h : P.underlying t = some .bool) (a b : Bool) : (Op.equal t (.bool a) (.bool b)).run P w = .ok (a == b) w := by
  show (Op.equalIn (9999 + 1) t (.bool a) (.bool b)).run P w = _
  generalize 9999 = d
  rw [Op.equalIn, Sem.run_bind, und w h]
  rfl
theorem eq_nil {e : TypeId} (h : P.underlying t = some (.pointer e)) (a : Option Addr) : (Op.equal t (.pointer a) (.pointer none)).run P w = .ok a.isNone w := by
  show (Op.equalIn (9999 + 1) t (.pointer a) (.pointer none)).run P w = _
  generalize 9999 = d
  rw [Op.equalIn, Sem.run_bind, und w h]
  cases a <;> rfl
theorem eq_bin (x y : Value) (r : Bool) (hx : ∀ k n, x ≠ .int k n) (hf : ∀ k n, x ≠ .float k n) (hc : ∀ k n m, x ≠ .complex k n m) (hs : ∀ s, x ≠ .string s) (h : (Op.equal t x y).run P w = .ok r w) :
    (binOp .eql t x y).run P w = .ok (.bool r) w ∧ (binOp .neq t x y).run P w = .ok (.bool (!r)) w := by
  cases x <;> simp_all [binOp, Sem.run_bind, pure]
end
theorem exCmp_ok {P : Program} {T : Tab} (hf : T.fits P) {op : BinOp} {t : TypeId} {x y s : SV} {obs : List Prop} (h : exCmp T op t x y = some (s, obs)) {ids : List Nat} {vx vy : Value}
    (hx : x.den ids = some vx) (hy : y.den ids = some vy) :
    (∀ c, vx ≠ .agg c) ∧ vx ≠ .nilIface ∧ ∃ v, s.den ids = some v ∧ ∀ w, (binOp op t vx vy).run P w = .ok v w := by
  unfold exCmp at h
  cases hl : look T t with
  | none => rw [hl] at h; cases op <;> simp at h
  | some i =>
    have hcls := (Tab.fits_look hf hl).2.2.2.2.2.1
    rw [hl] at h
    simp only [Option.map_some] at h
    split at h <;> simp only [Option.some.injEq, Prod.mk.injEq, reduceCtorEq] at h
    all_goals
      rename_i hc
      rw [Option.some.inj hc] at hcls
      obtain ⟨rfl, rfl⟩ := h
      simp only [SV.den, SL.den, Option.some.injEq, Option.map_eq_some_iff] at hx hy
      try obtain ⟨b0, hb0, rfl⟩ := hx
      try subst hx
      subst hy
      refine ⟨by simp, by simp, _, rfl, fun w => ?_⟩
      first
        | exact (eq_bin w _ _ _ (by simp) (by simp) (by simp) (by simp) (eq_bool w (cls1 hcls) _ _)).1
        | exact (eq_bin w _ _ _ (by simp) (by simp) (by simp) (by simp) (eq_bool w (cls1 hcls) _ _)).2
        | exact (eq_bin w _ _ _ (by simp) (by simp) (by simp) (by simp) (eq_nil w (cls4 hcls).choose_spec _)).1
        | exact (eq_bin w _ _ _ (by simp) (by simp) (by simp) (by simp) (eq_nil w (cls4 hcls).choose_spec _)).2
        | (simp [binOp, Op.stringOp, pure]; done)
theorem exBin_ok {P : Program} {T : Tab} (hf : T.fits P) {op : BinOp} {t : TypeId} {x y s : SV} {obs : List Prop} (h : exBin T op t x y = some (s, obs)) (ho : All obs) {ids : List Nat} {vx vy : Value}
    (hx : x.den ids = some vx) (hy : y.den ids = some vy) (X Y : Operand) :
    ∃ v, s.den ids = some v ∧ ∀ w, (do eqGuard op t X Y vx vy; binOp op t vx vy : Sem Value).run P w = .ok v w := by
  unfold exBin at h
  split at h
  · split at h
    · rename_i hk
      subst hk
      simp only [SV.den, SL.den, Option.some.injEq] at hx hy
      subst hx; subst hy
      obtain ⟨v, hv, hr⟩ := exInt_ok (P := P) (t := t) h ho ids
      exact ⟨v, hv, fun w => by rw [Sem.run_bind, eqGuard_skip (by simp) (by simp)]; exact hr w⟩
    · cases h
  · obtain ⟨h1, h2, v, hv, hr⟩ := exCmp_ok hf h hx hy
    exact ⟨v, hv, fun w => by rw [Sem.run_bind, eqGuard_skip h1 h2]; exact hr w⟩
end Go.Rx
