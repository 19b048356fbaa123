/- conn.Way: the pure search, and the walk of one push onto the queue. -/
import Derived.Test.YtopjfkcoknenfaaDoorCn4
import Derived.Test.YtopjfkcoknenfaaDoorRx10
namespace Go.Proofs.YtopjfkcoknenfaaDoor.Cn
open Go Go.Rx Go.RowKit Go.Proofs.YtopjfkcoknenfaaDoor
set_option linter.unusedVariables false
set_option maxRecDepth 100000
/-! ### The search on lists -/
def inner (s : Int) (way : List Int) : Nat → Int → List (Int × List Int) → (Nat → Bool) → List (Int × List Int) × (Nat → Bool)
  | 0, _, q, sn => (q, sn)
  | k + 1, ev, q, sn =>
    if (stepI s ev).2.2 = 0 ∧ sn (stepI s ev).1.toNat = false then inner s way k (ev + 1) (q ++ [((stepI s ev).1, way ++ [ev])]) (fun i => if i = (stepI s ev).1.toNat then true else sn i)
    else inner s way k (ev + 1) q sn
def bfs (to : Int) : Nat → List (Int × List Int) → (Nat → Bool) → Option (List Int × Int)
  | 0, _, _ => none
  | _ + 1, [], _ => some ([], 4)
  | k + 1, (s, way) :: r, sn => if s = to then some (way, 0) else bfs to k (inner s way 10 0 ((s, way) :: r) sn).1.tail (inner s way 10 0 ((s, way) :: r) sn).2
def goes (s : Int) : List Int → Int × Int
  | [] => (s, 0)
  | e :: r => if (stepI s e).2.2 = 0 then goes (stepI s e).1 r else ((stepI s e).1, (stepI s e).2.2)
def wayOk (a b : Int) : Bool := match bfs b 12 [(a, [])] (fun i => decide (i = a.toNat)) with
  | some (l, e) => e == 0 && (goes a l == (b, 0)) && decide (l.length < 12) && l.all (fun e => decide (0 ≤ e ∧ e < 10))
  | none => false
theorem way_all : ∀ a : Fin 11, ∀ b : Fin 11, wayOk (a.1 : Int) (b.1 : Int) = true := by decide +kernel
/-! ### The walk: the states that it comes to -/
noncomputable def body12 : Code := Tryd.f12.body.getD .skip
noncomputable def sp3 : Rx.Spec := fun f args =>
  match f, args with
  | 10, [.int .i64 s, .int .i64 e] => some (stepV (stepI s e))
  | 29, [.int .i64 s] => some (.int .i64 (checkI s))
  | _, _ => none
noncomputable def wA (a b : Int) : Cfg := (run tab2 sp3 300 [false, false] { todo := [.code body12], sl := { n := Tryd.f12.ntmps, m := argSl 0 [vInt .i64 a, vInt .i64 b], gl := [] }, mem := [] }).2
noncomputable def wB (a b : Int) (g : Nat) : Cfg := answered (wA a b) (.l (.v (.slice (some ⟨g, 0, none⟩) 1 1))) (wA a b).mem
noncomputable def wC (a b : Int) (g : Nat) : Cfg := (run tab2 sp3 300 [] (wB a b g)).2
noncomputable def wayL : Code := loopOf (wC 0 0 0).todo
noncomputable def wayK : List Item := (wC 0 0 0).todo.tail
def snC (sn : Nat → Bool) : List SL := [.v (.bool (sn 0)), .v (.bool (sn 1)), .v (.bool (sn 2)), .v (.bool (sn 3)), .v (.bool (sn 4)), .v (.bool (sn 5)), .v (.bool (sn 6)), .v (.bool (sn 7)), .v (.bool (sn 8)), .v (.bool (sn 9)), .v (.bool (sn 10))]
def wayS (b : Int) (q : Value) : List (Nat × SV) := [(1, vInt .i64 b), (4, .l (.v (.slice none 0 0))), (5, vInt .i64 0), (6, .l (.p 0 0)), (7, .l (.v q))]
noncomputable def wD (b : Int) (A : Option Addr) (n c : Nat) (sn : Nat → Bool) : Cfg := { todo := .code wayL :: .inLoop wayL :: wayK, sl := { n := 80, m := wayS b (.slice A n c) }, mem := [(73, snC sn)] }
noncomputable def wE (b : Int) (g o : Nat) (n c : Nat) (sn : Nat → Bool) : Cfg := (run tab2 sp3 300 [true] (wD b (some ⟨g, o, none⟩) n c sn)).2
noncomputable def wF (b : Int) (g o : Nat) (n c : Nat) (sn : Nat → Bool) : Cfg := answered (wE b g o n c sn) (.l (.v (.pointer (some ⟨g, o, none⟩)))) (wE b g o n c sn).mem
noncomputable def wG (b : Int) (g o : Nat) (n c : Nat) (sn : Nat → Bool) (s : Int) (B : Option Addr) (m d : Nat) : Cfg := answered (wF b g o n c sn) (.g [.v (.int .i64 s), .v (.slice B m d)]) (wF b g o n c sn).mem
noncomputable def wI (b : Int) (g o : Nat) (n c : Nat) (sn : Nat → Bool) (s : Int) (B : Option Addr) (m d : Nat) : Cfg := (run tab2 sp3 300 [false] (wG b g o n c sn s B m d)).2
noncomputable def innL : Code := loopOf (wI 0 0 0 0 0 (fun _ => false) 0 none 0 0).todo
noncomputable def innK : List Item := (wI 0 0 0 0 0 (fun _ => false) 0 none 0 0).todo.tail
def innS (b : Int) (q : Value) (ev : Int) : List (Nat × SV) := [(1, vInt .i64 b), (4, .l (.v (.slice none 0 0))), (5, vInt .i64 0), (6, .l (.p 0 0)), (7, .l (.v q)), (8, .l (.p 1 0)), (9, vInt .i64 ev)]
def innM (sn : Nat → Bool) (s : Int) (B : Option Addr) (m d : Nat) : Mem := [(73, snC sn), (75, [.v (.int .i64 s), .v (.slice B m d)])]
noncomputable def iA (b : Int) (A : Option Addr) (n c : Nat) (ev s : Int) (sn : Nat → Bool) (B : Option Addr) (m d : Nat) : Cfg := { todo := .code innL :: .inLoop innL :: innK, sl := { n := 80, m := innS b (.slice A n c) ev }, mem := innM sn s B m d }
/-- Where a new place is pushed. -/
noncomputable def pTodo : List Item := (run tab2 sp3 300 [true, true, true] (iA 0 none 0 0 2 3 (fun _ => false) none 0 0)).2.todo
def pS (b : Int) (A : Option Addr) (n c : Nat) (ev nx : Int) (B : Option Addr) (m d : Nat) : List (Nat × SV) := [(1, vInt .i64 b), (4, .l (.v (.slice none 0 0))), (5, vInt .i64 0), (6, .l (.p 0 0)), (8, .l (.p 1 0)), (9, vInt .i64 ev), (63, .l (.v (.slice A n c))), (64, vInt .i64 nx), (66, .l (.v (.slice B m d))), (69, vInt .i64 m), (72, vInt .i64 m)]
noncomputable def pA (b : Int) (A : Option Addr) (n c : Nat) (ev nx s : Int) (sn : Nat → Bool) (B : Option Addr) (m d : Nat) : Cfg := { todo := pTodo, sl := { n := 80, m := pS b A n c ev nx B m d }, mem := innM sn s B m d }
/-- The way, cut to its own length (the slot 73). -/
noncomputable def pB (b : Int) (A : Option Addr) (n c : Nat) (ev nx s : Int) (sn : Nat → Bool) (B : Option Addr) (m d : Nat) (B' : Option Addr) : Cfg := (run tab2 sp3 300 [] (answered (pA b A n c ev nx s sn B m d) (.l (.v (.slice B' m m))) (innM sn s B m d))).2
noncomputable def pC (b : Int) (A : Option Addr) (n c : Nat) (ev nx s : Int) (sn : Nat → Bool) (B : Option Addr) (m d : Nat) (B' : Option Addr) (g1 : Nat) : Cfg := answered (pB b A n c ev nx s sn B m d B') (.l (.v (.slice (some ⟨g1, 0, none⟩) 1 1))) (pB b A n c ev nx s sn B m d B').mem
noncomputable def pD (b : Int) (A : Option Addr) (n c : Nat) (ev nx s : Int) (sn : Nat → Bool) (B : Option Addr) (m d : Nat) (B' : Option Addr) (g1 : Nat) (B2 : Option Addr) (d2 : Nat) : Cfg := (run tab2 sp3 300 [] (answered (pC b A n c ev nx s sn B m d B' g1) (.l (.v (.slice B2 (m + 1) d2))) (pC b A n c ev nx s sn B m d B' g1).mem)).2
noncomputable def pE (b : Int) (A : Option Addr) (n c : Nat) (ev nx s : Int) (sn : Nat → Bool) (B : Option Addr) (m d : Nat) (B' : Option Addr) (g1 : Nat) (B2 : Option Addr) (d2 g2 : Nat) : Cfg := answered (pD b A n c ev nx s sn B m d B' g1 B2 d2) (.l (.v (.slice (some ⟨g2, 0, none⟩) 1 1))) (pD b A n c ev nx s sn B m d B' g1 B2 d2).mem
noncomputable def pF (b : Int) (A : Option Addr) (n c : Nat) (ev nx s : Int) (sn : Nat → Bool) (B : Option Addr) (m d : Nat) (B' : Option Addr) (g1 : Nat) (B2 : Option Addr) (d2 g2 : Nat) (A2 : Option Addr) (c2 : Nat) : Cfg := (run tab2 sp3 300 [] (answered (pE b A n c ev nx s sn B m d B' g1 B2 d2 g2) (.l (.v (.slice A2 (n + 1) c2))) (pE b A n c ev nx s sn B m d B' g1 B2 d2 g2).mem)).2
section
variable (b : Int) (A : Option Addr) (n c : Nat) (ev nx s : Int) (sn : Nat → Bool) (B : Option Addr) (m d : Nat) (B' : Option Addr) (g1 : Nat) (B2 : Option Addr) (d2 g2 : Nat) (A2 : Option Addr) (c2 : Nat)
theorem pA_op : opAt (pA b A n c ev nx s sn B m d) = some (some 73, .slice 22 (.tmp 66) none (some (.tmp 69)) (some (.tmp 72))) := by kernel_rfl
theorem pB_op : opAt (pB b A n c ev nx s sn B m d B') = some (some 75, .buildSlice 22 1 #[(0, .tmp 74)]) := by kernel_rfl
theorem pC_op : opAt (pC b A n c ev nx s sn B m d B' g1) = some (some 76, .call { callee := .builtin .append, args := #[.tmp 73, .tmp 75], argTypes := #[22, 22] }) := by kernel_rfl
theorem pD_op : opAt (pD b A n c ev nx s sn B m d B' g1 B2 d2) = some (some 78, .buildSlice 76 1 #[(0, .tmp 77)]) := by kernel_rfl
theorem pE_op : opAt (pE b A n c ev nx s sn B m d B' g1 B2 d2 g2) = some (some 79, .call { callee := .builtin .append, args := #[.tmp 63, .tmp 78], argTypes := #[76, 76] }) := by kernel_rfl
theorem pF_end : (pF b A n c ev nx s sn B m d B' g1 B2 d2 g2 A2 c2).todo = .inLoop innL :: innK := by kernel_rfl
theorem pF_mem : (pF b A n c ev nx s sn B m d B' g1 B2 d2 g2 A2 c2).mem = innM sn s B m d := by kernel_rfl
theorem pF_sub : subL (innS b (.slice A2 (n + 1) c2) (IntKind.i64.wrap (ev + 1))) (pF b A n c ev nx s sn B m d B' g1 B2 d2 g2 A2 c2).sl.m := by show _ = _; kernel_rfl
end
end Go.Proofs.YtopjfkcoknenfaaDoor.Cn
