/- conn.Way: the inner loop, all of its rounds. -/
import Derived.Test.YtopjfkcoknenfaaDoorCn8
namespace Go.Proofs.YtopjfkcoknenfaaDoor.Cn
open Go Go.Rx Go.RowKit Go.Proofs.YtopjfkcoknenfaaDoor
set_option linter.unusedVariables false
set_option maxRecDepth 100000
theorem bare_push (q : List (Int × Value × List Int)) (x : Int) (v : Value) (l : List Int) : bare (q ++ [(x, v, l)]) = bare q ++ [(x, l)] := by simp [bare]
/-- From an event on to the last. -/
theorem inn_loop {t : Nat} {W : World} (hl : Laid t W) {ids : List Nat} (b s : Int) (h0 : 0 ≤ s) (h1 : s < 11) (B : Option Addr) (m d : Nat) (way : List Int) (hm : m = way.length) (hmb : m < 1000) {s' : Int} {R : Ending → World → Prop} :
    ∀ (k : Nat) (ev : Int) (A : Option Addr) (n c : Nat) (sn : Nat → Bool) (q : List (Int × Value × List Int)) (a : Act) (w : World), 0 ≤ ev → ev + k = 10 → n = q.length → n + k < 1000 →
      Sat (fun _ => False) W ids { n := 80, m := innS b (.slice A n c) ev } (innM sn s B m d) a w → St W w ids (.slice A n c) q → (s', Value.slice B m d, way) ∈ q →
      (∀ a' w' A' n' c' q' sn', n' = q'.length → n' ≤ n + k → bare q' = (inner s way k ev (bare q) sn).1 → sn' = (inner s way k ev (bare q) sn).2 → (s', Value.slice B m d, way) ∈ q' → (∃ r, q' = q ++ r) →
        Sat (fun _ => False) W ids { n := 80, m := innS b (.slice A' n' c') 10 } (innM sn' s B m d) a' w' → St W w' ids (.slice A' n' c') q' → Goes Tryd.prog 12 (.code innL :: .inLoop innL :: innK) a' w' R) →
      Goes Tryd.prog 12 (.code innL :: .inLoop innL :: innK) a w R
  | 0, ev, A, n, c, sn, q, a, w, e0, e1, hn, hb, hs, st, hx, fin => by
    obtain rfl : ev = 10 := by omega
    exact fin a w A n c q sn hn (by omega) rfl rfl hx ⟨[], by simp⟩ hs st
  | k + 1, ev, A, n, c, sn, q, a, w, e0, e1, hn, hb, hs, st, hx, fin => by
    have hw : IntKind.i64.wrap (ev + 1) = ev + 1 := by rw [IntKind.wrap_i64]; omega
    refine (inn_all h0 h1 e0 (by omega)).go hl b A n c sn B m d hn hm (by omega) hmb hs st hx ?_ ?_
    · intro hz hc a' w' A2 c2 B2 d2 hs' st'
      rw [hw] at hs'
      refine Goes.one (fun b _ _ cs => step_inLoop) ?_
      refine inn_loop hl b s h0 h1 B m d way hm hmb k (ev + 1) A2 (n + 1) c2 _ _ a' w' (by omega) (by omega) (by simp; omega) (by omega) hs' st' (List.mem_append_left _ hx) ?_
      intro a3 w3 A3 n3 c3 q3 sn3 g1 g2 g3 g4 g5 g6 g7 g8
      obtain ⟨r, rfl⟩ := g6
      refine fin a3 w3 A3 n3 c3 _ sn3 g1 (by omega) ?_ ?_ g5 ⟨_, List.append_assoc ..⟩ g7 g8
      · rw [g3, bare_push, inner, if_pos ⟨hz, hc⟩]
      · rw [g4, bare_push, inner, if_pos ⟨hz, hc⟩]
    · intro hno a' w' hs' st'
      rw [hw] at hs'
      refine Goes.one (fun b _ _ cs => step_inLoop) ?_
      refine inn_loop hl b s h0 h1 B m d way hm hmb k (ev + 1) A n c sn q a' w' (by omega) (by omega) hn (by omega) hs' st' hx ?_
      intro a3 w3 A3 n3 c3 q3 sn3 g1 g2 g3 g4 g5 g6 g7 g8
      refine fin a3 w3 A3 n3 c3 q3 sn3 g1 (by omega) ?_ ?_ g5 g6 g7 g8
      · rw [g3, inner, if_neg hno]
      · rw [g4, inner, if_neg hno]
end Go.Proofs.YtopjfkcoknenfaaDoor.Cn
