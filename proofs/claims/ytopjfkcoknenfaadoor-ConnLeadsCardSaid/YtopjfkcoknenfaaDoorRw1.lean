/- RW, part 1: slices that are read, cut and grown: what a slice holds, wherever in its block it begins (plain laws over whatever program). -/
import Derived.Maps.AppendAt
import Derived.Laws.CopyRow
import Derived.Below
namespace Go.Rx
open Go

/-- The slice v of elements of type e (sz cells each) holds the cells L; its block is a row of that type, with room for its capacity. -/
def Row (w : World) (e sz : Nat) (v : Value) (n : Nat) (L : List Value) : Prop :=
  L.length = n * sz ∧ ((v = .slice none 0 0 ∧ n = 0) ∨ ∃ g o cap cur, v = .slice (some ⟨g, o, none⟩) n cap ∧ w.heap[g]? = some (Obj.cells cur e (0, 0)) ∧ n ≤ cap ∧ cap ≤ maxLen ∧ o + cap * sz ≤ cur.size ∧ (cur.toList.drop o).take (n * sz) = L)
section
variable {w w' : World} {e sz n : Nat} {v : Value} {L : List Value}
theorem Row.nil (w : World) (e sz : Nat) : Row w e sz (.slice none 0 0) 0 [] := ⟨by simp, .inl ⟨rfl, rfl⟩⟩
theorem Row.keep (h : Row w e sz v n L) (hk : ∀ g, v.ownBlock = some g → g < w.heap.size → w'.heap[g]? = w.heap[g]?) : Row w' e sz v n L := by
  refine ⟨h.1, ?_⟩
  rcases h.2 with h | ⟨g, o, cap, cur, rfl, hg, r⟩
  · exact .inl h
  · refine .inr ⟨g, o, cap, cur, rfl, (hk g rfl ?_).trans hg, r⟩
    rcases Nat.lt_or_ge g w.heap.size with h | h
    · exact h
    · rw [Array.getElem?_eq_none h] at hg; cases hg
theorem Row.form (h : Row w e sz v n L) : ∃ A c, v = .slice A n c ∧ n ≤ c ∧ c ≤ maxLen := by
  rcases h.2 with ⟨rfl, rfl⟩ | ⟨g, o, cap, cur, rfl, _, h1, h2, _⟩
  · exact ⟨_, _, rfl, Nat.le_refl _, Nat.zero_le _⟩
  · exact ⟨_, _, rfl, h1, h2⟩
theorem Row.lt (h : Row w e sz v n L) {g : Nat} (hg : v.ownBlock = some g) : g < w.heap.size := by
  rcases h.2 with ⟨rfl, rfl⟩ | ⟨g', o, cap, cur, rfl, hh, _⟩
  · cases hg
  · obtain rfl : g' = g := by simpa [Value.ownBlock] using hg
    rcases Nat.lt_or_ge g' w.heap.size with h | h
    · exact h
    · rw [Array.getElem?_eq_none h] at hh; cases hh
theorem add_at (g o j : Nat) : (⟨g, o, none⟩ : Addr).add j = ⟨g, o + j, none⟩ := by unfold Addr.add; split <;> simp_all
theorem Row.cell {A : Addr} {n' c : Nat} (h : Row w e sz (.slice (some A) n' c) n L) {j : Nat} {u : Value} (hj : L[j]? = some u) : w.cell? (A.add j) = some u := by
  rcases h.2 with ⟨h, _⟩ | ⟨g, o, cap, cur, hv, hg, h1, h2, h3, h4⟩
  · cases h
  · cases hv
    rw [add_at]
    rw [← h4] at hj
    simp only [World.cell?, hg]
    have hlt : j < n * sz := by
      rcases Nat.lt_or_ge j (n * sz) with h | h
      · exact h
      · rw [List.getElem?_eq_none (by simp; omega)] at hj; cases hj
    rw [List.getElem?_take_of_lt hlt, List.getElem?_drop] at hj
    simpa using hj
theorem Row.nilE {n' : Nat} (h : Row w e sz (.slice none n' 0) n L) : n = 0 ∧ L = [] := by
  rcases h.2 with ⟨_, rfl⟩ | ⟨g, o, cap, cur, hv, _⟩
  · exact ⟨rfl, List.eq_nil_of_length_eq_zero (by simpa using h.1)⟩
  · cases hv
end
section
variable {P : Program} {w : World}
theorem run_append_roomAt (t ty e : TypeId) (i : TypeInfo) (ht : P.underlying t = some (.slice e)) (hi : P.info? e = some i) (g o sLen sCap : Nat) (cur : Array Value) (hg : w.heap[g]? = some (Obj.cells cur e (0, 0)))
    (a : Addr) (m c : Nat) (news : List Value) (hl : news.length = m * i.size) (hnews : ∀ j u, news[j]? = some u → w.cell? (a.add j) = some u) (h1 : ∀ u ∈ news, u.oneCell' = true)
    (hroom : sLen + m ≤ sCap) (hfit : o + sLen * i.size + news.length ≤ cur.size) :
    (Builtin.append_ #[t, t] ty #[.slice (some ⟨g, o, none⟩) sLen sCap, .slice (some a) m c]).run P w =
      .ok (.slice (some ⟨g, o, none⟩) (sLen + m) sCap) (w.setRow g (cur.toList.take (o + sLen * i.size) ++ news ++ cur.toList.drop (o + sLen * i.size + news.length)).toArray) := by
  have hf := run_firstCells_some (P := P) w i.size m a m c news hl hnews
  have hst := run_storeCells_at P g (o + sLen * i.size) e news 0 cur w hg (by simpa using hfit) h1
  simp only [Nat.add_zero] at hst
  simp [Builtin.append_, run_underlying ht, sizeOf, typeInfo, hi, Builtin.lenOf, hroom, hf, add_at, hst]
/-- Growth by append: what is appended lies in cells from an address on. -/
theorem Row.append {e sz bytes n m : Nat} {t ty : TypeId} {i : TypeInfo} {z v : Value} {L news : List Value} (ht : P.underlying t = some (.slice e)) (hi : P.info? e = some i) (hz : i.zero = some z)
    (hsize : i.size = sz) (hby : i.bytes = bytes) (hzs : z.cells.size = sz) (h : Row w e sz v n L) (a : Addr) (c : Nat) (hl : news.length = m * sz) (hnews : ∀ j u, news[j]? = some u → w.cell? (a.add j) = some u) (h1 : ∀ u ∈ news, u.oneCell' = true)
    (h63 : n + m ≤ maxLen) (hbytes : (n + m) * bytes ≤ 140737488355328) :
    ∃ v' w', (Builtin.append_ #[t, t] ty #[v, .slice (some a) m c]).run P w = .ok v' w' ∧ Row w' e sz v' (n + m) (L ++ news) ∧ w.grownBy w' v.ownBlock ∧ (v'.ownBlock = v.ownBlock ∨ v'.ownBlock = some w.heap.size) := by
  subst hsize
  subst hby
  have hsmall : n + m ≤ 9223372036854775807 := by simp only [maxLen] at h63; omega
  have hlen : (L ++ news).length = (n + m) * i.size := by rw [List.length_append, h.1, hl, Nat.add_mul]
  have grown : ∀ (old : Nat), old < n + m → ∀ (row : Option Nat),
      Row (w.drew.alloc (.cells (L.toArray ++ news.toArray ++ Builtin.zeroCells z.cells (grownCap w (n + m) old e - (n + m))) e)) e i.size
        (.slice (some ⟨w.heap.size, 0, none⟩) (n + m) (grownCap w (n + m) old e)) (n + m) (L ++ news) ∧
      w.grownBy (w.drew.alloc (.cells (L.toArray ++ news.toArray ++ Builtin.zeroCells z.cells (grownCap w (n + m) old e - (n + m))) e)) row := by
    intro old ho row
    have hge := grownCap_ge w (n + m) old e
    have hcm : grownCap w (n + m) old e ≤ maxLen := grownCap_le_maxLen w (n + m) old e h63
    refine ⟨⟨hlen, .inr ⟨w.heap.size, 0, _, _, rfl, heap_alloc_new w.drew _, hge, hcm, ?_, ?_⟩⟩, ⟨rfl, rfl, rfl, by simp, fun k hk _ => heap_alloc_old w.drew _ k hk⟩⟩
    · simp only [Array.size_append, List.size_toArray, size_zeroCells, hzs, h.1, hl, ← Nat.add_mul, Nat.zero_add]
      refine Nat.le_of_eq ?_
      congr 1
      omega
    · simp only [Array.toList_append, List.append_assoc, List.drop_zero]
      rw [← List.append_assoc, ← hlen]
      exact List.take_left
  rcases h.2 with ⟨rfl, rfl⟩ | ⟨g, o, cap, cur, rfl, hg, hnc, hcm, hcs, htake⟩
  · have hx : L = [] := List.eq_nil_of_length_eq_zero (by simpa using h.1)
    subst hx
    by_cases hm : m = 0
    · subst hm
      have hn : news = [] := List.eq_nil_of_length_eq_zero (by simpa using hl)
      subst hn
      refine ⟨.slice none 0 0, w, ?_, Row.nil w e i.size, ⟨rfl, rfl, rfl, Nat.le_refl _, fun _ _ _ => rfl⟩, .inl rfl⟩
      simp [Builtin.append_, run_underlying ht, sizeOf, typeInfo, hi, Builtin.lenOf, Builtin.firstCells, loadCells, loadCellsFrom]
    · have hr := run_append_nil (P := P) w t ty e i z ht hi hz a m c news hl hnews (by omega) (by omega) (by have hb := hbytes; simp only [Nat.zero_add] at hb; omega)
      have hgr := grown 0 (by omega) (Value.ownBlock (.slice none 0 0))
      simp only [Nat.zero_add, List.nil_append, Array.empty_append] at hgr ⊢
      exact ⟨_, _, hr, hgr.1, hgr.2, .inr rfl⟩
  · by_cases hroom : n + m ≤ cap
    · have hle : (n + m) * i.size ≤ cap * i.size := Nat.mul_le_mul_right _ hroom
      rw [Nat.add_mul] at hle
      have hfit : o + n * i.size + news.length ≤ cur.size := by rw [hl]; omega
      have hr := run_append_roomAt (P := P) (w := w) t ty e i ht hi g o n cap cur hg a m c news hl hnews h1 hroom hfit
      refine ⟨_, _, hr, ⟨hlen, .inr ⟨g, o, cap, _, rfl, setRow_heap w g cur _ e _ hg, hroom, hcm, ?_, ?_⟩⟩, ⟨rfl, rfl, rfl, by simp, fun k _ hk => setRow_other w g k _ (fun e => hk (by simp [Value.ownBlock, e]))⟩, .inl rfl⟩
      · simp only [List.size_toArray, List.length_append, List.length_take, List.length_drop, Array.length_toList]
        omega
      · have e1 : cur.toList.take (o + n * i.size) = cur.toList.take o ++ L := by rw [List.take_add, htake]
        have e2 : (cur.toList.take o).length = o := by simp; omega
        simp only [List.toList_toArray, e1, List.append_assoc]
        rw [List.drop_append_of_le_length (by omega), List.drop_of_length_le (by omega), List.nil_append, ← List.append_assoc, ← hlen]
        exact List.take_left
    · have holds : ∀ j u, L[j]? = some u → w.cell? ((⟨g, o, none⟩ : Addr).add j) = some u := fun j u hj => h.cell hj
      have hr := run_append_grow (P := P) w t ty e i z ht hi hz ⟨g, o, none⟩ n cap L h.1 holds a m c news hl hnews (by omega) (by omega) (growslice_fits (by omega) hbytes)
      have hgr := grown cap (by omega) (Value.ownBlock (.slice (some ⟨g, o, none⟩) n cap))
      exact ⟨_, _, hr, hgr.1, hgr.2, .inr rfl⟩
/-- A cut of a slice. -/
theorem Row.cut {e sz n : Nat} {v : Value} {L : List Value} (h : Row w e sz v n L) {t : TypeId} (ht : P.underlying t = some (.slice e)) (hs : ∀ w, (sizeOf e).run P w = .ok sz w) {A : Option Addr} {n' c : Nat} (hv : v = .slice A n' c) (lo hi : Nat) (h0 : lo ≤ hi) (h1 : hi ≤ n) :
    Row w e sz (.slice (if c = lo then A else A.map (·.add (lo * sz))) (hi - lo) (c - lo)) (hi - lo) ((L.drop (lo * sz)).take ((hi - lo) * sz)) := by
  have hle : hi * sz ≤ n * sz := Nat.mul_le_mul_right _ h1
  have hsub : (hi - lo) * sz = hi * sz - lo * sz := Nat.sub_mul ..
  have hlo : lo * sz ≤ hi * sz := Nat.mul_le_mul_right _ h0
  refine ⟨by rw [List.length_take, List.length_drop, h.1]; omega, ?_⟩
  rcases h.2 with ⟨rfl, rfl⟩ | ⟨g, o, cap, cur, rfl, hg, hnc, hcm, hcs, htake⟩
  · cases hv
    left
    obtain rfl : lo = 0 := by omega
    obtain rfl : hi = 0 := by omega
    exact ⟨by simp, rfl⟩
  · cases hv
    right
    by_cases hc : c = lo
    · rw [if_pos hc]
      obtain rfl : hi = lo := by omega
      refine ⟨g, o, c - hi, cur, rfl, hg, by omega, by omega, ?_, by simp⟩
      rw [show c - hi = 0 from by omega]
      omega
    · rw [if_neg hc]
      refine ⟨g, o + lo * sz, c - lo, cur, by simp [add_at], hg, by omega, by omega, ?_, ?_⟩
      · rw [Nat.sub_mul]
        have : lo * sz ≤ c * sz := Nat.mul_le_mul_right _ (by omega)
        omega
      · rw [← htake, List.drop_take, List.drop_drop, List.take_take]
        congr 1
        omega
/-- A cut of a slice, its capacity cut too. -/
theorem Row.cut3 {w : World} {e sz n : Nat} {v : Value} {L : List Value} (h : Row w e sz v n L) {A : Option Addr} {n' c : Nat} (hv : v = .slice A n' c) (lo hi mx : Nat) (h0 : lo ≤ hi) (h1 : hi ≤ n) (h2 : hi ≤ mx) (h3 : mx ≤ c) :
    Row w e sz (.slice (if mx = lo then A else A.map (·.add (lo * sz))) (hi - lo) (mx - lo)) (hi - lo) ((L.drop (lo * sz)).take ((hi - lo) * sz)) := by
  have hle : hi * sz ≤ n * sz := Nat.mul_le_mul_right _ h1
  have hsub : (hi - lo) * sz = hi * sz - lo * sz := Nat.sub_mul ..
  have hlo : lo * sz ≤ hi * sz := Nat.mul_le_mul_right _ h0
  refine ⟨by rw [List.length_take, List.length_drop, h.1]; omega, ?_⟩
  rcases h.2 with ⟨rfl, rfl⟩ | ⟨g, o, cap, cur, rfl, hg, hnc, hcm, hcs, htake⟩
  · cases hv
    left
    obtain rfl : lo = 0 := by omega
    obtain rfl : hi = 0 := by omega
    obtain rfl : mx = 0 := by omega
    exact ⟨by simp, rfl⟩
  · cases hv
    right
    have hmc : mx * sz ≤ c * sz := Nat.mul_le_mul_right _ h3
    by_cases hc : mx = lo
    · rw [if_pos hc]
      obtain rfl : hi = lo := by omega
      refine ⟨g, o, mx - hi, cur, rfl, hg, by omega, by omega, ?_, by simp⟩
      rw [show mx - hi = 0 from by omega]
      omega
    · rw [if_neg hc]
      refine ⟨g, o + lo * sz, mx - lo, cur, by simp [add_at], hg, by omega, by omega, ?_, ?_⟩
      · rw [Nat.sub_mul]
        have : lo * sz ≤ mx * sz := Nat.mul_le_mul_right _ (by omega)
        omega
      · rw [← htake, List.drop_take, List.drop_drop, List.take_take]
        congr 1
        omega
theorem Row.ownCut {A : Option Addr} {n c n' c' k : Nat} {p : Prop} [Decidable p] : (Value.slice (if p then A else A.map (·.add k)) n' c').ownBlock = (Value.slice A n c).ownBlock := by
  cases A with
  | none => split <;> rfl
  | some a =>
    split
    · rfl
    · simp only [Value.ownBlock, Option.map_some]
      congr 1
      unfold Addr.add
      split <;> rfl
end
/-- Growth by append where the capacity is used up: the new row is a new block. -/
theorem Row.appendNew {P : Program} {w : World} {e sz bytes n m : Nat} {t ty : TypeId} {i : TypeInfo} {z : Value} {A : Option Addr} {L news : List Value} (ht : P.underlying t = some (.slice e)) (hi : P.info? e = some i) (hz : i.zero = some z)
    (hsize : i.size = sz) (hby : i.bytes = bytes) (hzs : z.cells.size = sz) (h : Row w e sz (.slice A n n) n L) (a : Addr) (c : Nat) (hl : news.length = m * sz) (hnews : ∀ j u, news[j]? = some u → w.cell? (a.add j) = some u)
    (h0 : 0 < m) (h63 : n + m ≤ maxLen) (hbytes : (n + m) * bytes ≤ 140737488355328) :
    ∃ c' w', (Builtin.append_ #[t, t] ty #[.slice A n n, .slice (some a) m c]).run P w = .ok (.slice (some ⟨w.heap.size, 0, none⟩) (n + m) c') w' ∧ Row w' e sz (.slice (some ⟨w.heap.size, 0, none⟩) (n + m) c') (n + m) (L ++ news) ∧ w.grownBy w' none ∧ w.heap.size < w'.heap.size := by
  subst hsize
  subst hby
  have hsmall : n + m ≤ 9223372036854775807 := by simp only [maxLen] at h63; omega
  have hlen : (L ++ news).length = (n + m) * i.size := by rw [List.length_append, h.1, hl, Nat.add_mul]
  have grown : ∀ (old : Nat), old < n + m →
      Row (w.drew.alloc (.cells (L.toArray ++ news.toArray ++ Builtin.zeroCells z.cells (grownCap w (n + m) old e - (n + m))) e)) e i.size
        (.slice (some ⟨w.heap.size, 0, none⟩) (n + m) (grownCap w (n + m) old e)) (n + m) (L ++ news) ∧
      w.grownBy (w.drew.alloc (.cells (L.toArray ++ news.toArray ++ Builtin.zeroCells z.cells (grownCap w (n + m) old e - (n + m))) e)) none := by
    intro old ho
    have hge := grownCap_ge w (n + m) old e
    have hcm : grownCap w (n + m) old e ≤ maxLen := grownCap_le_maxLen w (n + m) old e h63
    refine ⟨⟨hlen, .inr ⟨w.heap.size, 0, _, _, rfl, heap_alloc_new w.drew _, hge, hcm, ?_, ?_⟩⟩, ⟨rfl, rfl, rfl, by simp, fun k hk _ => heap_alloc_old w.drew _ k hk⟩⟩
    · simp only [Array.size_append, List.size_toArray, size_zeroCells, hzs, h.1, hl, ← Nat.add_mul, Nat.zero_add]
      refine Nat.le_of_eq ?_
      congr 1
      omega
    · simp only [Array.toList_append, List.append_assoc, List.drop_zero]
      rw [← List.append_assoc, ← hlen]
      exact List.take_left
  rcases h.2 with ⟨hv, rfl⟩ | ⟨g, o, cap, cur, hv, hg, hnc, hcm, hcs, htake⟩
  · cases hv
    have hx : L = [] := List.eq_nil_of_length_eq_zero (by simpa using h.1)
    subst hx
    have hr := run_append_nil (P := P) w t ty e i z ht hi hz a m c news hl hnews (by omega) (by omega) (by have hb := hbytes; simp only [Nat.zero_add] at hb; omega)
    have hgr := grown 0 (by omega)
    simp only [Nat.zero_add, List.nil_append, Array.empty_append] at hgr ⊢
    exact ⟨_, _, hr, hgr.1, hgr.2, by simp⟩
  · cases hv
    have holds : ∀ j u, L[j]? = some u → w.cell? ((⟨g, o, none⟩ : Addr).add j) = some u := fun j u hj => h.cell hj
    have hr := run_append_grow (P := P) w t ty e i z ht hi hz ⟨g, o, none⟩ n n L h.1 holds a m c news hl hnews (by omega) (by omega) (growslice_fits (by omega) hbytes)
    have hgr := grown n (by omega)
    exact ⟨_, _, hr, hgr.1, hgr.2, by simp⟩
end Go.Rx
