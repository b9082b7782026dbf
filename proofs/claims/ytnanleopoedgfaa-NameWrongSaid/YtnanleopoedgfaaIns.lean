/-
  slices.Insert and slices.Delete at strings, on an own row; what they make. 
-/
import Derived.Test.YtnanleopoedgfaaOf
import Derived.Shelf.Spec.SlicesInsertGrow
set_option linter.unusedSimpArgs false
set_option linter.unusedVariables false
namespace Go.Proofs.Ytnanleopoedgfaa
open Go.RowKit Go.Lib

/-- The cells of a row, some of them put anew. -/
def over (cur : Array Value) : Nat → List Value → Array Value
  | _, [] => cur
  | o, v :: r => over (cur.setIfInBounds o v) (o + 1) r
theorem over_size : ∀ (vs : List Value) (o : Nat) (cur : Array Value), (over cur o vs).size = cur.size
  | [], _, _ => rfl
  | v :: r, o, cur => by rw [over, over_size r]; simp
theorem over_get : ∀ (vs : List Value) (o : Nat) (cur : Array Value) (j : Nat), (over cur o vs)[j]? = if o ≤ j ∧ j < o + vs.length ∧ j < cur.size then vs[j - o]? else cur[j]?
  | [], o, cur, j => by rw [over, if_neg]; simp; omega
  | v :: r, o, cur, j => by
    rw [over, over_get r (o + 1) _ j]
    simp only [Array.size_setIfInBounds, List.length_cons]
    by_cases h1 : j = o
    · subst h1
      rw [if_neg (by omega)]
      by_cases h2 : j < cur.size
      · rw [if_pos (by omega), Array.getElem?_setIfInBounds, if_pos rfl, if_pos h2]; simp
      · rw [if_neg (by omega), Array.getElem?_setIfInBounds, if_pos rfl, if_neg h2, Array.getElem?_eq_none (by omega)]
    · by_cases h2 : o + 1 ≤ j ∧ j < o + 1 + r.length ∧ j < cur.size
      · rw [if_pos h2, if_pos (by omega), show j - o = (j - (o + 1)) + 1 by omega, List.getElem?_cons_succ]
      · rw [if_neg h2, if_neg (by omega), Array.getElem?_setIfInBounds, if_neg (by omega)]
theorem heap_setCells_at {b : Nat} {e : TypeId} {fz : Nat × Nat} : ∀ (vs : List Value) (o : Nat) (w : World) (cur : Array Value), w.heap[b]? = some (.cells cur e fz) → (w.setCells b o vs).heap[b]? = some (.cells (over cur o vs) e fz)
  | [], _, _, _, h => h
  | v :: r, o, w, cur, h => by
    rw [World.setCells, over]
    refine heap_setCells_at r (o + 1) _ _ ?_
    simp [World.setCell, Array.getElem?_modify, h]
theorem below_setCells {B b : Nat} {a : World} (hb : B ≤ b) : ∀ (vs : List Value) (o : Nat) (w : World), Below B a w → Below B a (w.setCells b o vs)
  | [], _, _, h => h
  | v :: r, o, w, h => below_setCells hb r (o + 1) _ (h.setCell (by exact hb) v)

theorem ins_get (cs : List Value) (s : Value) (i n j : Nat) (hn : cs.length = n) (hi : i ≤ n) : (cs.take i ++ s :: cs.drop i)[j]? = if j < i then cs[j]? else if j = i then some s else cs[j - 1]? := by
  have hl : (cs.take i).length = i := by rw [List.length_take]; omega
  by_cases h1 : j < i
  · rw [if_pos h1, List.getElem?_append_left (by omega), List.getElem?_take, if_pos h1]
  · rw [if_neg h1, List.getElem?_append_right (by omega), hl]
    by_cases h2 : j = i
    · subst h2; rw [if_pos rfl, Nat.sub_self]; rfl
    · rw [if_neg h2, show j - i = (j - 1 - i) + 1 by omega, List.getElem?_cons_succ, List.getElem?_drop]
      congr 1; omega
/-- Moved up first, or put in first: the row is the same. -/
theorem ins_over (cur : Array Value) (cs : List Value) (s : Value) (i n : Nat) (hn : cs.length = n) (hi : i ≤ n) (hs : n + 1 ≤ cur.size) (hp : ∀ j, j < i → cur[j]? = cs[j]?) :
    (over (over cur (i + 1) (cs.drop i)) i [s]).toList.take (n + 1) = cs.take i ++ s :: cs.drop i ∧ (over (over cur i [s]) (i + 1) (cs.drop i)).toList.take (n + 1) = cs.take i ++ s :: cs.drop i := by
  refine ⟨List.ext_getElem? fun j => ?_, List.ext_getElem? fun j => ?_⟩
  all_goals
    rw [ins_get cs s i n j hn hi, List.getElem?_take, Array.getElem?_toList]
    simp only [over_get, over_size, List.length_cons, List.length_nil, List.length_drop, hn]
    by_cases h0 : j < n + 1
    · rw [if_pos h0]
      by_cases h1 : j < i
      · rw [if_neg (by omega), if_neg (by omega), if_pos h1, hp j h1]
      · by_cases h2 : j = i
        · subst h2
          rw [if_neg h1, if_pos rfl]
          first
            | (rw [if_pos (by omega)]; simp)
            | (rw [if_neg (by omega), if_pos (by omega)]; simp)
        · rw [if_neg h1, if_neg h2]
          first
            | (rw [if_neg (by omega), if_pos (by omega), List.getElem?_drop]; congr 1; omega)
            | (rw [if_pos (by omega), List.getElem?_drop]; congr 1; omega)
    · rw [if_neg h0, if_neg (by omega), if_neg (by omega), List.getElem?_eq_none (by omega)]
theorem row_cells {w : World} {base : Nat} {e : TypeId} {g n cap : Nat} {xs : List Value} (h : w.ownsRow base e 1 (.slice (some ⟨g, 0, none⟩) n cap) n xs) :
    ∃ cur, base ≤ g ∧ w.heap[g]? = some (.cells cur e (0, 0)) ∧ n ≤ cap ∧ cap ≤ maxLen ∧ cur.size = cap ∧ xs.length = n ∧ ∀ j, j < n → cur[j]? = xs[j]? := by
  rcases h.2 with ⟨h0, _⟩ | ⟨g', cap', cur, h1, hb, hg, hn, hm, hs, ht⟩
  · cases h0
  · cases h1
    refine ⟨cur, hb, hg, hn, hm, by omega, by have := h.1; omega, fun j hj => ?_⟩
    rw [← ht, List.getElem?_take, if_pos (by omega), Array.getElem?_toList]
theorem one_strV (xs : List Bs) : ∀ v ∈ xs.map strV, v.oneCell' = true := fun v hv => by
  obtain ⟨x, _, rfl⟩ := List.mem_map.1 hv
  rfl
theorem cell_of_heap {w : World} {b j : Nat} {cur : Array Value} {e : TypeId} {fz : Nat × Nat} (h : w.heap[b]? = some (.cells cur e fz)) : w.cell? ⟨b, j, none⟩ = cur[j]? := by simp [World.cell?, h]
theorem frozen_of_heap {w : World} {b j : Nat} {cur : Array Value} {e : TypeId} (h : w.heap[b]? = some (.cells cur e (0, 0))) : w.frozen? ⟨b, j, none⟩ = false := by simp [World.frozen?, h]

theorem take_row (A : List Value) (Z : Array Value) (n : Nat) (h : A.length = n) : (A.toArray ++ Z).toList.take (n * 1) = A := by
  rw [Array.toList_append, Nat.mul_one, List.take_append_of_le_length (by simp [h]), List.take_of_length_le (by simp [h])]

def insL (xs : List Bs) (i : Nat) (s : Bs) : List Bs := xs.take i ++ s :: xs.drop i
theorem insL_len (xs : List Bs) (i : Nat) (s : Bs) : (insL xs i s).length = xs.length + 1 := by simp [insL]; omega
theorem insL_map (xs : List Bs) (i : Nat) (s : Bs) : (insL xs i s).map strV = (xs.map strV).take i ++ strV s :: (xs.map strV).drop i := by simp [insL, List.map_take, List.map_drop]

set_option maxRecDepth 100000 in
set_option maxHeartbeats 2000000 in
/-- slices.Insert of one string, on an own row. -/
theorem Insert_any (v : Value) (n base i vb vc : Nat) (xs : List Bs) (s : Bs) (w : World) (hm : n ≤ 100000) (hi : i ≤ n) (hrow : w.ownsRow base 9 1 v n (xs.map strV)) (hv : 0 < n → v ≠ .slice none 0 0) (hx : Box w vb (strV s)) (hne : v.ownBlock ≠ some vb) (hbase : base ≤ w.heap.size) :
    Calls Try.prog 45 #[v, .int .i64 i, .slice (some ⟨vb, 0, none⟩) 1 vc] w fun e w' => ∃ v', e = .returned v' ∧ w'.ownsRow base 9 1 v' (n + 1) ((insL xs i s).map strV) ∧ Below base w w' := by
  have hxl : xs.length = n := by have := hrow.1; simpa using this
  have hml : (xs.map strV).length = n := by simpa using hxl
  obtain ⟨tb, hxb⟩ := hx
  have hx : Box w vb (strV s) := ⟨tb, hxb⟩
  have hsh : w.shape? vb = some (tb, 1) := by simp [World.shape?, hxb]
  have hfz : ∀ j, w.frozen? ⟨vb, j, none⟩ = false := fun j => frozen_of_heap hxb
  have hsv : ∀ j u, ([strV s] : List Value)[j]? = some u → w.cell? ⟨vb, 0 + j, none⟩ = some u := fun j u h => by
    cases j with
    | zero => simp only [List.getElem?_cons_zero, Option.some.injEq] at h; subst h; exact hx.cell
    | succ j => simp at h
  have h1v : ∀ u ∈ ([strV s] : List Value), u.oneCell' = true := fun u hu => by rw [List.mem_singleton.1 hu]; rfl
  rcases hrow.2 with ⟨rfl, h0⟩ | ⟨g, cap, cur0, rfl, _⟩
  · subst h0
    have hx0 : xs = [] := List.length_eq_zero_iff.1 hxl
    subst hx0
    obtain rfl : i = 0 := by omega
    refine (Any2.slices_Insert_string_end_grow Try.laysInsert none 0 0 vb 0 1 vc [] [strV s] w (by omega) (by omega) (by omega) (by omega) rfl rfl (fun _ => rfl) (fun a h => by cases h) hsv h1v).mono ?_
    rintro e w' ⟨rfl, rfl⟩
    have hG := grownCap_ge w (0 + 1) 0 (Try.laysInsert_ren.t 9)
    have hGm := grownCap_le_maxLen w (0 + 1) 0 (Try.laysInsert_ren.t 9) (by unfold maxLen; omega)
    obtain ⟨G, hGe⟩ : ∃ G, grownCap w (0 + 1) 0 (Try.laysInsert_ren.t 9) = G := ⟨_, rfl⟩
    rw [hGe] at hG hGm ⊢
    refine ⟨_, rfl, ⟨by simp [insL], .inr ⟨w.heap.size, G, _, rfl, hbase, World.alloc_heap_new w.drew _, hG, hGm, ?_, ?_⟩⟩, (Below.refl base w).drew.alloc hbase _⟩
    · simp [Builtin.zeroCells, Value.cells]; omega
    · simp [insL]
  · obtain ⟨cur, hb, hg, hn, hcm, hs, _, hget⟩ := row_cells hrow
    have hcs : ∀ j u, (xs.map strV)[j]? = some u → w.cell? ⟨g, 0 + j, none⟩ = some u := fun j u h => by
      have hj : j < n := by
        rcases Nat.lt_or_ge j n with h' | h'
        · exact h'
        · rw [List.getElem?_eq_none (by omega)] at h; cases h
      rw [Nat.zero_add, cell_of_heap hg, hget j hj, h]
    have hshg : w.shape? g = some (9, cap) := by simp [World.shape?, hg, hs]
    have hgl : g < w.heap.size := (Array.getElem?_eq_some_iff.1 hg).1
    by_cases hroom : n + 1 ≤ cap
    · by_cases hin : i = n
      · subst hin
        refine (Any2.slices_Insert_string_end_room Try.laysInsert g 0 i cap vb 0 1 vc [strV s] w (by omega) hroom (by unfold maxLen at hcm; omega) rfl (fun j hj => by rw [cell_of_heap hg, Array.getElem?_eq_getElem (by omega)]; rfl) (fun j hj => frozen_of_heap hg) hsv h1v).mono ?_
        rintro e w' ⟨rfl, rfl⟩
        have hnew := heap_setCells_at [strV s] (0 + i) w cur hg
        refine ⟨_, rfl, ⟨by rw [List.length_map, insL_len, hxl]; omega, .inr ⟨g, cap, _, rfl, hb, hnew, hroom, hcm, by rw [over_size, hs]; omega, ?_⟩⟩, below_setCells hb _ _ _ (Below.refl base w)⟩
        have := (ins_over cur (xs.map strV) (strV s) i i hml (Nat.le_refl _) (by omega) hget).1
        rw [List.drop_of_length_le (by omega)] at this
        rw [insL_map, Nat.mul_one, Nat.zero_add, List.drop_of_length_le (by omega)]
        exact this
      · refine (Any2.slices_Insert_string_shift Try.laysInsert g 0 n cap i vb 0 1 vc (xs.map strV) [strV s] w (by omega) (by omega) hroom (by unfold maxLen at hcm; omega) (fun h => hne (by simp [Value.ownBlock, h])) hml rfl hcs
          (fun j hj => by rw [Nat.zero_add, cell_of_heap hg, Array.getElem?_eq_getElem (by omega)]; rfl) (fun j hj => frozen_of_heap hg) hsv (one_strV xs) h1v tb 9 1 cap
          hsh hshg (by omega) (hfz 0) (hfz 1)).mono ?_
        rintro e w' ⟨rfl, rfl⟩
        have h1 := heap_setCells_at ((xs.map strV).drop i) (0 + (i + 1)) w.drew cur hg
        have h2 := heap_setCells_at [strV s] (0 + i) _ _ h1
        refine ⟨_, rfl, ⟨by rw [List.length_map, insL_len, hxl]; omega, .inr ⟨g, cap, _, rfl, hb, h2, hroom, hcm, by rw [over_size, over_size, hs]; omega, ?_⟩⟩, below_setCells hb _ _ _ (below_setCells hb _ _ _ (Below.refl base w).drew)⟩
        rw [insL_map, Nat.mul_one, Nat.zero_add, Nat.zero_add]
        exact (ins_over cur (xs.map strV) (strV s) i n hml hi (by omega) (fun j hj => hget j (by omega))).1
    · have hcap : cap < n + 1 := by omega
      have hG := grownCap_ge w (n + 1) cap (Try.laysInsert_ren.t 9)
      have hGm := grownCap_le_maxLen w (n + 1) cap (Try.laysInsert_ren.t 9) (by unfold maxLen; omega)
      by_cases hin : i = n
      · subst hin
        refine (Any2.slices_Insert_string_end_grow Try.laysInsert (some ⟨g, 0, none⟩) i cap vb 0 1 vc (xs.map strV) [strV s] w (by omega) hn hcap (by omega) hml rfl (fun h => by cases h) (fun a h j u hj => by cases h; rw [Addr.add_lit]; exact hcs j u hj) hsv h1v).mono ?_
        rintro e w' ⟨rfl, rfl⟩
        obtain ⟨G, hGe⟩ : ∃ G, grownCap w (i + 1) cap (Try.laysInsert_ren.t 9) = G := ⟨_, rfl⟩
        rw [hGe] at hG hGm ⊢
        refine ⟨_, rfl, ⟨by rw [List.length_map, insL_len, hxl]; omega, .inr ⟨w.heap.size, G, _, rfl, hbase, World.alloc_heap_new w.drew _, hG, hGm, ?_, ?_⟩⟩, (Below.refl base w).drew.alloc hbase _⟩
        · simp [Builtin.zeroCells, Value.cells, hxl]; omega
        · rw [insL_map, List.take_of_length_le (l := xs.map strV) (by omega), List.drop_of_length_le (l := xs.map strV) (by omega)]
          exact take_row _ _ _ (by rw [List.length_append, hml]; rfl)
      · refine (Any2.slices_Insert_string_grow Try.laysInsert g 0 n cap i vb 0 1 vc (xs.map strV) [strV s] w (by omega) (by omega) hn hcap (by omega) hml rfl hcs hsv (one_strV xs) h1v).mono ?_
        rintro e w' ⟨rfl, rfl⟩
        obtain ⟨G, hGe⟩ : ∃ G, grownCap w (n + 1) cap (Try.laysInsert_ren.t 9) = G := ⟨_, rfl⟩
        rw [hGe] at hG hGm ⊢
        obtain ⟨ROW, hROW⟩ : ∃ ROW : Array Value, ROW = ((xs.map strV).take i).toArray ++ Builtin.zeroCells (Value.string ⟨#[]⟩).cells (n + 1 - i) ++ Builtin.zeroCells (Value.string ⟨#[]⟩).cells (G - (n + 1)) := ⟨_, rfl⟩
        rw [← hROW]
        have hRs : ROW.size = G := by rw [hROW]; simp [Builtin.zeroCells, Value.cells, hxl]; omega
        have hRp : ∀ j, j < i → ROW[j]? = (xs.map strV)[j]? := fun j hj => by
          rw [hROW, Array.append_assoc, Array.getElem?_append_left (by simp [hxl]; omega)]
          simp [hj]
        have h0 : (w.alloc (.cells ROW (Try.laysInsert_ren.t 9))).drew.heap[w.heap.size]? = some (.cells ROW (Try.laysInsert_ren.t 9) (0, 0)) := World.alloc_heap_new w _
        have h1 := heap_setCells_at [strV s] i _ _ h0
        have h2 := heap_setCells_at ((xs.map strV).drop i) (i + 1) (((w.alloc (.cells ROW (Try.laysInsert_ren.t 9))).drew.setCells w.heap.size i [strV s]).drew) _ h1
        refine ⟨_, rfl, ⟨by rw [List.length_map, insL_len, hxl]; omega, .inr ⟨w.heap.size, G, _, rfl, hbase, h2, hG, hGm, by rw [over_size, over_size, hRs]; omega, ?_⟩⟩, below_setCells hbase _ _ _ (below_setCells hbase _ _ _ ((Below.refl base w).alloc hbase _).drew).drew⟩
        rw [insL_map, Nat.mul_one]
        exact (ins_over ROW (xs.map strV) (strV s) i n hml hi (by omega) hRp).2

/-- slices.Delete of one string, on an own row. -/
theorem Delete_any (v : Value) (n base i : Nat) (xs : List Bs) (w : World) (hm : n ≤ 100000) (hi : i < n) (hrow : w.ownsRow base 9 1 v n (xs.map strV)) (hv : 0 < n → v ≠ .slice none 0 0) :
    Calls Try.prog 55 #[v, .int .i64 i, .int .i64 ((i : Int) + 1)] w fun e w' => ∃ v', e = .returned v' ∧ w'.ownsRow base 9 1 v' (n - 1) ((xs.take i ++ xs.drop (i + 1)).map strV) ∧ Below base w w' := by
  obtain ⟨g, cap, rfl, hbg, hgl, hncap, hcm, hlen, hH⟩ := Lib.holds_of_ownsRow (enc := Go.Proofs.encStr) hrow (hv (by omega))
  subst hlen
  refine (Try.slices_Delete_string g 0 cap i (i + 1) xs w hH hncap (by unfold maxLen at hcm; omega) (by omega) (by omega)).mono ?_
  rintro e w' ⟨rfl, q, rfl⟩
  have hc := Lib.ownsRow_putRow (enc := Go.Proofs.encStr) (q := q) (k := xs.length - 1) (ys := xs.take i ++ xs.drop (i + 1) ++ List.replicate (i + 1 - i) []) hrow (by simp; omega) (by omega)
  rw [List.take_append_of_le_length (l₁ := xs.take i ++ xs.drop (i + 1)) (by simp; omega), List.take_of_length_le (l := xs.take i ++ xs.drop (i + 1)) (by simp; omega)] at hc
  rw [show xs.length - (i + 1 - i) = xs.length - 1 by omega]
  exact ⟨_, rfl, hc, Lib.below_putRow (Below.refl base w) hbg⟩
end Go.Proofs.Ytnanleopoedgfaa
