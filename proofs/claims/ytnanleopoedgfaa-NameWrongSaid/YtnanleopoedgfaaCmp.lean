/-
  The order of strings and of lists of strings; cmp.Compare and slices.Compare; name.order.
-/
import Derived.Test.YtnanleopoedgfaaCollect
set_option linter.unusedSimpArgs false
set_option linter.unusedVariables false
namespace Go.Proofs.Ytnanleopoedgfaa
open Go.RowKit

def ltB (a b : Bs) : Bool := Op.bytesLess a b
def cmpB (a b : Bs) : Int := if ltB a b then -1 else if a = b then 0 else 1
def cmpL : List Bs → List Bs → Int
  | [], [] => 0
  | [], _ :: _ => -1
  | _ :: _, [] => 1
  | a :: r, b :: t => if cmpB a b = 0 then cmpL r t else cmpB a b
/-- The order of names. -/
def ordN (a b : Bs) : Int := cmpL (cut a) (cut b)

theorem toList_eq (s : ByteArray) : s.toList = s.data.toList := Lib.toList_data s

set_option maxHeartbeats 1000000 in
theorem isNaN_any (s : ByteArray) (w : World) : Calls Try.prog 92 #[.string s] w fun e w' => e = .returned (.bool false) ∧ w = w' := by
  go_enter Try.func92, Try.ntmps92
  go_wp2
  go_ret
  simp

set_option maxHeartbeats 1000000 in
theorem cmpStr_any (s t : ByteArray) (w : World) : Calls Try.prog 75 #[.string s, .string t] w fun e w' => e = .returned (.int .i64 (cmpB s.data.toList t.data.toList)) ∧ w = w' := by
  have h1 : Op.bytesLess s.toList t.toList = ltB s.data.toList t.data.toList := by rw [toList_eq, toList_eq]; rfl
  have h2 : (s.toList == t.toList) = decide (s.data.toList = t.data.toList) := by rw [toList_eq, toList_eq, Bool.eq_iff_iff]; simp
  obtain ⟨c, hc⟩ : ∃ c, cmpB s.data.toList t.data.toList = c := ⟨_, rfl⟩
  rw [hc]
  unfold cmpB at hc
  rcases hb : ltB s.data.toList t.data.toList with _ | _
  · by_cases he : s.data.toList = t.data.toList
    · rw [hb] at h1
      rw [decide_eq_true he] at h2
      rw [hb, if_neg (by simp), if_pos he] at hc
      subst hc
      clear hb he
      go_enter Try.func75, Try.ntmps75
      go_wp2_with (go_at_call 92; refine (isNaN_any _ _).mono ?_; rintro e w' ⟨rfl, rfl⟩)
      go_ret
      exact ⟨rfl, rfl⟩
    · rw [hb] at h1
      rw [decide_eq_false he] at h2
      rw [hb, if_neg (by simp), if_neg he] at hc
      subst hc
      clear hb he
      go_enter Try.func75, Try.ntmps75
      go_wp2_with (go_at_call 92; refine (isNaN_any _ _).mono ?_; rintro e w' ⟨rfl, rfl⟩)
      go_ret
      exact ⟨rfl, rfl⟩
  · rw [hb] at h1
    rw [hb, if_pos rfl] at hc
    subst hc
    clear hb
    go_enter Try.func75, Try.ntmps75
    go_wp2_with (go_at_call 92; refine (isNaN_any _ _).mono ?_; rintro e w' ⟨rfl, rfl⟩)
    go_ret
    exact ⟨rfl, rfl⟩

/-- The cells of a slice of one-cell elements. -/
def Cells (w : World) (a : Option Addr) (xs : List Value) : Prop := ∀ j x, xs[j]? = some x → ∃ b off, a = some ⟨b, off, none⟩ ∧ w.cell? ⟨b, off + j, none⟩ = some x

set_option maxRecDepth 100000 in
set_option maxHeartbeats 2000000 in
theorem slicesCompare_any (a a' : Option Addr) (n n' cap cap' : Nat) (xs ys : List Bs) (w : World) (hn : xs.length = n) (hn' : ys.length = n') (hm : n ≤ 1000000) (hm' : n' ≤ 1000000)
    (hc : Cells w a (xs.map strV)) (hc' : Cells w a' (ys.map strV)) :
    Calls Try.prog 59 #[.slice a n cap, .slice a' n' cap'] w fun e w' => e = .returned (.int .i64 (cmpL xs ys)) ∧ w = w' := by
  obtain ⟨R, hR⟩ : ∃ R, cmpL xs ys = R := ⟨_, rfl⟩
  rw [hR]
  have HR := Lib.hid hR
  have Hn := Lib.hid hn
  have Hn' := Lib.hid hn'
  have Hc := Lib.hid hc
  have Hc' := Lib.hid hc'
  clear hR hn hn' hc hc'
  go_enter Try.func59, Try.ntmps59
  go_wp2
  go_loop [11] (fun i => ∃ k : Nat, k ≤ n ∧ k ≤ n' ∧ i = .int .i64 k ∧ Hid (cmpL (xs.drop k) (ys.drop k) = R)) (fun i => n - (intOf i).toNat)
  case atStart => exact ⟨0, Nat.zero_le _, Nat.zero_le _, rfl, HR⟩
  case round =>
    obtain ⟨k, hk, hk', rfl, hrest⟩ := hrel
    by_cases hlt : k < n
    · by_cases hlt' : k < n'
      · have hx : ∃ x r, xs.drop k = x :: r ∧ xs.drop (k + 1) = r := by
          have h1 : k < xs.length := by rw [Hn.out]; exact hlt
          exact ⟨xs[k], xs.drop (k + 1), List.drop_eq_getElem_cons h1, rfl⟩
        have hy : ∃ x r, ys.drop k = x :: r ∧ ys.drop (k + 1) = r := by
          have h1 : k < ys.length := by rw [Hn'.out]; exact hlt'
          exact ⟨ys[k], ys.drop (k + 1), List.drop_eq_getElem_cons h1, rfl⟩
        obtain ⟨x, r, hx1, hx2⟩ := hx
        obtain ⟨y, r', hy1, hy2⟩ := hy
        have hxk : xs[k]? = some x := by have := congrArg (fun l => l[0]?) hx1; simpa using this
        have hyk : ys[k]? = some y := by have := congrArg (fun l => l[0]?) hy1; simpa using this
        obtain ⟨b, off, rfl, hcx⟩ := Hc.out k (strV x) (by simp [hxk])
        obtain ⟨b', off', rfl, hcy⟩ := Hc'.out k (strV y) (by simp [hyk])
        rw [strV] at hcx hcy
        have hrest' := hrest.out
        rw [hx1, hy1, cmpL] at hrest'
        rw [← hx2, ← hy2] at hrest'
        have HX := Lib.hid hrest'
        have HM := cmpStr_any (bs x) (bs y) w
        rw [toList_bs, toList_bs] at HM
        obtain ⟨c, hcd⟩ : ∃ c, cmpB x y = c := ⟨_, rfl⟩
        rw [hcd] at HM
        have HM' := Lib.hid HM
        have Hcd := Lib.hid hcd
        clear hrest' HM hcd hx1 hx2 hy1 hy2 hxk hyk
        by_cases hc0 : c = 0
        · subst hc0
          go_wp2_with (go_at_call 75; refine HM'.out.mono ?_; rintro e w' ⟨rfl, rfl⟩)
          go_round
          case rel => exact ⟨k + 1, by omega, by omega, by go_num, by have := HX.out; rw [Hcd.out, if_pos rfl] at this; exact this⟩
          case measure => simp [intOf]; omega
        · have hcb : (c != 0) = true := by simpa using hc0
          go_wp2_with (go_at_call 75; refine HM'.out.mono ?_; rintro e w' ⟨rfl, rfl⟩)
          go_ret
          have := HX.out
          rw [Hcd.out, if_neg hc0] at this
          exact ⟨ret_int this, rfl⟩
      · have hx : ∃ x r, xs.drop k = x :: r := by
          have h1 : k < xs.length := by rw [Hn.out]; exact hlt
          exact ⟨xs[k], xs.drop (k + 1), List.drop_eq_getElem_cons h1⟩
        obtain ⟨x, r, hx1⟩ := hx
        have hxk : xs[k]? = some x := by have := congrArg (fun l => l[0]?) hx1; simpa using this
        obtain ⟨b, off, rfl, hcx⟩ := Hc.out k (strV x) (by simp [hxk])
        rw [strV] at hcx
        have hres : Hid (1 = R) := by
          have := hrest.out
          rw [hx1, List.drop_of_length_le (by rw [Hn'.out]; omega), cmpL] at this
          exact this
        clear hx1 hxk
        go_wp2
        go_ret
        exact ⟨ret_int hres.out, rfl⟩
    · have hkn : k = n := by omega
      subst hkn
      by_cases hlt' : k < n'
      · have hres : Hid (-1 = R) := by
          have := hrest.out
          obtain ⟨y, r, hy⟩ : ∃ y r, ys.drop k = y :: r := ⟨_, _, List.drop_eq_getElem_cons (by rw [Hn'.out]; exact hlt')⟩
          rw [hy, List.drop_of_length_le (by rw [Hn.out]; omega), cmpL] at this
          exact this
        go_wp2
        go_ret
        exact ⟨ret_int hres.out, rfl⟩
      · have hres : Hid (0 = R) := by
          have := hrest.out
          rw [List.drop_of_length_le (by rw [Hn.out]; omega), List.drop_of_length_le (by rw [Hn'.out]; omega), cmpL] at this
          exact this
        go_wp2
        go_ret
        exact ⟨ret_int hres.out, rfl⟩

theorem ownsRow_cells {w : World} {base : Nat} {e : TypeId} {v : Value} {n : Nat} {xs : List Value} (h : w.ownsRow base e 1 v n xs) :
    ∃ a cap, v = .slice a n cap ∧ n ≤ cap ∧ cap ≤ maxLen ∧ xs.length = n ∧ Cells w a xs ∧ (a = none → n = 0) ∧ (∀ b off s, a = some ⟨b, off, s⟩ → base ≤ b ∧ b < w.heap.size) := by
  have hcl : ∀ g, v.ownBlock = some g → _ := fun g hg => h.cells hg
  have hlt := h.lt
  obtain ⟨h1, h2⟩ := h
  rcases h2 with ⟨rfl, rfl⟩ | ⟨g, cap, cur, rfl, hg, hh, h3, h4, _⟩
  · have : xs = [] := by simpa using h1
    subst this
    exact ⟨none, 0, rfl, Nat.le_refl _, by unfold maxLen; omega, rfl, fun j x hx => by simp at hx, fun _ => rfl, (fun b off s hs => by cases hs)⟩
  · refine ⟨_, cap, rfl, h3, h4, by simpa using h1, fun j x hx => ⟨g, 0, rfl, ?_⟩, (fun ha => by cases ha), fun b off s hs => ?_⟩
    · have := hcl g rfl j x hx
      simp only [Addr.add] at this
      by_cases hj : j = 0
      · subst hj; simpa using this
      · rw [if_neg hj] at this; exact this
    · cases hs; exact hlt _ rfl
theorem Cells.of_blocks {S : Nat → Prop} {w w' : World} {a : Option Addr} {xs : List Value} (h : Cells w a xs) (hf : ∀ k, k < w.heap.size → ¬ S k → w'.heap[k]? = w.heap[k]?) (hs : ∀ b off s, a = some ⟨b, off, s⟩ → ¬ S b) : Cells w' a xs := by
  intro j x hx
  obtain ⟨b, off, rfl, hc⟩ := h j x hx
  refine ⟨b, off, rfl, ?_⟩
  have hlt : b < w.heap.size := by
    rcases Nat.lt_or_ge b w.heap.size with h | h
    · exact h
    · simp [World.cell?, Array.getElem?_eq_none h] at hc
  rw [World.cell?_of_block (w := w) (a := ⟨b, off + j, none⟩) (hf b hlt (hs _ _ _ rfl))]; exact hc
theorem Cells.fr {S : Nat → Prop} {w w' : World} {a : Option Addr} {xs : List Value} (h : Cells w a xs) (hf : Fr S w w') (hs : ∀ b off s, a = some ⟨b, off, s⟩ → ¬ S b) : Cells w' a xs := h.of_blocks hf.block hs

set_option maxHeartbeats 1000000 in
theorem parts_any (s : ByteArray) (w : World) :
    Calls Try.prog 35 #[.string s] w fun e w' => e = .returned (.func (.func 61) #[] #[.pointer (some ⟨w.heap.size, 0, none⟩)]) ∧ w' = w.alloc (.cells #[.string s] 9) := by
  have hmf : ∀ (fn : Fn) (first cap : Array Value) (w : World), (Instr.makeFunc fn first cap).run Try.prog w = .ok (.func fn first cap) w := fun _ _ _ _ => rfl
  go_enter Try.func35, Try.ntmps35
  go_wp2
  go_ret
  exact ⟨rfl, rfl⟩

theorem cut_length (l : Bs) : (cut l).length ≤ l.length + 1 := by
  induction l with
  | nil => simp [cut]
  | cons c r ih =>
    simp only [cut]
    split
    · simp; omega
    · have : 0 < (cut r).length := List.length_pos_iff.2 (cut_ne r)
      simp; omega

set_option maxRecDepth 100000 in
set_option maxHeartbeats 2000000 in
/-- slices.Collect(parts(s)). -/
theorem collectParts (s : ByteArray) (w w0 : World) (hs : s.size ≤ 100000) (hw : w = w0.alloc (.cells #[.string s] 9)) :
    Calls Try.prog 60 #[.func (.func 61) #[] #[.pointer (some ⟨w0.heap.size, 0, none⟩)]] w fun e w' =>
      ∃ a cap, e = .returned (.slice a (cut s.data.toList).length cap) ∧ Cells w' a ((cut s.data.toList).map strV) ∧ Below w0.heap.size w0 w' ∧ (∀ b off s, a = some ⟨b, off, s⟩ → w.heap.size ≤ b ∧ b < w'.heap.size) ∧ w0.drawn ≤ w'.drawn := by
  have hb : Box w w0.heap.size (.string s) := by rw [hw]; exact Box.new _ _ _
  have hsz : w.heap.size = w0.heap.size + 1 := by rw [hw]; simp
  have hl := cut_length s.data.toList
  have hss : s.data.toList.length = s.size := by simp
  refine (Collect_any _ _ _ _ _ w (by intro args w; rfl) (parts_iter s w0.heap.size w (by unfold maxLen; omega) hb) (by intro k hk; omega) (by intro k hk; omega) (by omega)).mono ?_
  rintro e w' ⟨v, rfl, hrow, hfr⟩
  obtain ⟨a, cap, rfl, _, _, _, hc, _, hb⟩ := ownsRow_cells hrow
  have h0 : Fr none' w0 w := by rw [hw]; exact (Fr.refl _ _).alloc _
  refine ⟨a, cap, rfl, hc, ?_, hb, Nat.le_trans h0.drawn hfr.drawn⟩
  exact (h0.trans' hfr (fun k hk h => by omega)).below (Nat.le_refl _) (fun _ _ => id)

set_option maxRecDepth 100000 in
set_option maxHeartbeats 2000000 in
/-- name.order. -/
theorem order_dr (s t : ByteArray) (w : World) (hs : s.size ≤ 100000) (ht : t.size ≤ 100000) :
    Calls Try.prog 34 #[.string s, .string t] w fun e w' => e = .returned (.int .i64 (ordN s.data.toList t.data.toList)) ∧ Below w.heap.size w w' ∧ w.drawn ≤ w'.drawn := by
  have hl := cut_length s.data.toList
  have hss : s.data.toList.length = s.size := by simp
  have hl' := cut_length t.data.toList
  have hss' : t.data.toList.length = t.size := by simp
  have hq : (cut s.data.toList).length ≤ 1000000 := by omega
  have hq' : (cut t.data.toList).length ≤ 1000000 := by omega
  unfold ordN
  obtain ⟨xs, hxs⟩ : ∃ xs, cut s.data.toList = xs := ⟨_, rfl⟩
  obtain ⟨ys, hys⟩ : ∃ ys, cut t.data.toList = ys := ⟨_, rfl⟩
  have HC1 : ∀ w w0 : World, w = w0.alloc (.cells #[.string s] 9) → _ := fun w w0 hw => collectParts s w w0 hs hw
  have HC2 : ∀ w w0 : World, w = w0.alloc (.cells #[.string t] 9) → _ := fun w w0 hw => collectParts t w w0 ht hw
  rw [hxs] at HC1 hq ⊢
  rw [hys] at HC2 hq' ⊢
  have H1 := Lib.hid HC1
  have H2 := Lib.hid HC2
  clear HC1 HC2 hxs hys hl hl' hss hss'
  go_enter Try.func34, Try.ntmps34
  go_wp2_with fail
  refine (parts_any _ _).mono ?_
  rintro e w1 ⟨rfl, rfl⟩
  go_wp2_with fail
  refine (H1.out _ _ rfl).mono ?_
  rintro e w2 ⟨a, cap, rfl, hc1, hb1, ha1, hd1⟩
  go_wp2_with fail
  refine (parts_any _ _).mono ?_
  rintro e w3 ⟨rfl, rfl⟩
  go_wp2_with fail
  refine (H2.out _ _ rfl).mono ?_
  rintro e w4 ⟨a', cap', rfl, hc2, hb2, ha2, hd2⟩
  go_wp2_with fail
  refine (slicesCompare_any _ _ _ _ _ _ xs ys _ rfl rfl hq hq' ?_ hc2).mono ?_
  · exact hc1.of_blocks (S := from' w2.heap.size) (fun k _ hs => hb2.block k (Nat.lt_of_not_le hs)) (fun b off s h => by have := ha1 b off s h; unfold from'; omega)
  rintro e w5 ⟨rfl, rfl⟩
  go_wp2
  go_ret
  exact ⟨rfl, hb1.trans (hb2.mono hb1.size), Nat.le_trans hd1 hd2⟩
theorem order_any (s t : ByteArray) (w : World) (hs : s.size ≤ 100000) (ht : t.size ≤ 100000) :
    Calls Try.prog 34 #[.string s, .string t] w fun e w' => e = .returned (.int .i64 (ordN s.data.toList t.data.toList)) ∧ Below w.heap.size w w' :=
  (order_dr s t w hs ht).mono fun _ _ h => ⟨h.1, h.2.1⟩
end Go.Proofs.Ytnanleopoedgfaa
