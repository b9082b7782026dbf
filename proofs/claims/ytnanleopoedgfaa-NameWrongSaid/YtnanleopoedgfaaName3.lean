/-
  name.Join.
-/
import Derived.Test.YtnanleopoedgfaaName2
set_option linter.unusedSimpArgs false
set_option linter.unusedVariables false
namespace Go.Proofs.Ytnanleopoedgfaa
open Go.RowKit

def sumMin : List Bs → Nat
  | [] => 0
  | p :: r => min p.length 32 + sumMin r
theorem sumMin_append (a b : List Bs) : sumMin (a ++ b) = sumMin a + sumMin b := by
  induction a with
  | nil => simp [sumMin]
  | cons p r ih => simp [sumMin, ih]; omega
theorem sumMin_take (xs : List Bs) (k : Nat) : sumMin (xs.take k) ≤ sumMin xs := by
  have := sumMin_append (xs.take k) (xs.drop k)
  rw [List.take_append_drop] at this; omega
def dotFree (p : Bs) : Bool := decide (Lib.indexByte p 46 < 0)
def joinB (xs : List Bs) : Bs := Lib.join xs [46]
def joinOk (xs : List Bs) : Bool := xs.all dotFree && decide (xs.length + sumMin xs ≤ 64) && rightB (joinB xs)

theorem join_length (xs : List Bs) (m : Nat) (h : ∀ p ∈ xs, p.length ≤ m) : (joinB xs).length ≤ xs.length * (m + 1) := by
  unfold joinB Lib.join
  match xs with
  | [] => simp
  | [p] => simp; have := h p (by simp); omega
  | p :: q :: r =>
    have h1 := h p (by simp)
    have h2 := join_length (q :: r) m (fun x hx => h x (by simp [hx]))
    unfold joinB Lib.join at h2
    rw [List.intercalate_cons_cons]
    simp only [List.length_append, List.length_cons, List.length_nil] at h2 ⊢
    have : (r.length + 1 + 1) * (m + 1) = (r.length + 1) * (m + 1) + (m + 1) := by rw [Nat.add_mul _ 1, Nat.one_mul]
    omega

theorem Contains1 (s : ByteArray) (c : UInt8) (w : World) :
    Calls Try.prog 36 #[.string s, .string ⟨#[c]⟩] w fun e w' => e = .returned (.bool (decide (0 ≤ Lib.indexByte s.data.toList c))) ∧ w = w' :=
  (Try.strings_Contains_one s c w).mono fun _ _ h => ⟨h.1, h.2.symm⟩

def JoinPost (R : Bool) (J : Bs) (w : World) (e : Ending) (w' : World) : Prop := e = .returned (if R then .tuple #[.string (bs J), .int .i64 0] else .tuple #[.string (bs []), .int .i64 40]) ∧ Below w.heap.size w w'
theorem JoinPost.no {R : Bool} {J : Bs} {w w' : World} (h : false = R) (hb : Below w.heap.size w w') : JoinPost R J w (.returned (.tuple #[.string ⟨#[]⟩, .int .i64 40])) w' := by subst h; exact ⟨rfl, hb⟩
theorem JoinPost.yes {R : Bool} {J : Bs} {w w' : World} (h : true = R) (hb : Below w.heap.size w w') : JoinPost R J w (.returned (.tuple #[.string (bs J), .int .i64 0])) w' := by subst h; exact ⟨rfl, hb⟩

set_option maxRecDepth 100000 in
set_option maxHeartbeats 2000000 in
theorem Join_any (a : Option Addr) (n cap : Nat) (xs : List Bs) (w : World) (hn : xs.length = n) (hm : n ≤ 1000) (hcap : n ≤ cap) (hp : ∀ p ∈ xs, p.length ≤ 1000) (hc : Cells w a (xs.map strV)) (ha : ∀ b off s, a = some ⟨b, off, s⟩ → b < w.heap.size) :
    Calls Try.prog 15 #[.slice a n cap] w (JoinPost (joinOk xs) (joinB xs) w) := by
  obtain ⟨R, hR⟩ : ∃ R, joinOk xs = R := ⟨_, rfl⟩
  obtain ⟨J, hJ⟩ : ∃ J, joinB xs = J := ⟨_, rfl⟩
  rw [hR, hJ]
  have HR := Lib.hid hR
  have HJ := Lib.hid hJ
  have Hn := Lib.hid hn
  have Hc := Lib.hid hc
  have Hp := Lib.hid hp
  have Ha := Lib.hid ha
  clear hR hJ hn hc hp ha
  go_enter Try.func15, Try.ntmps15
  go_wp2
  go_loop [4, 12] (fun z i => ∃ (k m : Nat), k ≤ n ∧ m ≤ 33000 ∧ i = .int .i64 k ∧ z = .int .i64 m ∧ Hid (m = n + sumMin (xs.take k) ∧ (k = 0 ∨ m ≤ 64) ∧ (xs.take k).all dotFree = true)) (fun _ i => n - (intOf i).toNat)
  case atStart => exact ⟨0, n, Nat.zero_le _, by omega, rfl, rfl, by simp [sumMin], .inl rfl, rfl⟩
  case round =>
    obtain ⟨k, m, hk, hm33, rfl, rfl, hinv⟩ := hrel
    by_cases hlt : k < n
    · have h1 : k < xs.length := by rw [Hn.out]; exact hlt
      obtain ⟨x, hx⟩ : ∃ x, xs[k]? = some x := ⟨_, List.getElem?_eq_getElem h1⟩
      obtain ⟨b, off, rfl, hcx⟩ := Hc.out.at (k := k) (x := strV x) (by simp [hx])
      rw [strV] at hcx
      have hxl : x.length ≤ 1000 := Hp.out x (List.mem_of_getElem? hx)
      have hxs : (bs x).size ≤ 1000 := hxl
      have hm64 : Hid (m ≤ 64 ∨ k = 0) := by have := hinv.out.2.1; unfold Hid; omega
      have hsnoc : Hid (n + sumMin (xs.take (k + 1)) = m + min x.length 32) := by
        unfold Hid
        rw [List.take_add_one, hx, sumMin_append, hinv.out.1]
        simp [sumMin]; omega
      have hmem := Lib.hid (List.mem_of_getElem? hx)
      have hall : Hid (dotFree x = true → (xs.take (k + 1)).all dotFree = true) := fun h => by
        rw [List.take_add_one, hx]; simp [hinv.out.2.2, h]
      have HC := Contains1 (bs x) 46
      rw [toList_bs] at HC
      obtain ⟨c, hcd⟩ : ∃ c, decide (0 ≤ Lib.indexByte x 46) = c := ⟨_, rfl⟩
      rw [hcd] at HC
      have HC' := Lib.hid HC
      have Hcd := Lib.hid hcd
      have hx' := Lib.hid hx
      have hmin : Hid (x.length = (bs x).size) := rfl
      clear HC hcd hx hxl h1
      cases c with
      | true =>
        have hres : Hid (false = R) := by
          unfold Hid; rw [← HR.out]
          have : xs.all dotFree = false := by
            rw [Bool.eq_false_iff]; intro h
            have := List.all_eq_true.1 h x hmem.out
            have h2 := Hcd.out
            simp [dotFree] at this h2; omega
          simp [joinOk, this]
        go_wp2_with fail
        refine (HC'.out _).mono ?_
        rintro e w' ⟨rfl, rfl⟩
        go_wp2
        go_ret2
        exact JoinPost.no hres.out (Below.refl _ _)
      | false =>
        have hdot : Hid (dotFree x = true) := by
          have h2 := Hcd.out
          simp at h2
          simp [Hid, dotFree]; omega
        obtain ⟨q, hq, hq32, hqs⟩ : ∃ q : Nat, (min ((bs x).size : Int) 32 = (q : Int)) ∧ q ≤ 32 ∧ Hid (q = min x.length 32) := ⟨min x.length 32, by rw [hmin.out]; omega, by omega, rfl⟩
        by_cases h64 : m + q ≤ 64
        · go_wp2_with fail
          refine (HC'.out _).mono ?_
          rintro e w' ⟨rfl, rfl⟩
          go_wp2
          go_round
          case rel => exact ⟨k + 1, m + q, by omega, by omega, by go_num, by go_num, by rw [hsnoc.out, hqs.out], .inr h64, hall.out hdot.out⟩
          case measure => simp [intOf]; omega
        · have hres : Hid (false = R) := by
            unfold Hid; rw [← HR.out]
            have h3 := hsnoc.out
            have h4 := sumMin_take xs (k + 1)
            have h5 := Hn.out
            rw [← hqs.out] at h3
            have : decide (xs.length + sumMin xs ≤ 64) = false := by simp; omega
            simp [joinOk, this]
          go_wp2_with fail
          refine (HC'.out _).mono ?_
          rintro e w' ⟨rfl, rfl⟩
          go_wp2
          go_ret2
          exact JoinPost.no hres.out (Below.refl _ _)
    · have hkn : k = n := by omega
      subst hkn
      have htk : xs.take k = xs := List.take_of_length_le (by rw [Hn.out]; omega)
      have hinv' := hinv.out
      rw [htk] at hinv'
      have hcond : Hid (k ≠ 0 → (xs.all dotFree && decide (xs.length + sumMin xs ≤ 64)) = true) := fun h => by
        rw [hinv'.2.2, Hn.out]
        simp; omega
      have hsz : (joinB xs).length ≤ 1001000 := by
        have h1 := join_length xs 1000 Hp.out
        have h2 := Hn.out
        rw [h2] at h1
        omega
      rw [HJ.out] at hsz
      have HRt := Right_any (bs J)
      rw [toList_bs] at HRt
      obtain ⟨rr, hrr⟩ : ∃ rr, rightB J = rr := ⟨_, rfl⟩
      rw [hrr] at HRt
      have hmax : (bs J).size ≤ maxLen := by unfold maxLen; rw [size_bs]; omega
      have hRR : Hid (k ≠ 0 → rr = R) := fun h => by
        have h1 := hcond.out h
        rw [← HR.out, joinOk, h1, HJ.out, hrr]; rfl
      have hrr0 : Hid (k = 0 → rr = false ∧ R = false) := fun h => by
        have hx0 : xs = [] := List.length_eq_zero_iff.1 (by rw [Hn.out]; exact h)
        have hJ0 : J = [] := by rw [← HJ.out, hx0]; rfl
        refine ⟨by rw [← hrr, hJ0]; rfl, ?_⟩
        rw [← HR.out, joinOk, HJ.out, hJ0]
        have : rightB [] = false := rfl
        rw [this]; simp
      have hrR : Hid (rr = R) := by
        by_cases h : k = 0
        · rw [Hid, (hrr0.out h).1, (hrr0.out h).2]
        · exact hRR.out h
      have HJo : ∀ w', Below w.heap.size w w' → Calls Try.prog 37 #[.slice a k cap, .string ⟨#[46]⟩] w' fun e w2 => e = .returned (.string (bs J)) ∧ Below w'.heap.size w' w2 := by
        intro w' hb
        by_cases h : k = 0
        · subst h
          have hx0 : xs = [] := List.length_eq_zero_iff.1 Hn.out
          have hJ0 : J = [] := by rw [← HJ.out, hx0]; rfl
          refine (Try.strings_Join_none a cap _ w').mono ?_
          rintro e w2 ⟨rfl, rfl⟩
          exact ⟨by rw [hJ0]; rfl, Below.refl _ _⟩
        · obtain ⟨x, hx⟩ : ∃ x, xs[0]? = some x := ⟨_, List.getElem?_eq_getElem (by rw [Hn.out]; omega)⟩
          obtain ⟨b, off, rfl, _⟩ := Hc.out.at (k := 0) (x := strV x) (by simp [hx])
          have hmap : (xs.map bs).map (fun s : ByteArray => s.data.toList) = xs := by rw [List.map_map]; exact List.map_id xs
          have hlen2 : (xs.map bs).length = k := by rw [List.length_map]; exact Hn.out
          have hj := Try.strings_Join b off cap (xs.map bs) ⟨#[46]⟩ w' (fun j y hy => by
              rw [List.getElem?_map] at hy
              obtain ⟨x', hx', rfl⟩ := Option.map_eq_some_iff.1 hy
              obtain ⟨b', off', hbo, hcell⟩ := (Hc.out.below hb).at (k := j) (x := strV x') (by simp [hx'])
              cases hbo; exact hcell) (Nat.lt_of_lt_of_le (Ha.out _ _ _ rfl) hb.size) (by rw [hlen2]; omega) (by rw [hlen2]; exact hcap)
              (by
                rw [hmap]
                have : Lib.join xs [46] = J := HJ.out
                show (Lib.join xs [46]).length ≤ _
                rw [this]; omega)
          rw [hmap, hlen2] at hj
          refine hj.mono ?_
          rintro e w2 ⟨rfl, hb2⟩
          refine ⟨?_, hb2⟩
          have : Lib.join xs [46] = J := HJ.out
          show Ending.returned (.string ⟨(Lib.join xs [46]).toArray⟩) = _
          rw [this]; rfl
      have HJo' := Lib.hid HJo
      have HRt' := Lib.hid HRt
      clear hinv hinv' hcond htk HRt hrr HJo hsz
      cases rr with
      | false =>
        go_wp2_with fail
        refine (HJo'.out _ (Below.refl _ _)).mono ?_
        rintro e w1 ⟨rfl, hb1⟩
        go_wp2_with fail
        refine (HRt'.out _ hmax).mono ?_
        rintro e w2 ⟨rfl, rfl⟩
        go_wp2
        go_ret2
        exact JoinPost.no hrR.out hb1
      | true =>
        go_wp2_with fail
        refine (HJo'.out _ (Below.refl _ _)).mono ?_
        rintro e w1 ⟨rfl, hb1⟩
        go_wp2_with fail
        refine (HRt'.out _ hmax).mono ?_
        rintro e w2 ⟨rfl, rfl⟩
        go_wp2
        go_ret2
        exact JoinPost.yes hrR.out hb1
end Go.Proofs.Ytnanleopoedgfaa
