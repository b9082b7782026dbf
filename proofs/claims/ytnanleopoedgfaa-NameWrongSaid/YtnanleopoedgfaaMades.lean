/-
  made: the names of numbers.
-/
import Derived.Test.YtnanleopoedgfaaOf
import Derived.Test.YtnanleopoedgfaaMade
set_option linter.unusedSimpArgs false
set_option linter.unusedVariables false
namespace Go.Proofs.Ytnanleopoedgfaa
open Go.RowKit
attribute [local go_sem ↓] Go.wp_at_zero Go.wp_at_succ

def u16V (n : Nat) : Value := .int .u16 n
def madesB (ns : List Nat) : List Bs := (ns.take 40).map madeB

set_option maxRecDepth 100000 in
set_option maxHeartbeats 4000000 in
theorem mades_some (b off n cap : Nat) (ns : List Nat) (w : World) (hn : ns.length = n) (hm : n ≤ maxLen) (hcap : n ≤ cap) (hcm : cap ≤ maxLen) (hp : ∀ x ∈ ns, x < 65536) (hc : Cells w (some ⟨b, off, none⟩) (ns.map u16V)) :
    Calls Try.prog 18 #[.slice (some ⟨b, off, none⟩) n cap] w fun e w' => ∃ v, e = .returned v ∧ w'.ownsRow w.heap.size 9 1 v (madesB ns).length ((madesB ns).map strV) ∧ Below w.heap.size w w' := by
  obtain ⟨i0, hi, hz0, hz1, hz2⟩ := info_parts info_str
  unfold maxLen at hm hcm
  obtain ⟨q, hq, hq40, hqn⟩ : ∃ q : Nat, (min (n : Int) 40 = (q : Int)) ∧ q ≤ 40 ∧ q ≤ n := ⟨min n 40, by omega, by omega, by omega⟩
  have hql : (madesB ns).length = q := by unfold madesB; rw [List.length_map, List.length_take]; omega
  rw [hql]
  have hget : ∀ k, k < q → ∃ x, ns[k]? = some x ∧ x < 65536 ∧ (madesB ns)[k]? = some (madeB x) := fun k hk => by
    have h1 : k < ns.length := by omega
    refine ⟨ns[k], List.getElem?_eq_getElem h1, hp _ (List.getElem_mem h1), ?_⟩
    unfold madesB
    rw [List.getElem?_map, List.getElem?_take, if_pos (by omega), List.getElem?_eq_getElem h1]; rfl
  obtain ⟨R, hR⟩ : ∃ R, madesB ns = R := ⟨_, rfl⟩
  rw [hR] at hget hql ⊢
  have Hget := Lib.hid hget
  have Hql := Lib.hid hql
  have Hc := Lib.hid hc
  have c0 : (0 : Int) ≤ (q : Int) := by omega
  have c1 : (q : Int) ≤ (cap : Int) := by omega
  clear hR hget hql hn hp hc
  go_enter Try.func18, Try.ntmps18
  go_wp2
  go_loopw [3, 12] (fun o i wr => ∃ k : Nat, i = .int .i64 k ∧ k ≤ q ∧ wr.ownsRow w.heap.size 9 1 o k ((R.take k).map strV) ∧ Below w.heap.size w wr) (fun _ i _ => q - (intOf i).toNat)
  case atStart => exact ⟨0, rfl, Nat.zero_le _, World.ownsRow_nil _ _ _ _, Below.refl _ _⟩
  case round =>
    obtain ⟨k, rfl, hk, hown, hb⟩ := hrel
    by_cases hlt : k < q
    · obtain ⟨x, hx, hx16, hxR⟩ := Hget.out k hlt
      obtain ⟨b', off', hbo, hcx⟩ := (Hc.out.below hb).at (k := k) (x := u16V x) (by simp [hx])
      cases hbo
      rw [u16V] at hcx
      have HM := Lib.hid (fun W => Made_any x W hx16)
      have hnew : Hid ((R.take (k + 1)).map strV = (R.take k).map strV ++ [.string (bs (madeB x))]) := by
        unfold Hid; rw [List.take_add_one, hxR]; simp [strV]
      clear hx hxR
      go_wp2_with (first
        | (at_builtin; refine wpList_append_own _ rfl _ _ 22 rfl w.heap.size 9 i0 (.string ⟨#[]⟩) 1 16 Try.underlying22 hi hz0 hz1 hz2 rfl (by decide) u3 k _ rfl (hown'.alloc _) ⟨w1.heap.size, 0, none⟩ 1 1 [.string (bs (madeB x))] rfl rfl (cell_one_new _ _ _) (by simp [Value.oneCell']) (by unfold maxLen; omega) (by omega) (by have := hb1.size; simp; omega) ?_
           intro v' w2 hown'' hgrow _
           obtain ⟨g', cap', rfl⟩ := ownsRow_succ hown''
           have hb2 := (hb1.alloc hb1.size (.cells #[.string (bs (madeB x))] 9)).grown hgrow (by have := hb1.size; simp; omega) (fun j hj => (hown'.lt j hj).1))
        | (refine (HM.out _).mono ?_
           rintro e w1 ⟨rfl, hbm⟩
           have hown' := hown.kept (below_grows hbm) (Classical.em _)
           have hb1 := hb.trans (hbm.mono hb.size)))
      refine ⟨?_, by simp [intOf]; omega⟩
      rw [← hnew.out] at hown''
      first
        | exact ⟨k + 1, by go_num, by omega, hown'', hb2⟩
        | ((repeat apply Exists.intro); exact ⟨⟨k + 1, by go_num, by omega, hown'', hb2⟩, rfl⟩)
    · have hkq : k = q := by omega
      subst hkq
      have hfv : ∃ sa sn sc, u3 = .slice sa sn sc := by
        rcases hown.2 with ⟨rfl, _⟩ | ⟨g, cap, cur, rfl, _⟩
        · exact ⟨_, _, _, rfl⟩
        · exact ⟨_, _, _, rfl⟩
      rw [List.take_of_length_le (by rw [Hql.out]; omega)] at hown
      have Hown := Lib.hid hown
      clear hown
      obtain ⟨sa, sn, sc, rfl⟩ := hfv
      go_wp2
      go_ret
      exact ⟨_, rfl, Hown.out, hb⟩

set_option maxRecDepth 100000 in
set_option maxHeartbeats 4000000 in
theorem mades_none (a : Option Addr) (cap : Nat) (w : World) :
    Calls Try.prog 18 #[.slice a 0 cap] w fun e w' => ∃ v, e = .returned v ∧ w'.ownsRow w.heap.size 9 1 v 0 [] ∧ Below w.heap.size w w' := by
  go_enter Try.func18, Try.ntmps18
  go_wp2
  refine wp_loop_rounds 1 ?_
  rw [rounds_succ]
  go_wp2
  go_ret
  exact ⟨_, rfl, World.ownsRow_nil _ _ _ _, Below.refl _ _⟩
theorem mades_any (a : Option Addr) (n cap : Nat) (ns : List Nat) (w : World) (hn : ns.length = n) (hm : n ≤ maxLen) (hcap : n ≤ cap) (hcm : cap ≤ maxLen) (hp : ∀ x ∈ ns, x < 65536) (hc : Cells w a (ns.map u16V)) :
    Calls Try.prog 18 #[.slice a n cap] w fun e w' => ∃ v, e = .returned v ∧ w'.ownsRow w.heap.size 9 1 v (madesB ns).length ((madesB ns).map strV) ∧ Below w.heap.size w w' := by
  by_cases h0 : n = 0
  · subst h0
    obtain rfl := List.length_eq_zero_iff.1 hn
    exact mades_none a cap w
  · obtain ⟨y, hy⟩ : ∃ y, ns[0]? = some y := ⟨_, List.getElem?_eq_getElem (by omega)⟩
    obtain ⟨b, off, rfl, _⟩ := hc.at (k := 0) (x := u16V y) (by simp [hy])
    exact mades_some b off n cap ns w hn hm hcap hcm hp hc
end Go.Proofs.Ytnanleopoedgfaa
