/-
  made.
-/
import Derived.Test.YtbpmdhngobdilaaHl3
import Derived.StillTailTactics
namespace Go.Proofs.Ytbpmdhngobdilaa
open Go Go.RowKit
attribute [local go_sem ↓] Go.wp_at_zero Go.wp_at_succ

/-- A row of small numbers behind a slice. -/
def SmallsAt (w : World) (v : Value) (xs : List Sm4) : Prop := ∃ a cap, v = .slice a xs.length cap ∧ xs.length ≤ cap ∧ ∀ j x, xs[j]? = some x → x.ok ∧ ∃ g o, a = some ⟨g, o, none⟩ ∧ w.cell? ⟨g, o + j * 4, none⟩ = some (.int .u8 x.kind) ∧ w.cell? ⟨g, o + j * 4 + 1, none⟩ = some (.int .u8 x.place) ∧ w.cell? ⟨g, o + j * 4 + 2, none⟩ = some (.int .u8 x.time) ∧ w.cell? ⟨g, o + j * 4 + 3, none⟩ = some (.int .u8 x.source)

theorem results_tcct {P : Program} {fn : Func} {p0 p1 p2 p3 : Tmp} {t1 t2 : TypeId} (h : fn.results = #[.tmp p0, .cell p1 t1, .cell p2 t2, .tmp p3]) (tmps : Array Value) (w : World) {v1 v2 : Value} {a1 a2 : Addr}
    (h1 : tmps.getD p1 undef = .pointer (some a1)) (h2 : tmps.getD p2 undef = .pointer (some a2)) (l1 : (loadVar t1 a1).run P w = .ok v1 w) (l2 : (loadVar t2 a2).run P w = .ok v2 w) :
    (results fn tmps).run P w = .ok (.tuple #[tmps.getD p0 undef, v1, v2, tmps.getD p3 undef]) w := by
  have h1' : tmps[p1]?.getD undef = .pointer (some a1) := by simpa using h1
  have h2' : tmps[p2]?.getD undef = .pointer (some a2) := by simpa using h2
  simp [results, h, h1', h2', asAddr, l1, l2]
theorem Fr.setCells {S : Nat → Prop} {a : World} {b : Nat} (hp : b < a.heap.size → S b) : ∀ (vs : List Value) (o : Nat) {w : World}, Fr S a w → Fr S a (w.setCells b o vs)
  | [], _, _, h => h
  | v :: r, o, w, h => by rw [World.setCells]; exact Fr.setCells hp r (o + 1) (h.setCell hp v)

set_option maxRecDepth 100000 in
set_option maxHeartbeats 4000000 in
theorem made_any {w : World} {u : Value} {xs : List Sm4} (hu : SmallsAt w u xs) :
    Calls Try.prog 11 #[u] w fun e w' => ∃ hb ba v L Ks Ts, e = .returned (.tuple #[.pointer (some ⟨hb, 0, none⟩), .agg (cellsK Ks).toArray, .agg (cellsB Ts).toArray, .bool true]) ∧ Own w w' hb ba v 24 L ∧ Holds L Ks Ts := by
  obtain ⟨a, cap, rfl, hcap, hc⟩ := hu
  obtain ⟨n, hn⟩ : ∃ n, xs.length = n := ⟨_, rfl⟩
  rw [hn] at hcap ⊢
  have HN := fun w => new_own 24 w (by omega)
  have HN' := Lib.hid HN
  have Hn := Lib.hid hn
  have Hc := Lib.hid hc
  clear HN hn hc
  go_enter Try.func11, Try.ntmps11
  go_wp2_with fail
  obtain ⟨WA, hWA⟩ : ∃ WA, ((w.alloc (.cells Try.zeroCells27 27)).alloc (.cells #[.bool false, .bool false, .bool false, .bool false, .bool false, .bool false, .bool false, .bool false, .bool false, .bool false, .bool false, .bool false, .bool false, .bool false, .bool false, .bool false, .bool false, .bool false, .bool false, .bool false, .bool false, .bool false, .bool false, .bool false] 28)) = WA := ⟨_, rfl⟩
  have b1 : WA.heap[w.heap.size]? = some (.cells Try.zeroCells27 27) := by rw [← hWA]; exact heap_alloc2_old w _ _
  have b2 : WA.heap[w.heap.size + 1]? = some (.cells (cellsB (List.replicate 24 false)).toArray 28) := by rw [← hWA]; exact heap_alloc2_new w _ _
  have fA : Fr0 none' w WA := by rw [← hWA]; exact (((Fr.refl none' w).alloc _).alloc _).to0
  obtain ⟨R, hR⟩ : ∃ R, w.heap.size = R := ⟨_, rfl⟩
  rw [hWA]
  rw [hR] at b1 b2 ⊢
  have HR := Lib.hid hR
  clear hWA hR
  refine (HN'.out WA).mono ?_
  rintro e w1 ⟨hb, ba, rfl, hO⟩
  have l1 := (Array.getElem?_eq_some_iff.1 b1).1
  have l2 := (Array.getElem?_eq_some_iff.1 b2).1
  have B1 := Lib.hid (show ObjBox w1 hb ba (.slice none 0 0) R _ from ⟨(hO.fr.block R l1 id).trans b1, fun hf => by have := hO.new _ hf; omega⟩)
  have B2 := Lib.hid (show ObjBox w1 hb ba (.slice none 0 0) (R + 1) _ from ⟨(hO.fr.block (R + 1) l2 id).trans b2, fun hf => by have := hO.new _ hf; omega⟩)
  have H := Lib.hid (show Own w w1 hb ba (.slice none 0 0) 24 [] from ⟨hO.is, fA.trans hO.fr, fun k hk => by have := hO.new k hk; have := fA.size; omega⟩)
  have hRK0 := Lib.hid (show R + 1 < w1.heap.size from Nat.lt_of_lt_of_le l2 hO.fr.size)
  have q1 : (0 : Int) ≤ ↑(min n 80) := by omega
  have q2 : ((min n 80 : Nat) : Int) ≤ ↑cap := by omega
  clear hO fA b1 b2 l1 l2
  obtain ⟨m, hm⟩ : ∃ m : Nat, min (n : Int) 80 = m := ⟨(min (n : Int) 80).toNat, by omega⟩
  have hmn : m ≤ n := by omega
  have hm80 : m ≤ 80 := by omega
  go_wp2_with fail
  clear hm q1 q2
  obtain ⟨W2, hW2⟩ : ∃ W2, ((w1.alloc (.cells Try.zeroCells27 27)).alloc (.cells #[.bool false, .bool false, .bool false, .bool false, .bool false, .bool false, .bool false, .bool false, .bool false, .bool false, .bool false, .bool false, .bool false, .bool false, .bool false, .bool false, .bool false, .bool false, .bool false, .bool false, .bool false, .bool false, .bool false, .bool false] 28)) = W2 := ⟨_, rfl⟩
  have fA : Fr0 none' w1 W2 := by rw [← hW2]; exact (((Fr.refl none' w1).alloc _).alloc _).to0
  have hSt : St w W2 hb ba (.slice none 0 0) [] (List.replicate 24 zeroK) (List.replicate 24 false) w1.heap.size (w1.heap.size + 1) [(R, .cells Try.zeroCells27 27), (R + 1, .cells (cellsB (List.replicate 24 false)).toArray 28)] := by
    have hRK := hRK0.out
    have hRw := HR.out
    refine ⟨H.out.later fA, ⟨by rw [← hW2]; exact heap_alloc2_old w1 _ _, fun hf => by have := H.out.lt _ hf; omega⟩, ⟨by rw [← hW2]; exact heap_alloc2_new w1 _ _, fun hf => by have := H.out.lt _ hf; omega⟩, by omega, by omega, by omega, fun x hx => ?_⟩
    simp only [List.mem_cons, List.not_mem_nil, or_false] at hx
    rcases hx with rfl | rfl
    · exact ⟨B1.out.later fA, by simp only; omega, by simp only; omega⟩
    · exact ⟨B2.out.later fA, by simp only; omega, by simp only; omega⟩
  obtain ⟨E0, hE0⟩ : ∃ E0 : List (Nat × Obj), [(R, .cells Try.zeroCells27 27), (R + 1, .cells (cellsB (List.replicate 24 false)).toArray 28)] = E0 := ⟨_, rfl⟩
  rw [hE0] at hSt
  rw [hW2]
  obtain ⟨KB, hKB⟩ : ∃ KB, w1.heap.size = KB := ⟨_, rfl⟩
  rw [hKB] at hSt ⊢
  have S0 := Lib.hid hSt
  have HE0 := Lib.hid hE0
  clear hW2 hKB fA hRK0 hSt hE0 H B1 B2
  go_loopw [39] (fun i wr => ∃ (k : Nat) (v : Value) (L : List Ent) (Ks : List Key3) (Ts : List Bool), k ≤ m ∧ i = .int .i64 k ∧ Hid (St w wr hb ba v L Ks Ts KB (KB + 1) E0) ∧ Hid (Holds L Ks Ts)) (fun i _ => m - (intOf i).toNat)
  case atStart => exact ⟨0, _, _, _, _, Nat.zero_le _, rfl, S0, Lib.hid Holds.nil⟩
  case round =>
    obtain ⟨k, v, L, Ks, Ts, hk, rfl, S1, HH⟩ := hrel
    by_cases hlt : k < m
    · obtain ⟨x, hx⟩ : ∃ x, xs[k]? = some x := ⟨_, List.getElem?_eq_getElem (by rw [Hn.out]; omega)⟩
      obtain ⟨hok, g, o, rfl, c0, c1, c2, c3⟩ := Hc.out k x hx
      replace c0 := S1.out.own.fr.later c0
      replace c1 := S1.out.own.fr.later c1
      replace c2 := S1.out.own.fr.later c2
      replace c3 := S1.out.own.fr.later c3
      have Hok := Lib.hid hok
      obtain ⟨⟨h0, h0'⟩, ⟨h1, h1'⟩, ⟨h2, h2'⟩, ⟨h3, h3'⟩⟩ := hok
      obtain ⟨y0, y1, y2, y3⟩ := x
      simp only at c0 c1 c2 c3 h0 h0' h1 h1' h2 h2' h3 h3'
      have p1 : (0 : Int) ≤ (k : Int) := by omega
      have p2 : (k : Int) < (m : Int) := by omega
      clear hx
      go_upto_region 9 with (fail)
      obtain ⟨W, hW⟩ : ∃ W, wr.alloc (.cells #[.int .u8 y0, .int .u8 y1, .int .u8 y2, .int .u8 y3] 36) = W := ⟨_, rfl⟩
      rw [hW]
      have S2 := Lib.hid (show St w W hb ba v L Ks Ts KB (KB + 1) _ from hW ▸ S1.out.alloc _)
      obtain ⟨X, hX⟩ : ∃ X, wr.heap.size = X := ⟨_, rfl⟩
      rw [hX] at S2 ⊢
      clear hW hX S1 c0 c1 c2 c3
      obtain ⟨q, hq⟩ : ∃ q : Nat, y1 % 24 = q := ⟨(y1 % 24).toNat, by omega⟩
      have q0 : (0 : Int) ≤ q := by omega
      have q1 : (q : Int) < 24 := by omega
      have hq24 : q < 24 := by omega
      have hb := S2.out.box (List.mem_cons_self ..)
      have x0 : W.cell? ⟨X, 0, none⟩ = some (.int .u8 y0) := by rw [cells_at hb]; rfl
      have x1 : W.cell? ⟨X, 1, none⟩ = some (.int .u8 y1) := by rw [cells_at hb]; rfl
      have x2 : W.cell? ⟨X, 2, none⟩ = some (.int .u8 y2) := by rw [cells_at hb]; rfl
      have x3 : W.cell? ⟨X, 3, none⟩ = some (.int .u8 y3) := by rw [cells_at hb]; rfl
      have tm := S2.out.mark (p := q) (by rw [HH.out.tl]; exact hq24)
      obtain ⟨tk0, tk1, tk2⟩ := S2.out.key (p := q) (by rw [HH.out.kl]; exact hq24)
      obtain ⟨r, hr⟩ : ∃ r, y0 % 6 = r := ⟨_, rfl⟩
      have r0 : 0 ≤ r := by omega
      have r1 : r < 6 := by omega
      clear hb
      go_upto_region 19 with (fail)
      rw [hq, hr]
      clear hq hr
      obtain ⟨kk, hkk⟩ : ∃ kk, ofK ⟨y0, y1, y2, y3⟩ = kk := ⟨_, rfl⟩
      have HK := Lib.hid hkk
      clear hkk
      obtain ⟨ka, kb, kc⟩ := kk
      have hcs : r = 0 ∨ r = 1 ∨ r = 2 ∨ r = 3 ∨ r = 4 ∨ r = 5 := by omega
      clear r0 r1
      rcases hcs with rfl | rfl | rfl | rfl | rfl | rfl
      · skip
        cases ht : Ts.getD q false
        · rw [ht] at tm
          go_wp2_with fail
          refine (of_st S2.out ⟨y0, y1, y2, y3⟩ Hok.out).mono ?_
          rintro e W3 ⟨rfl, hS⟩
          have S3 := Lib.hid hS
          clear hS x0 x1 x2 x3 S2
          rw [HK.out]
          simp only [keyV]
          have tm := S3.out.mark (p := q) (by rw [HH.out.tl]; exact hq24)
          have tf := S3.out.thawB q
          obtain ⟨tk0, tk1, tk2⟩ := S3.out.key (p := q) (by rw [HH.out.kl]; exact hq24)
          have kf0 := S3.out.thawK (q * 3)
          have kf1 := S3.out.thawK (q * 3 + 1)
          have kf2 := S3.out.thawK (q * 3 + 2)
          go_upto_region 25 with (fail)
          obtain ⟨W4, hW4⟩ : ∃ W4, (((W3.setCell ⟨KB, q * 3, none⟩ (.int .i64 ka)).setCell ⟨KB, q * 3 + 1, none⟩ (.int .i64 kb)).setCell ⟨KB, q * 3 + 2, none⟩ (.int .i64 kc)).setCell ⟨KB + 1, q, none⟩ (.bool true) = W4 := ⟨_, rfl⟩
          rw [hW4]
          have S4 := Lib.hid (show St w W4 hb ba v L (Ks.set q ⟨ka, kb, kc⟩) (Ts.set q true) KB (KB + 1) _ from hW4 ▸ (S3.out.setKey (by rw [HH.out.kl]; exact hq24) ⟨ka, kb, kc⟩).setMark q true)
          clear hW4 tm tf tk0 tk1 tk2 kf0 kf1 kf2 S3
          have hbx := S4.out.box (List.mem_cons_self ..)
          have x0 : W4.cell? ⟨X, 0, none⟩ = some (.int .u8 y0) := by rw [cells_at hbx]; rfl
          have x1 : W4.cell? ⟨X, 1, none⟩ = some (.int .u8 y1) := by rw [cells_at hbx]; rfl
          have x2 : W4.cell? ⟨X, 2, none⟩ = some (.int .u8 y2) := by rw [cells_at hbx]; rfl
          have x3 : W4.cell? ⟨X, 3, none⟩ = some (.int .u8 y3) := by rw [cells_at hbx]; rfl
          clear hbx
          go_wp2_with fail
          refine (of_st S4.out ⟨y0, y1, y2, y3⟩ Hok.out).mono ?_
          rintro e W5 ⟨rfl, hS⟩
          have S5 := Lib.hid hS
          clear hS x0 x1 x2 x3 S4
          rw [HK.out]
          simp only [keyV]
          go_wp2_with fail
          obtain ⟨he, hh⟩ := HH.out.put S5.out.own.is.once hq24 ht ⟨ka, kb, kc⟩
          have HP := put_st S5.out (q : Int) ⟨ka, kb, kc⟩
          simp only [keyV] at HP
          rw [he] at HP
          refine HP.mono ?_
          rintro e W6 ⟨rfl, v', hS⟩
          have S6 := Lib.hid hS
          have HH' := Lib.hid hh
          clear he hh HP S5 hS ht
          go_wp2
          go_roundw
          case rel => exact ⟨k + 1, _, _, _, _, by omega, by go_num, Lib.hid (S6.out.less (fun x hx => by simp [hx])), Lib.hid HH'.out⟩
          case measure => simp [intOf]; omega
        · rw [ht] at tm
          go_wp2_with fail
          refine (of_st S2.out ⟨y0, y1, y2, y3⟩ Hok.out).mono ?_
          rintro e W3 ⟨rfl, hS⟩
          have S3 := Lib.hid hS
          clear hS x0 x1 x2 x3 S2
          rw [HK.out]
          simp only [keyV]
          go_wp2_with fail
          obtain ⟨he, hh⟩ := HH.out.put_no hq24 ht ⟨ka, kb, kc⟩
          have HP := put_st S3.out (q : Int) ⟨ka, kb, kc⟩
          simp only [keyV] at HP
          rw [he, hh] at HP
          refine HP.mono ?_
          rintro e W6 ⟨rfl, v', hS⟩
          have S6 := Lib.hid hS
          clear he hh HP S3 hS ht
          go_wp2
          go_roundw
          case rel => exact ⟨k + 1, _, _, _, _, by omega, by go_num, Lib.hid (S6.out.less (fun x hx => by simp [hx])), Lib.hid HH.out⟩
          case measure => simp [intOf]; omega
      · skip
        cases ht : Ts.getD q false
        · rw [ht] at tm
          go_wp2_with fail
          refine (of_st S2.out ⟨y0, y1, y2, y3⟩ Hok.out).mono ?_
          rintro e W3 ⟨rfl, hS⟩
          have S3 := Lib.hid hS
          clear hS x0 x1 x2 x3 S2
          rw [HK.out]
          simp only [keyV]
          have tm := S3.out.mark (p := q) (by rw [HH.out.tl]; exact hq24)
          have tf := S3.out.thawB q
          obtain ⟨tk0, tk1, tk2⟩ := S3.out.key (p := q) (by rw [HH.out.kl]; exact hq24)
          have kf0 := S3.out.thawK (q * 3)
          have kf1 := S3.out.thawK (q * 3 + 1)
          have kf2 := S3.out.thawK (q * 3 + 2)
          go_upto_region 25 with (fail)
          obtain ⟨W4, hW4⟩ : ∃ W4, (((W3.setCell ⟨KB, q * 3, none⟩ (.int .i64 ka)).setCell ⟨KB, q * 3 + 1, none⟩ (.int .i64 kb)).setCell ⟨KB, q * 3 + 2, none⟩ (.int .i64 kc)).setCell ⟨KB + 1, q, none⟩ (.bool true) = W4 := ⟨_, rfl⟩
          rw [hW4]
          have S4 := Lib.hid (show St w W4 hb ba v L (Ks.set q ⟨ka, kb, kc⟩) (Ts.set q true) KB (KB + 1) _ from hW4 ▸ (S3.out.setKey (by rw [HH.out.kl]; exact hq24) ⟨ka, kb, kc⟩).setMark q true)
          clear hW4 tm tf tk0 tk1 tk2 kf0 kf1 kf2 S3
          have hbx := S4.out.box (List.mem_cons_self ..)
          have x0 : W4.cell? ⟨X, 0, none⟩ = some (.int .u8 y0) := by rw [cells_at hbx]; rfl
          have x1 : W4.cell? ⟨X, 1, none⟩ = some (.int .u8 y1) := by rw [cells_at hbx]; rfl
          have x2 : W4.cell? ⟨X, 2, none⟩ = some (.int .u8 y2) := by rw [cells_at hbx]; rfl
          have x3 : W4.cell? ⟨X, 3, none⟩ = some (.int .u8 y3) := by rw [cells_at hbx]; rfl
          clear hbx
          go_wp2_with fail
          refine (of_st S4.out ⟨y0, y1, y2, y3⟩ Hok.out).mono ?_
          rintro e W5 ⟨rfl, hS⟩
          have S5 := Lib.hid hS
          clear hS x0 x1 x2 x3 S4
          rw [HK.out]
          simp only [keyV]
          go_wp2_with fail
          obtain ⟨he, hh⟩ := HH.out.put S5.out.own.is.once hq24 ht ⟨ka, kb, kc⟩
          have HP := put_st S5.out (q : Int) ⟨ka, kb, kc⟩
          simp only [keyV] at HP
          rw [he] at HP
          refine HP.mono ?_
          rintro e W6 ⟨rfl, v', hS⟩
          have S6 := Lib.hid hS
          have HH' := Lib.hid hh
          clear he hh HP S5 hS ht
          go_wp2
          go_roundw
          case rel => exact ⟨k + 1, _, _, _, _, by omega, by go_num, Lib.hid (S6.out.less (fun x hx => by simp [hx])), Lib.hid HH'.out⟩
          case measure => simp [intOf]; omega
        · rw [ht] at tm
          go_wp2_with fail
          refine (of_st S2.out ⟨y0, y1, y2, y3⟩ Hok.out).mono ?_
          rintro e W3 ⟨rfl, hS⟩
          have S3 := Lib.hid hS
          clear hS x0 x1 x2 x3 S2
          rw [HK.out]
          simp only [keyV]
          go_wp2_with fail
          obtain ⟨he, hh⟩ := HH.out.put_no hq24 ht ⟨ka, kb, kc⟩
          have HP := put_st S3.out (q : Int) ⟨ka, kb, kc⟩
          simp only [keyV] at HP
          rw [he, hh] at HP
          refine HP.mono ?_
          rintro e W6 ⟨rfl, v', hS⟩
          have S6 := Lib.hid hS
          clear he hh HP S3 hS ht
          go_wp2
          go_roundw
          case rel => exact ⟨k + 1, _, _, _, _, by omega, by go_num, Lib.hid (S6.out.less (fun x hx => by simp [hx])), Lib.hid HH.out⟩
          case measure => simp [intOf]; omega
      · skip
        cases ht : Ts.getD q false
        · rw [ht] at tm
          go_wp2_with fail
          refine (of_st S2.out ⟨y0, y1, y2, y3⟩ Hok.out).mono ?_
          rintro e W3 ⟨rfl, hS⟩
          have S3 := Lib.hid hS
          clear hS x0 x1 x2 x3 S2
          rw [HK.out]
          simp only [keyV]
          have tm := S3.out.mark (p := q) (by rw [HH.out.tl]; exact hq24)
          have tf := S3.out.thawB q
          obtain ⟨tk0, tk1, tk2⟩ := S3.out.key (p := q) (by rw [HH.out.kl]; exact hq24)
          have kf0 := S3.out.thawK (q * 3)
          have kf1 := S3.out.thawK (q * 3 + 1)
          have kf2 := S3.out.thawK (q * 3 + 2)
          go_upto_region 25 with (fail)
          obtain ⟨W4, hW4⟩ : ∃ W4, (((W3.setCell ⟨KB, q * 3, none⟩ (.int .i64 ka)).setCell ⟨KB, q * 3 + 1, none⟩ (.int .i64 kb)).setCell ⟨KB, q * 3 + 2, none⟩ (.int .i64 kc)).setCell ⟨KB + 1, q, none⟩ (.bool true) = W4 := ⟨_, rfl⟩
          rw [hW4]
          have S4 := Lib.hid (show St w W4 hb ba v L (Ks.set q ⟨ka, kb, kc⟩) (Ts.set q true) KB (KB + 1) _ from hW4 ▸ (S3.out.setKey (by rw [HH.out.kl]; exact hq24) ⟨ka, kb, kc⟩).setMark q true)
          clear hW4 tm tf tk0 tk1 tk2 kf0 kf1 kf2 S3
          have hbx := S4.out.box (List.mem_cons_self ..)
          have x0 : W4.cell? ⟨X, 0, none⟩ = some (.int .u8 y0) := by rw [cells_at hbx]; rfl
          have x1 : W4.cell? ⟨X, 1, none⟩ = some (.int .u8 y1) := by rw [cells_at hbx]; rfl
          have x2 : W4.cell? ⟨X, 2, none⟩ = some (.int .u8 y2) := by rw [cells_at hbx]; rfl
          have x3 : W4.cell? ⟨X, 3, none⟩ = some (.int .u8 y3) := by rw [cells_at hbx]; rfl
          clear hbx
          go_wp2_with fail
          refine (of_st S4.out ⟨y0, y1, y2, y3⟩ Hok.out).mono ?_
          rintro e W5 ⟨rfl, hS⟩
          have S5 := Lib.hid hS
          clear hS x0 x1 x2 x3 S4
          rw [HK.out]
          simp only [keyV]
          go_wp2_with fail
          obtain ⟨he, hh⟩ := HH.out.put S5.out.own.is.once hq24 ht ⟨ka, kb, kc⟩
          have HP := put_st S5.out (q : Int) ⟨ka, kb, kc⟩
          simp only [keyV] at HP
          rw [he] at HP
          refine HP.mono ?_
          rintro e W6 ⟨rfl, v', hS⟩
          have S6 := Lib.hid hS
          have HH' := Lib.hid hh
          clear he hh HP S5 hS ht
          go_wp2
          go_roundw
          case rel => exact ⟨k + 1, _, _, _, _, by omega, by go_num, Lib.hid (S6.out.less (fun x hx => by simp [hx])), Lib.hid HH'.out⟩
          case measure => simp [intOf]; omega
        · rw [ht] at tm
          go_wp2_with fail
          refine (of_st S2.out ⟨y0, y1, y2, y3⟩ Hok.out).mono ?_
          rintro e W3 ⟨rfl, hS⟩
          have S3 := Lib.hid hS
          clear hS x0 x1 x2 x3 S2
          rw [HK.out]
          simp only [keyV]
          go_wp2_with fail
          obtain ⟨he, hh⟩ := HH.out.put_no hq24 ht ⟨ka, kb, kc⟩
          have HP := put_st S3.out (q : Int) ⟨ka, kb, kc⟩
          simp only [keyV] at HP
          rw [he, hh] at HP
          refine HP.mono ?_
          rintro e W6 ⟨rfl, v', hS⟩
          have S6 := Lib.hid hS
          clear he hh HP S3 hS ht
          go_wp2
          go_roundw
          case rel => exact ⟨k + 1, _, _, _, _, by omega, by go_num, Lib.hid (S6.out.less (fun x hx => by simp [hx])), Lib.hid HH.out⟩
          case measure => simp [intOf]; omega
      · skip
        cases ht : Ts.getD q false
        · rw [ht] at tm
          go_wp2_with fail
          refine (of_st S2.out ⟨y0, y1, y2, y3⟩ Hok.out).mono ?_
          rintro e W3 ⟨rfl, hS⟩
          have S3 := Lib.hid hS
          clear hS x0 x1 x2 x3 S2
          rw [HK.out]
          simp only [keyV]
          go_wp2_with fail
          obtain ⟨he, hh⟩ := HH.out.chg_no hq24 ht ⟨ka, kb, kc⟩
          have HP := chg_st S3.out (q : Int) ⟨ka, kb, kc⟩
          rw [he, hh] at HP
          obtain ⟨⟨na, nb, nc⟩, hnk⟩ : ∃ nk, keyP 24 L (q : Int) = nk := ⟨_, rfl⟩
          rw [hnk] at HP
          simp only [keyV] at HP
          refine HP.mono ?_
          rintro e W6 ⟨rfl, v', hS⟩
          have S6 := Lib.hid hS
          clear he hh hnk HP S3 hS ht
          go_upto_region 31 with (fail)
          obtain ⟨W7, hW7⟩ : ∃ W7, W6.alloc (.cells #[.int .i64 na, .int .i64 nb, .int .i64 nc] 26) = W7 := ⟨_, rfl⟩
          rw [hW7]
          have S7 := Lib.hid (show St w W7 hb ba v' _ Ks Ts KB (KB + 1) _ from hW7 ▸ S6.out.alloc _)
          obtain ⟨KX, hKX⟩ : ∃ KX, W6.heap.size = KX := ⟨_, rfl⟩
          rw [hKX] at S7 ⊢
          clear hW7 hKX S6
          have hbz := S7.out.box (List.mem_cons_self ..)
          have z0 : W7.cell? ⟨KX, 0, none⟩ = some (.int .i64 na) := by rw [cells_at hbz]; rfl
          have z1 : W7.cell? ⟨KX, 1, none⟩ = some (.int .i64 nb) := by rw [cells_at hbz]; rfl
          have z2 : W7.cell? ⟨KX, 2, none⟩ = some (.int .i64 nc) := by rw [cells_at hbz]; rfl
          clear hbz
          have tm := S7.out.mark (p := q) (by rw [HH.out.tl]; exact hq24)
          have tf := S7.out.thawB q
          obtain ⟨tk0, tk1, tk2⟩ := S7.out.key (p := q) (by rw [HH.out.kl]; exact hq24)
          have kf0 := S7.out.thawK (q * 3)
          have kf1 := S7.out.thawK (q * 3 + 1)
          have kf2 := S7.out.thawK (q * 3 + 2)
          clear tm tf tk0 tk1 tk2 kf0 kf1 kf2
          go_quiet (fail)
          go_wp2
          go_roundw
          case rel => exact ⟨k + 1, _, _, _, _, by omega, by go_num, Lib.hid ((S7.out.later ((Fr.refl none' W7).drewN _).to0).less (fun x hx => by simp [hx])), Lib.hid HH.out⟩
          case measure => simp [intOf]; omega
        · rw [ht] at tm
          go_wp2_with fail
          refine (of_st S2.out ⟨y0, y1, y2, y3⟩ Hok.out).mono ?_
          rintro e W3 ⟨rfl, hS⟩
          have S3 := Lib.hid hS
          clear hS x0 x1 x2 x3 S2
          rw [HK.out]
          simp only [keyV]
          go_wp2_with fail
          obtain ⟨he, hh⟩ := HH.out.chg S3.out.own.is.once hq24 ht ⟨ka, kb, kc⟩
          have hky := HH.out.key hq24 ht
          have HP := chg_st S3.out (q : Int) ⟨ka, kb, kc⟩
          rw [he, hky] at HP
          obtain ⟨⟨na, nb, nc⟩, hnk⟩ : ∃ nk, Ks.getD q zeroK = nk := ⟨_, rfl⟩
          rw [hnk] at HP
          simp only [keyV] at HP
          refine HP.mono ?_
          rintro e W6 ⟨rfl, v', hS⟩
          have S6 := Lib.hid hS
          have HH' := Lib.hid hh
          clear he hh hky HP S3 hS ht
          go_upto_region 31 with (fail)
          obtain ⟨W7, hW7⟩ : ∃ W7, W6.alloc (.cells #[.int .i64 na, .int .i64 nb, .int .i64 nc] 26) = W7 := ⟨_, rfl⟩
          rw [hW7]
          have S7 := Lib.hid (show St w W7 hb ba v' _ Ks Ts KB (KB + 1) _ from hW7 ▸ S6.out.alloc _)
          obtain ⟨KX, hKX⟩ : ∃ KX, W6.heap.size = KX := ⟨_, rfl⟩
          rw [hKX] at S7 ⊢
          clear hW7 hKX S6
          have hbz := S7.out.box (List.mem_cons_self ..)
          have z0 : W7.cell? ⟨KX, 0, none⟩ = some (.int .i64 na) := by rw [cells_at hbz]; rfl
          have z1 : W7.cell? ⟨KX, 1, none⟩ = some (.int .i64 nb) := by rw [cells_at hbz]; rfl
          have z2 : W7.cell? ⟨KX, 2, none⟩ = some (.int .i64 nc) := by rw [cells_at hbz]; rfl
          clear hbz
          have tm := S7.out.mark (p := q) (by rw [HH.out.tl]; exact hq24)
          have tf := S7.out.thawB q
          obtain ⟨tk0, tk1, tk2⟩ := S7.out.key (p := q) (by rw [HH.out.kl]; exact hq24)
          have kf0 := S7.out.thawK (q * 3)
          have kf1 := S7.out.thawK (q * 3 + 1)
          have kf2 := S7.out.thawK (q * 3 + 2)
          rw [hnk] at tk0 tk1 tk2
          simp only at tk0 tk1 tk2
          have hbx := S7.out.box (B := X) (List.mem_cons_of_mem _ (List.mem_cons_self ..))
          have x0 : W7.cell? ⟨X, 0, none⟩ = some (.int .u8 y0) := by rw [cells_at hbx]; rfl
          have x1 : W7.cell? ⟨X, 1, none⟩ = some (.int .u8 y1) := by rw [cells_at hbx]; rfl
          have x2 : W7.cell? ⟨X, 2, none⟩ = some (.int .u8 y2) := by rw [cells_at hbx]; rfl
          have x3 : W7.cell? ⟨X, 3, none⟩ = some (.int .u8 y3) := by rw [cells_at hbx]; rfl
          clear hbx hnk
          go_quiet (fail)
          go_wp2_with fail
          have S8 := fun j => S7.out.later ((Fr.refl none' W7).drewN j).to0
          clear tm tf tk0 tk1 tk2 kf0 kf1 kf2 S7
          refine (of_st (S8 _) ⟨y0, y1, y2, y3⟩ Hok.out).mono ?_
          rintro e W9 ⟨rfl, hS⟩
          have S9 := Lib.hid hS
          clear hS x0 x1 x2 x3 S8
          rw [HK.out]
          simp only [keyV]
          have tm := S9.out.mark (p := q) (by rw [HH.out.tl]; exact hq24)
          have tf := S9.out.thawB q
          obtain ⟨tk0, tk1, tk2⟩ := S9.out.key (p := q) (by rw [HH.out.kl]; exact hq24)
          have kf0 := S9.out.thawK (q * 3)
          have kf1 := S9.out.thawK (q * 3 + 1)
          have kf2 := S9.out.thawK (q * 3 + 2)
          go_wp2
          go_roundw
          case rel => exact ⟨k + 1, _, _, _, _, by omega, by go_num, Lib.hid ((S9.out.setKey (by rw [HH.out.kl]; exact hq24) ⟨ka, kb, kc⟩).less (fun x hx => by simp [hx])), Lib.hid HH'.out⟩
          case measure => simp [intOf]; omega
      · skip
        cases ht : Ts.getD q false
        · rw [ht] at tm
          go_wp2_with fail
          obtain ⟨he, hh, hts⟩ := HH.out.rem_no hq24 ht
          have HP := rem_st S2.out (q : Int)
          rw [he, hh] at HP
          obtain ⟨⟨na, nb, nc⟩, hnk⟩ : ∃ nk, keyP 24 L (q : Int) = nk := ⟨_, rfl⟩
          rw [hnk] at HP
          simp only [keyV] at HP
          refine HP.mono ?_
          rintro e W6 ⟨rfl, v', hS⟩
          have S6 := Lib.hid hS
          have Hts := Lib.hid hts
          clear he hh hnk HP S2 hS ht tm tk0 tk1 tk2 hts x0 x1 x2 x3
          go_upto_region 39 with (fail)
          obtain ⟨W7, hW7⟩ : ∃ W7, W6.alloc (.cells #[.int .i64 na, .int .i64 nb, .int .i64 nc] 26) = W7 := ⟨_, rfl⟩
          rw [hW7]
          have S7 := Lib.hid (show St w W7 hb ba v' _ Ks Ts KB (KB + 1) _ from hW7 ▸ S6.out.alloc _)
          obtain ⟨KX, hKX⟩ : ∃ KX, W6.heap.size = KX := ⟨_, rfl⟩
          rw [hKX] at S7 ⊢
          clear hW7 hKX S6
          have hbz := S7.out.box (List.mem_cons_self ..)
          have z0 : W7.cell? ⟨KX, 0, none⟩ = some (.int .i64 na) := by rw [cells_at hbz]; rfl
          have z1 : W7.cell? ⟨KX, 1, none⟩ = some (.int .i64 nb) := by rw [cells_at hbz]; rfl
          have z2 : W7.cell? ⟨KX, 2, none⟩ = some (.int .i64 nc) := by rw [cells_at hbz]; rfl
          clear hbz
          have tm := S7.out.mark (p := q) (by rw [HH.out.tl]; exact hq24)
          have tf := S7.out.thawB q
          obtain ⟨tk0, tk1, tk2⟩ := S7.out.key (p := q) (by rw [HH.out.kl]; exact hq24)
          have kf0 := S7.out.thawK (q * 3)
          have kf1 := S7.out.thawK (q * 3 + 1)
          have kf2 := S7.out.thawK (q * 3 + 2)
          go_quiet (fail)
          go_wp2
          go_roundw
          case rel => exact ⟨k + 1, _, _, _, _, by omega, by go_num, Lib.hid (((S7.out.later ((Fr.refl none' W7).drewN _).to0).setMark q false).less (fun x hx => by simp [hx])), Lib.hid (show Holds L Ks (Ts.set q false) from Hts.out.symm ▸ HH.out)⟩
          case measure => simp [intOf]; omega
        · rw [ht] at tm
          go_wp2_with fail
          obtain ⟨he, hh⟩ := HH.out.rem S2.out.own.is.once hq24 ht
          have hky := HH.out.key hq24 ht
          have HP := rem_st S2.out (q : Int)
          rw [he, hky] at HP
          obtain ⟨⟨na, nb, nc⟩, hnk⟩ : ∃ nk, Ks.getD q zeroK = nk := ⟨_, rfl⟩
          rw [hnk] at HP
          simp only [keyV] at HP
          refine HP.mono ?_
          rintro e W6 ⟨rfl, v', hS⟩
          have S6 := Lib.hid hS
          have HH' := Lib.hid hh
          clear he hh hky HP S2 hS ht tm tk0 tk1 tk2 x0 x1 x2 x3
          go_upto_region 39 with (fail)
          obtain ⟨W7, hW7⟩ : ∃ W7, W6.alloc (.cells #[.int .i64 na, .int .i64 nb, .int .i64 nc] 26) = W7 := ⟨_, rfl⟩
          rw [hW7]
          have S7 := Lib.hid (show St w W7 hb ba v' _ Ks Ts KB (KB + 1) _ from hW7 ▸ S6.out.alloc _)
          obtain ⟨KX, hKX⟩ : ∃ KX, W6.heap.size = KX := ⟨_, rfl⟩
          rw [hKX] at S7 ⊢
          clear hW7 hKX S6
          have hbz := S7.out.box (List.mem_cons_self ..)
          have z0 : W7.cell? ⟨KX, 0, none⟩ = some (.int .i64 na) := by rw [cells_at hbz]; rfl
          have z1 : W7.cell? ⟨KX, 1, none⟩ = some (.int .i64 nb) := by rw [cells_at hbz]; rfl
          have z2 : W7.cell? ⟨KX, 2, none⟩ = some (.int .i64 nc) := by rw [cells_at hbz]; rfl
          clear hbz
          have tm := S7.out.mark (p := q) (by rw [HH.out.tl]; exact hq24)
          have tf := S7.out.thawB q
          obtain ⟨tk0, tk1, tk2⟩ := S7.out.key (p := q) (by rw [HH.out.kl]; exact hq24)
          have kf0 := S7.out.thawK (q * 3)
          have kf1 := S7.out.thawK (q * 3 + 1)
          have kf2 := S7.out.thawK (q * 3 + 2)
          rw [hnk] at tk0 tk1 tk2
          simp only at tk0 tk1 tk2
          clear hnk
          go_quiet (fail)
          go_wp2
          go_roundw
          case rel => exact ⟨k + 1, _, _, _, _, by omega, by go_num, Lib.hid (((S7.out.later ((Fr.refl none' W7).drewN _).to0).setMark q false).less (fun x hx => by simp [hx])), Lib.hid HH'.out⟩
          case measure => simp [intOf]; omega
      · skip
        cases L with
        | nil =>
          go_wp2_with fail
          have HP := take_st S2.out
          simp only [leastP, takeK, takeE, List.tail, keyV, zeroK] at HP
          refine HP.mono ?_
          rintro e W6 ⟨rfl, v', hS⟩
          have S6 := Lib.hid hS
          clear HP S2 hS tm tk0 tk1 tk2 x0 x1 x2 x3
          go_upto_region 14 with (fail)
          obtain ⟨W7, hW7⟩ : ∃ W7, W6.alloc (.cells #[.int .i64 0, .int .i64 0, .int .i64 0] 26) = W7 := ⟨_, rfl⟩
          rw [hW7]
          have S7 := Lib.hid (show St w W7 hb ba v' _ Ks Ts KB (KB + 1) _ from hW7 ▸ S6.out.alloc _)
          clear hW7 S6
          go_wp2_with fail
          have HL := Len_is S7.out.own.is
          rw [show (([] : List Ent).length : Nat) = 0 from rfl] at HL
          refine HL.mono ?_
          rintro e W8 ⟨rfl, rfl⟩
          clear HL
          go_wp2
          go_roundw
          case rel => exact ⟨k + 1, _, _, _, _, by omega, by go_num, Lib.hid (S7.out.less (fun x hx => by simp [hx])), Lib.hid HH.out⟩
          case measure => simp [intOf]; omega
        | cons x rest =>
          go_wp2_with fail
          obtain ⟨⟨na, nb, nc⟩, pl⟩ := x
          have hpl : pl < 24 := S2.out.own.is.place _ (List.mem_cons_self ..)
          obtain ⟨ht, hky, hh⟩ := HH.out.take S2.out.own.is.once hpl
          have HP := take_st S2.out
          simp only [leastP, takeK, takeE, List.tail, keyV] at HP
          refine HP.mono ?_
          rintro e W6 ⟨rfl, v', hS⟩
          have S6 := Lib.hid hS
          have HH' := Lib.hid hh
          clear HP S2 hS tm tk0 tk1 tk2 x0 x1 x2 x3 q0 q1
          have q0 : (0 : Int) ≤ pl := by omega
          have q1 : (pl : Int) < 24 := by omega
          have hq24' := hpl
          clear hq24
          have hq24 := hq24'
          go_upto_region 16 with (fail)
          obtain ⟨W7, hW7⟩ : ∃ W7, W6.alloc (.cells #[.int .i64 na, .int .i64 nb, .int .i64 nc] 26) = W7 := ⟨_, rfl⟩
          rw [hW7]
          have S7 := Lib.hid (show St w W7 hb ba v' _ Ks Ts KB (KB + 1) _ from hW7 ▸ S6.out.alloc _)
          obtain ⟨KX, hKX⟩ : ∃ KX, W6.heap.size = KX := ⟨_, rfl⟩
          rw [hKX] at S7 ⊢
          clear hW7 hKX S6
          have hbz := S7.out.box (List.mem_cons_self ..)
          have z0 : W7.cell? ⟨KX, 0, none⟩ = some (.int .i64 na) := by rw [cells_at hbz]; rfl
          have z1 : W7.cell? ⟨KX, 1, none⟩ = some (.int .i64 nb) := by rw [cells_at hbz]; rfl
          have z2 : W7.cell? ⟨KX, 2, none⟩ = some (.int .i64 nc) := by rw [cells_at hbz]; rfl
          clear hbz
          have tm := S7.out.mark (p := pl) (by rw [HH.out.tl]; exact hq24)
          have tf := S7.out.thawB pl
          obtain ⟨tk0, tk1, tk2⟩ := S7.out.key (p := pl) (by rw [HH.out.kl]; exact hq24)
          rw [ht] at tm
          rw [hky] at tk0 tk1 tk2
          simp only at tk0 tk1 tk2
          have d1 : decide ((pl : Int) < 0) = false := by simp
          have d2 : decide ((24 : Int) ≤ (pl : Int)) = false := by simp; omega
          clear ht hky hh
          go_quiet (fail)
          go_wp2
          go_roundw
          case rel => exact ⟨k + 1, _, _, _, _, by omega, by go_num, Lib.hid (((S7.out.later ((Fr.refl none' W7).drewN _).to0).setMark pl false).less (fun x hx => by simp [hx])), Lib.hid HH'.out⟩
          case measure => simp [intOf]; omega
    · have hkm : k = m := by omega
      subst hkm
      go_wp2_with fail
      have b1 := S1.out.box (B := R) (by rw [← HE0.out]; exact List.mem_cons_self ..)
      have b2 := S1.out.box (B := R + 1) (by rw [← HE0.out]; exact List.mem_cons_of_mem _ (List.mem_cons_self ..))
      have o1 := S1.out.keys.obj
      have o2 := S1.out.marks.obj
      have lK : (cellsK Ks).length = 72 := by rw [cellsK_length, HH.out.kl]
      have lB : (cellsB Ts).length = 24 := by rw [cellsB, List.length_map, HH.out.tl]
      have sB : (cellsB (List.replicate 24 false)).toArray.size = 24 := rfl
      have sK : Try.zeroCells27.size = 72 := rfl
      have nKR : KB ≠ R ∧ KB ≠ R + 1 ∧ KB + 1 ≠ R ∧ KB + 1 ≠ R + 1 := by
        have e1 := (S1.out.ex _ (show (R, _) ∈ E0 by rw [← HE0.out]; exact List.mem_cons_self ..)).2
        have e2 := (S1.out.ex _ (show (R + 1, _) ∈ E0 by rw [← HE0.out]; exact List.mem_cons_of_mem _ (List.mem_cons_self ..))).2
        simp only at e1 e2
        exact ⟨Ne.symm e1.1, Ne.symm e2.1, Ne.symm e1.2, Ne.symm e2.2⟩
      have r1 : wr.rangeAt KB 0 (cellsK Ks) := fun j v hv => by rw [cells_at o1]; simpa using hv
      have r2 : wr.rangeAt (KB + 1) 0 (cellsB Ts) := fun j v hv => by rw [cells_at o2]; simpa using hv
      have t1 : wr.there R 0 (cellsK Ks).toArray.size := fun j hj => ⟨by rw [cells_at b1]; simp [lK] at hj; simp [sK]; omega, frozen_at b1 _⟩
      have t2 : wr.there (R + 1) 0 (cellsB Ts).toArray.size := fun j hj => ⟨by rw [cells_at b2]; simp [lB] at hj; rw [Array.getElem?_eq_getElem (by rw [sB]; omega)]; rfl, frozen_at b2 _⟩
      have SB := Lib.hid (And.intro b1 (And.intro b2 (And.intro o1 (And.intro o2 (And.intro lK (And.intro lB nKR))))))
      clear b1 b2 o1 o2 sB sK nKR
      refine wp_region_held_drew (S := fun W' => W'.rangeAt KB 0 (cellsK Ks) ∧ W'.rangeAt (KB + 1) 0 (cellsB Ts)) (by kernel_rfl) ⟨by simpa using r1, by simpa using r2⟩ (fun hHeld => ?_)
      refine take_on (i := 0) (v := .pointer (some ⟨hb, 0, none⟩)) rfl (by kernel_rfl) (by kernel_rfl) (by kernel_rfl) (fun _ _ _ h => h) (by kernel_rfl) (fun W' hSW => ?_) (by assumption) ?_
      · (try dsimp only at hSW)
        first | (go_simp; done) | exact rfl | (go_simp; rfl) | (go_simp; omega)
      try simp only [Act.put, List.setIfInBounds_toArray, List.set_cons_zero, List.set_cons_succ]
      refine wpAnyH_take (i := 1) (op_at rfl) (by kernel_rfl) (by kernel_rfl) (by kernel_rfl) (fun _ _ _ h => h) (yieldsIf_load_mid (by kernel_rfl) 27 (.tmp 8) rfl KB 0 rfl (cellsK Ks) _ (fun _ h => h.1) Try.underlying27 rfl (by rw [lK]; kernel_rfl)) (by assumption) ?_
      try simp only [Act.put, List.setIfInBounds_toArray, List.set_cons_zero, List.set_cons_succ]
      refine wpAnyH_take (i := 2) (op_at rfl) (by kernel_rfl) (by kernel_rfl) (by kernel_rfl) (fun _ _ _ h => h) (yieldsIf_load_mid (by kernel_rfl) 28 (.tmp 9) rfl (KB + 1) 0 rfl (cellsB Ts) _ (fun _ h => h.2) Try.underlying28 rfl (by rw [lB]; kernel_rfl)) (by assumption) ?_
      try simp only [Act.put, List.setIfInBounds_toArray, List.set_cons_zero, List.set_cons_succ]
      refine take_on (i := 3) (v := .pointer (some ⟨hb, 0, none⟩)) rfl (by kernel_rfl) (by kernel_rfl) (by kernel_rfl) (fun _ _ _ h => h) (by kernel_rfl) (fun W' hSW => ?_) (by assumption) ?_
      · (try dsimp only at hSW)
        first | (go_simp; done) | exact rfl | (go_simp; rfl) | (go_simp; omega)
      try simp only [Act.put, List.setIfInBounds_toArray, List.set_cons_zero, List.set_cons_succ]
      refine take_call (i := 4) rfl (by kernel_rfl) (by kernel_rfl) (fun K hK => ?_)
      obtain ⟨_, _, _, _, lK, lB, n1, n2, n3, n4⟩ := SB.out
      refine wp_store_mid 27 (.tmp 3) (.tmp 179) rfl R 0 (cellsK Ks).toArray rfl rfl (by simpa using t1) (by rw [List.size_toArray, lK]; kernel_rfl) (all_oneCell_toArray (cellsK_one Ks)) ?_
      refine hK.out _ _ ⟨World.rangeAt_setCells_apart (by simpa using r1) _ _ _ (.inl n1), World.rangeAt_setCells_apart (by simpa using r2) _ _ _ (.inl n3)⟩ (fun hHeld2 => ?_)
      clear hK K
      try simp only [Act.put]
      refine take_call (i := 5) rfl (by kernel_rfl) (by kernel_rfl) (fun K hK => ?_)
      refine wp_store_mid 28 (.tmp 4) (.tmp 180) rfl (R + 1) 0 (cellsB Ts).toArray rfl rfl (World.there_setCells (by simpa using t2) _ _ _) (by rw [List.size_toArray, lB]; kernel_rfl) (all_oneCell_toArray (cellsB_one Ts)) ?_
      refine hK.out _ _ ⟨World.rangeAt_setCells_apart (World.rangeAt_setCells_apart (by simpa using r1) _ _ _ (.inl n1)) _ _ _ (.inl n2), World.rangeAt_setCells_apart (World.rangeAt_setCells_apart (by simpa using r2) _ _ _ (.inl n3)) _ _ _ (.inl n4)⟩ (fun hHeld3 => ?_)
      clear hK K
      try simp only [Act.put]
      refine take_on (i := 6) (v := .bool true) rfl (by kernel_rfl) (by kernel_rfl) (by kernel_rfl) (fun _ _ _ h => h) (by kernel_rfl) (fun W' hSW => ?_) (by assumption) ?_
      · (try dsimp only at hSW)
        first | (go_simp; done) | exact rfl | (go_simp; rfl) | (go_simp; omega)
      try simp only [Act.put, List.setIfInBounds_toArray, List.set_cons_zero, List.set_cons_succ]
      refine wpAnyH_done (by kernel_rfl) ?_ _
      obtain ⟨WE, hWE⟩ : ∃ WE, (wr.drew.setCells R 0 (cellsK Ks)).setCells (R + 1) 0 (cellsB Ts) = WE := ⟨_, rfl⟩
      have g1 : WE.rangeAt R 0 (cellsK Ks) := by
        rw [← hWE]
        exact World.rangeAt_setCells_apart (World.rangeAt_setCells_same _ _ _ _ (by simpa using t1)) _ _ _ (.inl (by omega))
      have g2 : WE.rangeAt (R + 1) 0 (cellsB Ts) := by
        rw [← hWE]
        exact World.rangeAt_setCells_same _ _ _ _ (World.there_setCells (by simpa using t2) _ _ _)
      have hf : Fr0 (fun b => b = R ∨ b = R + 1) wr WE := by
        rw [← hWE]
        exact (Fr.setCells (fun _ => .inr rfl) _ _ (Fr.setCells (fun _ => .inl rfl) _ _ (Fr.refl _ wr).drew)).to0
      have e1 := (S1.out.ex _ (show (R, _) ∈ E0 by rw [← HE0.out]; exact List.mem_cons_self ..)).1.out
      have e2 := (S1.out.ex _ (show (R + 1, _) ∈ E0 by rw [← HE0.out]; exact List.mem_cons_of_mem _ (List.mem_cons_self ..))).1.out
      have hO : Own w WE hb ba v 24 L := S1.out.own.fr' hf (fun b hb hs => by rcases hs with rfl | rfl; exact e1 hb; exact e2 hb) (fun b hs hl => by have := HR.out; rcases hs with rfl | rfl <;> omega)
      have g3 := run_loadVar_mid (P := Try.prog) WE R 0 27 (cellsK Ks) _ g1 Try.underlying27 rfl (by rw [lK]; kernel_rfl)
      have g4 := run_loadVar_mid (P := Try.prog) WE (R + 1) 0 28 (cellsB Ts) _ g2 Try.underlying28 rfl (by rw [lB]; kernel_rfl)
      rw [hWE]
      clear hWE
      go_wp2
      refine bodyPost_ret (results_tcct (a1 := ⟨R, 0, none⟩) (a2 := ⟨R + 1, 0, none⟩) rfl _ _ rfl rfl g3 g4) rfl ⟨hb, ba, v, L, Ks, Ts, rfl, hO, HH.out⟩
end Go.Proofs.Ytbpmdhngobdilaa
