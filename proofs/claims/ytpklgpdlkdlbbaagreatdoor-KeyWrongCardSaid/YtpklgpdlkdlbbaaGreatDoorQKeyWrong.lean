/- KeyWrong: the statement, and its tied card: for any arguments the law returns true, and the arguments read as before. -/
import Derived.Test.YtpklgpdlkdlbbaaGreatDoorJb2
import Derived.Shelf.Vars
import Derived.Handed
import Derived.Test.YtpklgpdlkdlbbaaGreatDoorJb1
import Derived.Lib.Replace
import Derived.Test.YtpklgpdlkdlbbaaGreatDoorJb3
import Derived.Test.YtpklgpdlkdlbbaaGreatDoorCards
import Derived.Test.YtpklgpdlkdlbbaaGreatDoorTie
set_option linter.unusedSimpArgs false
set_option linter.unusedVariables false

/-
  The row of KeyWrong: seven variables are listed; internal/bytealg.MaxLen holds some number.
-/
namespace Go.Proofs.YtpklgpdlkdlbbaaGreatDoor
open Go Go.ChangeShapes Go.WideShapes Go.ChangeAt Go.RowKit Go.Deep Go.Joins

abbrev laidK7 : List (String × DataW Unit) := [("math/bits.deBruijn32tab", Rows.laid_math_bits_deBruijn32tab), ("math/bits.deBruijn64tab", Rows.laid_math_bits_deBruijn64tab), ("internal/strconv.uint64pow10", Rows.laid_internal_strconv_uint64pow10), ("unicode/utf8.acceptRanges", Rows.laid_unicode_utf8_acceptRanges), ("strconv.ErrRange", Rows.laid_strconv_ErrRange), ("strconv.ErrSyntax", Rows.laid_strconv_ErrSyntax), ("unicode/utf8.first", Rows.laid_unicode_utf8_first)]
/-- What the listed variables give a walk. -/
theorem laid7_of7 {W : World} (h : laidMet Tryz.prog laidK7 W) : Laid7 W := by
  have h3 := h.tail.tail
  refine ⟨Lib.tabIs_of_head (zs := Lib.pow10Tab) Kg.pow Kg.powT Tryz.underlying183 Tryz.underlying22 Kg.cellsU Kg.cellsT h3, ?_, ?_⟩
  · obtain ⟨a1, s1, hv1, -, -, -⟩ := laid_sentinel h3.tail.tail.tail Kg.syn Kg.synT Tryz.underlying88 Kg.row Tryz.underlying186 Tryz.underlying188 rfl rfl Tryz.underlying9 Kg.cellsE Kg.cellsS
    exact ⟨_, _, hv1⟩
  · obtain ⟨a0, s0, hv0, -, -, -⟩ := laid_sentinel h3.tail.tail Kg.rng Kg.rngT Tryz.underlying88 Kg.row Tryz.underlying186 Tryz.underlying188 rfl rfl Tryz.underlying9 Kg.cellsE Kg.cellsS
    exact ⟨_, _, hv0⟩
theorem maxLen_some {W : World} (h : W.ShapedOpen Tryz.prog) : ∃ m, W.cell? ⟨0, 0, none⟩ = some (.int .i64 m) :=
  cell_of_shapedOpen_int (t := 3) (zero := #[.int .i64 0]) h (of_decide_eq_true (by kernel_rfl)) (by kernel_rfl) rfl (by kernel_rfl) (by kernel_rfl) Tryz.underlying3
def valsK7 : DataW Unit → Array Value
  | .agg l => (l.flatMap fun | .lit (.int k z) => [Value.int k z] | .agg m => m.filterMap (fun | .lit (.int k z) => some (Value.int k z) | _ => none) | _ => []).toArray
  | _ => #[]
noncomputable def laidWorld7 (os : Os) : World :=
  let w0 := World.holding Tryz.prog os ⟨#[.cells #[.string synK] 188, .cells #[.string rngK] 188], #[], []⟩
  { w0 with heap := layK (layK (layK (layK (layK (layK (layK w0.heap 3 #[.iface 186 (.pointer (some ⟨lowK, 0, none⟩))]) 4 #[.iface 186 (.pointer (some ⟨lowK + 1, 0, none⟩))]) 5 (valsK7 Rows.laid_internal_strconv_uint64pow10)) 6 (valsK7 Rows.laid_math_bits_deBruijn32tab)) 7 (valsK7 Rows.laid_math_bits_deBruijn64tab)) 2 (valsK7 Rows.laid_unicode_utf8_acceptRanges)) 1 (valsK7 Rows.laid_unicode_utf8_first) }
theorem laidWorld7_met (os : Os) (args : Array Value) : laidMet Tryz.prog laidK7 ((laidWorld7 os).forCall (fun _ _ => 0) ⟨#[], args, []⟩).memory :=
  laidMet_of_run' 8 (by kernel_rfl) (by kernel_rfl)
end Go.Proofs.YtpklgpdlkdlbbaaGreatDoor

/-
  Texts of no key; plain Lean.
-/
namespace Go.Proofs.YtpklgpdlkdlbbaaGreatDoor

theorem parse_not {s : List UInt8} (h : ∀ k, RightK k → textK k ≠ s) : parseK s = none := by
  cases hp : parseK s with
  | none => rfl
  | some k => exact absurd (parseK_some hp).2 (h k (parseK_some hp).1)
theorem decI_mem {x : Int} : ∀ c ∈ decI x, 48 ≤ c.toNat ∧ c.toNat ≤ 57 := decDigits_mem _
theorem decI_no {x : Int} {c : UInt8} (hc : c.toNat < 48 ∨ 57 < c.toNat) : c ∉ decI x := fun h => by have := decI_mem c h; omega
theorem decI_ne (x : Int) : decI x ≠ [] := decDigits_ne _
theorem textK_64 (k : Key3) : (textK k).count 64 = 1 := by
  unfold textK
  rw [List.count_append, List.count_cons, List.count_append, List.count_cons, List.count_eq_zero_of_not_mem (decI_no (by decide)), List.count_eq_zero_of_not_mem (decI_no (by decide)), List.count_eq_zero_of_not_mem (decI_no (by decide))]
  rfl
theorem textK_35 (k : Key3) : (textK k).count 35 = 1 := by
  unfold textK
  rw [List.count_append, List.count_cons, List.count_append, List.count_cons, List.count_eq_zero_of_not_mem (decI_no (by decide)), List.count_eq_zero_of_not_mem (decI_no (by decide)), List.count_eq_zero_of_not_mem (decI_no (by decide))]
  rfl
theorem textK_head (k : Key3) : ∃ c r, textK k = c :: r ∧ 48 ≤ c.toNat ∧ c.toNat ≤ 57 := by
  unfold textK
  cases h : decI k.time with
  | nil => exact absurd h (decI_ne _)
  | cons c r => exact ⟨c, _, rfl, decI_mem c (by rw [h]; exact List.mem_cons_self)⟩
theorem textK_last (k : Key3) : ∃ c r, textK k = r ++ [c] ∧ 48 ≤ c.toNat ∧ c.toNat ≤ 57 := by
  unfold textK
  obtain ⟨r, c, h⟩ : ∃ r c, decI k.seq = r ++ [c] := by
    rcases List.eq_nil_or_concat (decI k.seq) with h | ⟨r, c, h⟩
    · exact absurd h (decI_ne _)
    · exact ⟨r, c, by rw [h, List.concat_eq_append]⟩
  rw [h]
  refine ⟨c, decI k.time ++ 64 :: (decI k.source ++ 35 :: r), by simp, decI_mem (x := k.seq) c (by rw [h]; simp)⟩
/-- A decimal that begins with 0 is 0. -/
theorem dec_zero (u : Nat) : ∀ t, Lib.decDigits u = 48 :: t → u = 0 := by
  induction u using Nat.strongRecOn with
  | _ u ih =>
    intro t h
    rw [Lib.decDigits] at h
    split at h
    · next hu =>
      injection h with h1 _
      have := congrArg UInt8.toNat h1
      simp at this
      omega
    · next hu =>
      cases hd : Lib.decDigits (u / 10) with
      | nil => exact absurd hd (decDigits_ne _)
      | cons c r =>
        rw [hd, List.cons_append] at h
        injection h with h1 _
        subst h1
        have := ih (u / 10) (by omega) r hd
        omega
theorem decI_zero {x : Int} {t : List UInt8} (h : decI x = 48 :: t) : t = [] := by
  have h0 := dec_zero _ t h
  unfold decI at h
  rw [h0, Lib.decDigits] at h
  simp at h
  exact h
/-- What stands ahead of the first c. -/
theorem split_one {c : UInt8} : ∀ {a b r t : List UInt8}, c ∉ a → c ∉ b → a ++ c :: r = b ++ c :: t → a = b ∧ r = t
  | [], [], _, _, _, _, h => by simpa using h
  | [], y :: b, _, _, _, hb, h => by
    simp at h
    exact absurd (by rw [h.1]; exact List.mem_cons_self) hb
  | x :: a, [], _, _, ha, _, h => by
    simp at h
    exact absurd (by rw [h.1]; exact List.mem_cons_self) ha
  | x :: a, y :: b, _, _, ha, hb, h => by
    simp at h
    obtain ⟨h1, h2⟩ := split_one (fun h => ha (List.mem_cons_of_mem _ h)) (fun h => hb (List.mem_cons_of_mem _ h)) h.2
    exact ⟨by rw [h.1, h1], h2⟩
theorem no_lead0 (k : Key3) : parseK (48 :: textK k) = none := parse_not (fun j _ h => by
  unfold textK at h
  rw [← List.cons_append] at h
  have h1 := (split_one (c := 64) (a := decI j.time) (b := 48 :: decI k.time) (decI_no (by decide)) (fun hm => by
    rcases List.mem_cons.1 hm with e | e
    · exact absurd e (by decide)
    · exact decI_no (x := k.time) (by decide) e) h).1
  exact decI_ne _ (decI_zero h1))
theorem no_head (k : Key3) (c : UInt8) (hc : c.toNat < 48 ∨ 57 < c.toNat) : parseK (c :: textK k) = none := parse_not (fun j _ h => by
  obtain ⟨d, r, h1, h2⟩ := textK_head j
  rw [h1] at h
  injection h with h3 _
  subst h3
  omega)
theorem no_last (k : Key3) (c : UInt8) (hc : c.toNat < 48 ∨ 57 < c.toNat) : parseK (textK k ++ [c]) = none := parse_not (fun j _ h => by
  obtain ⟨d, r, h1, h2⟩ := textK_last j
  rw [h1] at h
  have := (List.append_inj' h rfl).2
  injection this with h3 _
  subst h3
  omega)
theorem no_count {s : List UInt8} {c : UInt8} (hc : c = 64 ∨ c = 35) (h : s.count c ≠ 1) : parseK s = none := parse_not (fun j _ e => by
  rcases hc with rfl | rfl
  · exact h (by rw [← e, textK_64])
  · exact h (by rw [← e, textK_35]))
theorem no_more (k : Key3) : parseK (textK k ++ [35, 48]) = none := no_count (c := 35) (.inr rfl) (by rw [List.count_append, textK_35]; decide)
/-! ### Replace, and what stands ahead of '#' -/
theorem index_one (c : UInt8) : ∀ (a b : List UInt8), c ∉ a → Lib.index (a ++ c :: b) [c] = a.length
  | [], b, _ => by rw [List.nil_append, Lib.index, if_pos (by simp [List.isPrefixOf])]; rfl
  | x :: a, b, h => by
    have h1 := index_one c a b (fun h' => h (List.mem_cons_of_mem _ h'))
    have h2 : (c == x) = false := by rw [beq_eq_false_iff_ne]; exact fun e => h (by rw [e]; exact List.mem_cons_self)
    rw [List.cons_append, Lib.index, if_neg (by simp [List.isPrefixOf, h2]), h1, if_neg (by rw [beq_iff_eq]; omega)]
    simp
theorem replace_one {c : UInt8} {a b new : List UInt8} (h : c ∉ a) (hn : [c] ≠ new) : Lib.replace (a ++ c :: b) [c] new 1 = a ++ (new ++ b) := by
  have hi := index_one c a b h
  have hc : 1 ≤ Lib.count (a ++ c :: b) [c] := by
    unfold Lib.count
    rw [Lib.countFrom, if_neg (by rw [hi, beq_iff_eq]; omega)]
    omega
  unfold Lib.replace
  rw [if_neg (by rw [beq_iff_eq]; exact hn)]
  have hk : Lib.replaceNum (a ++ c :: b) [c] 1 = 0 + 1 := by
    unfold Lib.replaceNum
    rw [if_neg (by omega)]
    rfl
  rw [hk, Lib.replaceK_hit [c] new 0 _ a.length hi, Lib.replaceK]
  simp [List.drop_append]
theorem count_one {c : UInt8} {a b : List UInt8} (h : c ∉ a) (h' : c ∉ b) : Lib.count (a ++ c :: b) [c] = 1 := by
  have hi := index_one c a b h
  unfold Lib.count
  rw [Lib.countFrom, if_neg (by rw [hi, beq_iff_eq]; omega), hi, show ((a.length : Int).toNat + [c].length) = a.length + 1 from rfl, List.drop_append, List.drop_of_length_le (by omega), show a.length + 1 - a.length = 1 by omega]
  simp only [List.drop_succ_cons, List.drop_zero, List.nil_append]
  have hn : Lib.index b [c] = -1 := Lib.index_none (fun j _ => by
    cases hb : Lib.occAt b [c] j with
    | false => rfl
    | true => exact absurd (List.mem_of_getElem? (Lib.occAt_head rfl hb)) h')
  rw [List.length_append]
  cases hl : a.length + (c :: b).length with
  | zero => simp at hl
  | succ m => rw [Lib.countFrom, hn]; rfl
theorem at_free (k : Key3) : (64 : UInt8) ∉ decI k.time := decI_no (by decide)
theorem hash_free (k : Key3) : (35 : UInt8) ∉ decI k.time ++ 64 :: decI k.source := fun h => by
  rcases List.mem_append.1 h with h | h
  · exact decI_no (by decide) h
  · rcases List.mem_cons.1 h with h | h
    · exact absurd h (by decide)
    · exact decI_no (by decide) h
theorem textK_hash (k : Key3) : textK k = (decI k.time ++ 64 :: decI k.source) ++ 35 :: decI k.seq := by unfold textK; simp
theorem rep_at (k : Key3) : Lib.replace (textK k) [64] [35] 1 = decI k.time ++ 35 :: (decI k.source ++ 35 :: decI k.seq) := by
  unfold textK
  rw [replace_one (at_free k) (by decide)]
  rfl
theorem rep_hash (k : Key3) : Lib.replace (textK k) [35] [64] 1 = (decI k.time ++ 64 :: decI k.source) ++ 64 :: decI k.seq := by
  rw [textK_hash, replace_one (hash_free k) (by decide)]
  rfl
theorem rep_zero (k : Key3) : Lib.replace (textK k) [35] [35, 48] 1 = (decI k.time ++ 64 :: decI k.source) ++ 35 :: 48 :: decI k.seq := by
  rw [textK_hash, replace_one (hash_free k) (by decide)]
  rfl
theorem no_at (k : Key3) : parseK (Lib.replace (textK k) [64] [35] 1) = none := no_count (c := 35) (.inr rfl) (by
  rw [rep_at, List.count_append, List.count_cons, List.count_append, List.count_cons, List.count_eq_zero_of_not_mem (decI_no (by decide)), List.count_eq_zero_of_not_mem (decI_no (by decide)), List.count_eq_zero_of_not_mem (decI_no (by decide))]
  decide)
theorem no_hash (k : Key3) : parseK (Lib.replace (textK k) [35] [64] 1) = none := no_count (c := 35) (.inr rfl) (by
  rw [rep_hash, List.count_append, List.count_append, List.count_cons, List.count_cons, List.count_eq_zero_of_not_mem (decI_no (by decide)), List.count_eq_zero_of_not_mem (decI_no (by decide)), List.count_eq_zero_of_not_mem (decI_no (by decide))]
  decide)
theorem no_zero (k : Key3) : parseK (Lib.replace (textK k) [35] [35, 48] 1 ++ [48]) = none := parse_not (fun j _ h => by
  rw [rep_zero, textK_hash j, List.append_assoc (decI k.time ++ 64 :: decI k.source), List.cons_append, List.cons_append] at h
  have h1 := (split_one (hash_free j) (hash_free k) h).2
  have h2 := decI_zero h1
  simp at h2)
theorem indexByte_one (c : UInt8) : ∀ (a b : List UInt8), c ∉ a → Lib.indexByte (a ++ c :: b) c = a.length
  | [], b, _ => by rw [List.nil_append, Lib.indexByte, if_pos (by simp)]; rfl
  | x :: a, b, h => by
    have h1 := indexByte_one c a b (fun h' => h (List.mem_cons_of_mem _ h'))
    have h2 : (x == c) = false := by rw [beq_eq_false_iff_ne]; exact fun e => h (by rw [e]; exact List.mem_cons_self)
    rw [List.cons_append, Lib.indexByte, if_neg (by simp [h2]), h1, if_neg (by rw [beq_iff_eq]; omega)]
    simp
def headK (k : Key3) : List UInt8 := decI k.time ++ 64 :: decI k.source
theorem index_hash (k : Key3) : Lib.indexByte (textK k ++ [35]) 35 = (headK k).length := by
  rw [textK_hash, List.append_assoc, List.cons_append]
  exact indexByte_one 35 _ _ (hash_free k)
theorem take_hash (k : Key3) : (textK k).take (headK k).length = headK k := by rw [textK_hash]; exact List.take_left
theorem no_head2 (k : Key3) : parseK (headK k) = none := no_count (c := 35) (.inr rfl) (by
  unfold headK
  rw [List.count_eq_zero_of_not_mem (hash_free k)]
  decide)
theorem headK_le (k : Key3) : (headK k).length ≤ (textK k).length := by rw [textK_hash, List.length_append]; unfold headK; omega
theorem count_at (k : Key3) : Lib.count (textK k) [64] = 1 := count_one (at_free k) (fun h => by
  rcases List.mem_append.1 h with h | h
  · exact decI_no (by decide) h
  · rcases List.mem_cons.1 h with h | h
    · exact absurd h (by decide)
    · exact decI_no (by decide) h)
theorem count_hash (k : Key3) : Lib.count (textK k) [35] = 1 := by
  rw [textK_hash]; exact count_one (hash_free k) (decI_no (by decide))
end Go.Proofs.YtpklgpdlkdlbbaaGreatDoor

/-
  KeyWrong.
-/
namespace Go.Proofs.YtpklgpdlkdlbbaaGreatDoor
open Go Go.RowKit
attribute [local go_sem ↓] Go.wp_at_zero Go.wp_at_succ
attribute [local go_sem] Oper.semAt_some wide_fn wide_depth wide_fnR wide_depthR
attribute [local go_sem high] run_neq_k run_eql_k

set_option maxRecDepth 100000 in
set_option maxHeartbeats 2000000 in
/-- Clone of bytes: a row of its own. -/
theorem Clone_row8 {w : World} {a : Addr} {n cap : Nat} {l : List UInt8} (h : BsIn w (some a) l) (hl : l.length = n) (hn : n ≤ 1000) :
    Calls Tryz.prog 14 #[.slice (some a) n cap] w fun e w' => ∃ v', e = .returned v' ∧ w'.ownsRow w.heap.size 5 1 v' n (Lib.byteCells l) ∧ Fr0 none' w w' := by
  obtain ⟨i0, hi, hz0, hz1, hz2⟩ := info_parts info_byte
  have H := Lib.hid h
  clear h
  have q : ∀ (w : World), (binOp .eql 30 (.slice (some a) n cap) (.slice none 0 0)).run Tryz.prog w = .ok (.bool false) w := fun w => Lib.run_eql_slice_nil w _ _ (some a) n cap 0 0 Tryz.underlying30
  have hrow := World.ownsRow_made (e := 5) (size := 1) w #[] 0 (Nat.le_refl _) (Nat.zero_le _) (by simp)
  have Hrow := Lib.hid hrow
  have hsrc := Lib.hid (show Src Tryz.prog 1 30 (.slice (some a) n cap) n (Lib.byteCells l) (w.alloc (.cells #[] 5)) from Src.ofSlice _ Tryz.underlying30 a n cap (Lib.byteCells l) (by rw [Lib.byteCells_length, hl, Nat.mul_one]) ((H.out.later ((Fr0.refl none' w).alloc _)).cells) (fun u hu => by obtain ⟨x, _, rfl⟩ := List.mem_map.1 hu; rfl))
  clear hrow
  go_enter Tryz.func14, Tryz.ntmps14
  go_wp2_with (at_builtin; refine wpList_append_k rfl _ _ 30 30 rfl w.heap.size 5 i0 (.int .u8 0) 1 1 Tryz.underlying30 hi hz0 hz1 hz2 rfl (by decide) (.slice (some ⟨w.heap.size, 0, none⟩) 0 0) 0 [] rfl Hrow.out (.slice (some a) n cap) n _ rfl hsrc.out (by unfold maxLen; omega) (by omega) (by simp) ?_; intro v' w2 hown' hgrow hdr hob; have Hown := Lib.hid hown'; have Hgr := Lib.hid hgrow; clear hown' hgrow hdr hob)
  go_ret
  refine ⟨_, rfl, by have := Hown.out; simpa using this, ((Fr0.refl none' w).alloc _).grown Hgr.out (fun k hk hlt => by simp [Value.ownBlock] at hk; omega)⟩
theorem bsin_lit' {W : World} {b : Nat} {C : Array Value} {ty : TypeId} {fz : Nat × Nat} (h : W.heap[b]? = some (.cells C ty fz)) (l : List UInt8) (hC : C = (Lib.byteCells l).toArray) : BsIn W (some ⟨b, 0, none⟩) l := fun i x hx => by
  refine ⟨_, 0, rfl, ?_⟩
  rw [Nat.zero_add]
  subst hC
  simp [World.cell?, h, Lib.byteCells, hx]
theorem ba_append (a b : ByteArray) : (a ++ b).data.toList = a.data.toList ++ b.data.toList := by
  rw [ByteArray.data_append, Array.toList_append]
theorem parseV_no {l : List UInt8} (h : parseK l = none) : parseV l = .tuple #[.agg #[.int .i64 0, .int .i64 0, .int .i64 0], .int .i64 72] := by
  unfold parseV
  rw [h]
  rfl
theorem ba_take (s : ByteArray) (h : Nat) (hh : h ≤ s.size) : (s.extract 0 h).data.toList = s.data.toList.take h := by
  simp [ByteArray.data_extract, Array.toList_extract, List.extract]
/-- The nine texts are none. -/
theorem no_texts {k : Key3} {sK r1 r2 r3 : ByteArray} {hh : Nat} {C : Array Value} (hsz : sK.size ≤ 40) (hsd : sK.data.toList = textK k) (h1 : r1.data.toList = Lib.replace (textK k) [64] [35] 1) (h2 : r2.data.toList = Lib.replace (textK k) [35] [64] 1)
    (h3 : r3.data.toList = Lib.replace (textK k) [35] [35, 48] 1) (h3z : r3.size ≤ 41) (hhh : (headK k).length = hh)
    (hC : #[.string (⟨#[48]⟩ ++ sK), .string (sK ++ ⟨#[32]⟩), .string (⟨#[32]⟩ ++ sK), .string (⟨#[45]⟩ ++ sK), .string (sK ++ ⟨#[35, 48]⟩), .string r1, .string r2, .string (r3 ++ ⟨#[48]⟩), .string (sK.extract 0 hh)] = C) (i : Nat) (hi : i < 9) :
    ∃ u : ByteArray, C[i]? = some (.string u) ∧ u.size ≤ 1000 ∧ parseK u.data.toList = none := by
  have hl : (textK k).length ≤ 40 := by rw [← hsd]; exact hsz
  have z1 : r1.size ≤ 1000 := by
    show r1.data.size ≤ 1000
    rw [← Array.length_toList, h1, rep_at]
    have := congrArg List.length (show textK k = decI k.time ++ 64 :: (decI k.source ++ 35 :: decI k.seq) from rfl)
    simp at this ⊢
    omega
  have z2 : r2.size ≤ 1000 := by
    show r2.data.size ≤ 1000
    rw [← Array.length_toList, h2, rep_hash]
    have := congrArg List.length (textK_hash k)
    simp at this ⊢
    omega
  have hhs : hh ≤ sK.size := by
    have h1 := headK_le k
    have h2 : sK.data.toList.length = sK.size := Array.length_toList
    rw [hsd] at h2
    omega
  subst hC
  match i, hi with
  | 0, _ => exact ⟨_, rfl, by rw [ByteArray.size_append]; show 1 + sK.size ≤ 1000; omega, by rw [ba_append, hsd]; exact no_lead0 k⟩
  | 1, _ => exact ⟨_, rfl, by rw [ByteArray.size_append]; show sK.size + 1 ≤ 1000; omega, by rw [ba_append, hsd]; exact no_last k 32 (by decide)⟩
  | 2, _ => exact ⟨_, rfl, by rw [ByteArray.size_append]; show 1 + sK.size ≤ 1000; omega, by rw [ba_append, hsd]; exact no_head k 32 (by decide)⟩
  | 3, _ => exact ⟨_, rfl, by rw [ByteArray.size_append]; show 1 + sK.size ≤ 1000; omega, by rw [ba_append, hsd]; exact no_head k 45 (by decide)⟩
  | 4, _ => exact ⟨_, rfl, by rw [ByteArray.size_append]; show sK.size + 2 ≤ 1000; omega, by rw [ba_append, hsd]; exact no_more k⟩
  | 5, _ => exact ⟨_, rfl, z1, by rw [h1]; exact no_at k⟩
  | 6, _ => exact ⟨_, rfl, z2, by rw [h2]; exact no_hash k⟩
  | 7, _ => exact ⟨_, rfl, by rw [ByteArray.size_append]; show r3.size + 1 ≤ 1000; omega, by rw [ba_append, h3]; exact no_zero k⟩
  | 8, _ => exact ⟨_, rfl, by rw [ByteArray.size_extract]; omega, by rw [ba_take _ _ hhs, hsd, ← hhh, take_hash]; exact no_head2 k⟩
theorem readV_len {l : List UInt8} (h : l.length ≠ 12) : readV l = .tuple #[.agg #[.int .i64 0, .int .i64 0, .int .i64 0], .int .i64 71] := by
  have : readK l = none := by unfold readK; rw [if_neg (fun h' => h h'.1)]
  unfold readV
  rw [this]
  rfl
set_option maxRecDepth 100000 in
set_option maxHeartbeats 60000000 in
theorem KeyWrong_any (x : Num3) (way : Nat) (n : Int) (cut : Nat) (w : World) (hLd : Laid7 w) (hm : ∃ m, w.cell? ⟨0, 0, none⟩ = some (.int .i64 m)) (hway : way < 256) (hcut : cut < 256) (hn : -9223372036854775808 ≤ n ∧ n ≤ 9223372036854775807) :
    Calls Tryz.prog 3 #[smallV x, .int .u8 way, .int .i64 n, .int .u8 cut] w fun e w' => e = .returned (.bool true) ∧ Fr0 none' w w' := by
  have HL := Lib.hid hLd
  have HM := Lib.hid hm
  have Hn := Lib.hid hn
  clear hLd hm hn
  obtain ⟨ib, hib, hb0, hb1, hb2⟩ := info_parts info_byte
  simp only [smallV]
  go_enter Tryz.func3, Tryz.ntmps3
  go_wp2_with fail
  obtain ⟨p, hp⟩ : ∃ p, w.heap.size = p := ⟨_, rfl⟩
  obtain ⟨W0, hW0⟩ : ∃ W, w.alloc (.cells #[.int .u64 x.t, .int .u32 x.s, .int .u32 x.q] 25) = W := ⟨_, rfl⟩
  have XB := Lib.hid (show W0.heap[p]? = some (.cells #[.int .u64 x.t, .int .u32 x.s, .int .u32 x.q] 25 (0, 0)) by rw [← hW0, ← hp]; exact World.alloc_heap_new w _)
  have F0 := Lib.hid (show Fr0 none' w W0 by rw [← hW0]; exact (Fr0.refl _ _).alloc _)
  rw [hW0]
  try rw [hp]
  clear hW0 hp
  refine (awake_any _ (HL.out.later F0.out)).mono ?_
  rintro e w1 ⟨rfl, hf⟩
  have F1 := Lib.hid (F0.out.trans hf)
  have hxb := (hf.block p (Array.getElem?_eq_some_iff.1 XB.out).1 id).trans XB.out
  have z0 := cellsK_at hxb 0
  have z1 := cellsK_at hxb 1
  have z2 := cellsK_at hxb 2
  simp at z0 z1 z2
  clear hf F0 XB hxb
  go_wp2_with fail
  refine (Made_any x _).mono ?_
  rintro e w2 ⟨rfl, hf⟩
  have F2 := Lib.hid (F1.out.trans hf)
  have Hx := Lib.hid x.right
  obtain ⟨k, hk⟩ : ∃ k, x.key = k := ⟨_, rfl⟩
  rw [hk] at Hx ⊢
  clear hf z0 z1 z2 hk F1
  simp only [keyV]
  have hways : way % 6 = 0 ∨ way % 6 = 1 ∨ way % 6 = 2 ∨ way % 6 = 3 ∨ way % 6 = 4 ∨ way % 6 = 5 := by omega
  rcases hways with hways | hways | hways | hways | hways | hways
  · skip
    have hw : ((way : Int) % 6) = 0 := by omega
    obtain ⟨z, hz⟩ : ∃ z, min n (-1) = z := ⟨_, rfl⟩
    have hbad : ¬ RightK ⟨z, k.source, k.seq⟩ := by have := Hx.out; unfold RightK at this ⊢; simp only; omega
    have Hbad := Lib.hid hbad
    clear hbad hways
    go_wp2_with fail
    clear hw
    try rw [hz]
    clear hz
    obtain ⟨q1, hq1⟩ : ∃ q, w2.heap.size = q := ⟨_, rfl⟩
    rw [hq1]
    obtain ⟨W3, hW3⟩ : ∃ W, (w2.alloc (.cells #[.int .i64 k.time, .int .i64 k.source, .int .i64 k.seq] 28)).alloc (.cells #[.int .i64 (z), .int .i64 (k.source), .int .i64 (k.seq)] 28) = W := ⟨_, rfl⟩
    have hs1 : (w2.alloc (.cells #[.int .i64 k.time, .int .i64 k.source, .int .i64 k.seq] 28)).heap.size = q1 + 1 := by rw [← hq1]; simp
    have KX := Lib.hid (show KeyAt W3 q1 k by
      rw [← hW3]
      unfold KeyAt
      rw [Below.heap_alloc _ _ _ (by rw [hs1]; omega), ← hq1]
      exact World.alloc_heap_new w2 _)
    have KB := Lib.hid (show KeyAt W3 (q1 + 1) ⟨z, k.source, k.seq⟩ by rw [← hW3, ← hs1]; exact World.alloc_heap_new _ _)
    have F3 := Lib.hid (show Fr0 none' w W3 by rw [← hW3]; exact (F2.out.alloc _).alloc _)
    rw [hW3]
    clear hW3 hs1 hq1
    obtain ⟨q2, hq2⟩ : ∃ q, q1 + 1 = q := ⟨_, rfl⟩
    rw [hq2] at KB ⊢
    clear hq2
    have HB1 := Lib.hid (Bytes_wrong ⟨z, k.source, k.seq⟩ Hbad.out)
    have HB2 := Lib.hid (Text_wrong ⟨z, k.source, k.seq⟩ Hbad.out)
    have HB3 := Lib.hid (Next_wrong ⟨z, k.source, k.seq⟩ Hbad.out)
    have HB4 := Lib.hid (Back_wrong ⟨z, k.source, k.seq⟩ Hbad.out)
    simp only [keyV, zeroK] at HB1 HB2 HB3 HB4
    refine (HB1.out _).mono ?_
    rintro e w4 ⟨rfl, hf⟩
    have F3 := Lib.hid (F3.out.trans hf)
    have KX := Lib.hid (KX.out.fr0 (S := none') hf (fun h => h))
    have KB := Lib.hid (KB.out.fr0 (S := none') hf (fun h => h))
    try clear y0 y1 y2
    have y0 := KB.out.cell (i := 0) (by omega)
    have y1 := KB.out.cell (i := 1) (by omega)
    have y2 := KB.out.cell (i := 2) (by omega)
    simp [nth3] at y0 y1 y2
    clear hf
    go_wp2_with fail
    refine (HB2.out _).mono ?_
    rintro e w5 ⟨rfl, hf⟩
    have F3 := Lib.hid (F3.out.trans hf)
    have KX := Lib.hid (KX.out.fr0 (S := none') hf (fun h => h))
    have KB := Lib.hid (KB.out.fr0 (S := none') hf (fun h => h))
    try clear y0 y1 y2
    have y0 := KB.out.cell (i := 0) (by omega)
    have y1 := KB.out.cell (i := 1) (by omega)
    have y2 := KB.out.cell (i := 2) (by omega)
    simp [nth3] at y0 y1 y2
    clear hf
    go_wp2_with fail
    refine (HB3.out _).mono ?_
    rintro e w6 ⟨rfl, hf⟩
    have hf := hf.alloc (.cells #[.int .i64 0, .int .i64 0, .int .i64 0] 28)
    have F3 := Lib.hid (F3.out.trans hf)
    have KX := Lib.hid (KX.out.fr0 (S := none') hf (fun h => h))
    have KB := Lib.hid (KB.out.fr0 (S := none') hf (fun h => h))
    try clear y0 y1 y2
    have y0 := KB.out.cell (i := 0) (by omega)
    have y1 := KB.out.cell (i := 1) (by omega)
    have y2 := KB.out.cell (i := 2) (by omega)
    simp [nth3] at y0 y1 y2
    clear hf
    go_wp2_with fail
    obtain ⟨q3, hq3⟩ : ∃ q, w6.heap.size = q := ⟨_, rfl⟩
    obtain ⟨W6, hW6⟩ : ∃ W, w6.alloc (.cells #[.int .i64 0, .int .i64 0, .int .i64 0] 28) = W := ⟨_, rfl⟩
    have K3 := Lib.hid (show KeyAt W6 q3 zeroK by rw [← hW6, ← hq3]; exact World.alloc_heap_new w6 _)
    rw [hW6] at F3 KX KB ⊢
    try rw [hq3]
    clear hW6 hq3 y0 y1 y2
    refine (HB4.out _).mono ?_
    rintro e w7 ⟨rfl, hf⟩
    have hf := hf.alloc (.cells #[.int .i64 0, .int .i64 0, .int .i64 0] 28)
    have F3 := Lib.hid (F3.out.trans hf)
    have KX := Lib.hid (KX.out.fr0 (S := none') hf (fun h => h))
    have KB := Lib.hid (KB.out.fr0 (S := none') hf (fun h => h))
    try clear y0 y1 y2
    have K3 := Lib.hid (K3.out.fr0 (S := none') hf (fun h => h))
    have y0 := KB.out.cell (i := 0) (by omega)
    have y1 := KB.out.cell (i := 1) (by omega)
    have y2 := KB.out.cell (i := 2) (by omega)
    simp [nth3] at y0 y1 y2
    clear hf
    go_wp2_with fail
    clear y0 y1 y2
    obtain ⟨q4, hq4⟩ : ∃ q, w7.heap.size = q := ⟨_, rfl⟩
    obtain ⟨W7, hW7⟩ : ∃ W, w7.alloc (.cells #[.int .i64 0, .int .i64 0, .int .i64 0] 28) = W := ⟨_, rfl⟩
    have K4 := Lib.hid (show KeyAt W7 q4 zeroK by rw [← hW7, ← hq4]; exact World.alloc_heap_new w7 _)
    rw [hW7] at F3 KX KB K3 ⊢
    try rw [hq4]
    clear hW7 hq4
    have HR := Lib.hid (Right_any ⟨z, k.source, k.seq⟩ W7)
    rw [decide_eq_false Hbad.out] at HR
    simp only [keyV] at HR
    refine HR.out.mono ?_
    rintro e w8 ⟨rfl, hf⟩
    have F3 := Lib.hid (F3.out.trans hf)
    have KX := Lib.hid (KX.out.fr0 (S := none') hf (fun h => h))
    have KB := Lib.hid (KB.out.fr0 (S := none') hf (fun h => h))
    try clear y0 y1 y2
    have K3 := Lib.hid (K3.out.fr0 (S := none') hf (fun h => h))
    have K4 := Lib.hid (K4.out.fr0 (S := none') hf (fun h => h))
    have u0 := K3.out.cell (i := 0) (by omega)
    have u1 := K3.out.cell (i := 1) (by omega)
    have u2 := K3.out.cell (i := 2) (by omega)
    have v0 := K4.out.cell (i := 0) (by omega)
    have v1 := K4.out.cell (i := 1) (by omega)
    have v2 := K4.out.cell (i := 2) (by omega)
    simp [nth3, zeroK] at u0 u1 u2 v0 v1 v2
    have d1 : sameK ⟨0, 0, 0⟩ ⟨0, 0, 0⟩ = true := rfl
    clear hf
    go_wp2_with fail
    clear d1 u0 u1 u2 v0 v1 v2
    obtain ⟨t1, ht1⟩ : ∃ t, min n (-1) = t := ⟨_, rfl⟩
    obtain ⟨t2, ht2⟩ : ∃ t, max n 281474976710657 = t := ⟨_, rfl⟩
    rw [ht1, ht2]
    obtain ⟨q5, hq5⟩ : ∃ q, w8.heap.size = q := ⟨_, rfl⟩
    obtain ⟨W9, hW9⟩ : ∃ W, w8.alloc (.cells #[.int .i64 t1, .int .i64 t2] 3) = W := ⟨_, rfl⟩
    have HR9 := Lib.hid (show W9.heap[q5]? = some (.cells #[.int .i64 t1, .int .i64 t2] 3 (0, 0)) by rw [← hW9, ← hq5]; exact World.alloc_heap_new w8 _)
    have hf : Fr0 none' w8 W9 := by rw [← hW9]; exact (Fr0.refl _ _).alloc _
    have F3 := Lib.hid (F3.out.trans hf)
    have KX := Lib.hid (KX.out.fr0 (S := none') hf (fun h => h))
    have HE := Lib.hid (fun (i : Nat) (hi : i < 2) => show ∃ t : Int, #[(.int .i64 t1 : Value), .int .i64 t2][i]? = some (.int .i64 t) ∧ endsV t = (zeroK, zeroK, 2) from by
      match i, hi with
      | 0, _ => exact ⟨t1, rfl, by unfold endsV; rw [if_neg (by omega)]⟩
      | 1, _ => exact ⟨t2, rfl, by unfold endsV; rw [if_neg (by omega)]⟩)
    rw [hW9]
    try rw [hq5]
    clear hW9 hq5 hf ht1 ht2 K3 K4 KB
    go_loopw [20, 21, 22, 23, 126] (fun _ _ _ _ c wr => ∃ i : Nat, c = .int .i64 i ∧ i ≤ 2 ∧ Hid (Fr0 none' W9 wr)) (fun _ _ _ _ c _ => 2 - (Go.RowKit.intOf c).toNat)
    case atStart => exact ⟨0, rfl, Nat.zero_le _, Fr0.refl _ _⟩
    case round =>
      obtain ⟨i, rfl, hi, hf⟩ := hrel
      by_cases hlt : i < 2
      · have d0 : decide ((i : Int) < 2) = true := decide_eq_true (by omega)
        have d0n : decide (i < 2) = true := decide_eq_true hlt
        have e5 : IntKind.i64.wrap ((i : Int) + 1) = (i : Int) + 1 := IntWalk.i64_in _ (by omega)
        have b1 : (0 : Int) ≤ (i : Int) := by omega
        have b2 : (i : Int) < 2 := by omega
        obtain ⟨t, hc, ht⟩ := HE.out i hlt
        have y0 : wr.cell? ⟨q5, i, none⟩ = some (.int .i64 t) := by
          rw [cellsK_at ((hf.out.block q5 (Array.getElem?_eq_some_iff.1 HR9.out).1 id).trans HR9.out)]
          exact hc
        have HEn := Lib.hid (Ends_any t wr)
        rw [ht] at HEn
        simp only [keyV, zeroK] at HEn
        have Hi := Lib.hid hlt
        clear hlt hi hc ht
        go_wp2_with fail
        refine HEn.out.mono ?_
        rintro e v1 ⟨rfl, hf2⟩
        have F6 := Lib.hid ((hf.out.trans hf2).alloc (.cells #[.int .i64 0, .int .i64 0, .int .i64 0] 28) |>.alloc (.cells #[.int .i64 0, .int .i64 0, .int .i64 0] 28))
        have d1 : sameK ⟨0, 0, 0⟩ ⟨0, 0, 0⟩ = true := rfl
        clear hf2 hf y0
        go_wp2_with fail
        exact ⟨⟨i + 1, by simp, by have := Hi.out; omega, F6⟩, by simp [Go.RowKit.intOf]; have := Hi.out; omega⟩
      · obtain rfl : i = 2 := by omega
        rw [show ((2 : Nat) : Int) = (2 : Int) from rfl]
        have F3 := Lib.hid (F3.out.trans hf.out)
        have KX := Lib.hid (KX.out.fr0 (S := none') hf.out (fun h => h))
        have y0 := KX.out.cell (i := 0) (by omega)
        have y1 := KX.out.cell (i := 1) (by omega)
        have y2 := KX.out.cell (i := 2) (by omega)
        simp [nth3] at y0 y1 y2
        have HBy := Lib.hid (Bytes_any k Hx.out)
        have HTx := Lib.hid (Text_any k Hx.out)
        simp only [keyV] at HBy HTx
        clear hlt hi hf
        go_wp2_with fail
        refine (HBy.out _).mono ?_
        rintro e wA ⟨v1, rfl, hr, hf⟩
        have F3 := Lib.hid (F3.out.trans hf)
        have KX := Lib.hid (KX.out.fr0 (S := none') hf (fun h => h))
        obtain ⟨g1, c1, rfl⟩ := Joins.ownsRow_form hr (by omega)
        have hcap := row_caps hr
        have P1 := Lib.hid (BsIn.of_row hr)
        clear hf hr y0 y1 y2
        have y0 := KX.out.cell (i := 0) (by omega)
        have y1 := KX.out.cell (i := 1) (by omega)
        have y2 := KX.out.cell (i := 2) (by omega)
        simp [nth3] at y0 y1 y2
        go_wp2_with fail
        refine (HTx.out _ (HL.out.later F3.out)).mono ?_
        rintro e wB ⟨rfl, hf⟩
        have F3 := Lib.hid (F3.out.trans hf)
        have P1 := Lib.hid (P1.out.later hf)
        clear hf y0 y1 y2 KX
        obtain ⟨cq, hcq⟩ : ∃ c, cut % 12 = c := ⟨_, rfl⟩
        have hc12 : cq < 12 := by rw [← hcq]; exact Nat.mod_lt _ (by omega)
        have z0 : IntKind.i64.wrap (cut : Int) = (cut : Int) := IntWalk.i64_in _ (by omega)
        have z1 : (cut : Int).tmod 12 = (cq : Int) := by rw [Int.tmod_eq_emod_of_nonneg (by omega), ← hcq]; push_cast; rfl
        have z2 : (cut : Int) % 12 = (cq : Int) := by rw [← hcq]; push_cast; rfl
        have z3 : IntKind.i64.wrap (cq : Int) = (cq : Int) := IntWalk.i64_in _ (by omega)
        have b1 : (0 : Int) ≤ (cq : Int) := by omega
        have b2 : (cq : Int) ≤ (12 : Int) := by omega
        have b3 : (cq : Int) ≤ (c1 : Int) := by have := hcap.1; omega
        have hne : (textK k).isEmpty = false := by
          obtain ⟨c, r, h, _⟩ := textK_head k
          rw [h]; rfl
        clear hcq
        go_wp2_with fail
        clear hne z0 z1 z2 z3
        have HRd := Lib.hid (Read_any (some ⟨g1, 0, none⟩) cq c1 (((bytesK k).drop 0).take cq) (by rw [List.length_take, List.length_drop, bytesK_length]; omega) (by have := hcap.1; omega) hcap.2 wB (by have := P1.out.sub 0 cq; simpa using this))
        rw [readV_len (by rw [List.length_take, List.length_drop, bytesK_length]; omega)] at HRd
        refine HRd.out.mono ?_
        rintro e wC ⟨rfl, hf⟩
        have F3 := Lib.hid (F3.out.trans hf)
        have P1 := Lib.hid (P1.out.later hf)
        have b4 : (cq : Int) < (12 : Int) := by omega
        clear hf HRd b2 b3
        obtain ⟨xb, hxb⟩ : ∃ x, (bytesK k)[cq]? = some x := ⟨_, List.getElem?_eq_getElem (by rw [bytesK_length]; exact hc12)⟩
        have HCell := Lib.hid (fun (W' : World) (h : Fr0 none' wC W') => show W'.cell? ⟨g1, cq, none⟩ = some (.int .u8 xb.toNat) from by
          obtain ⟨g, o, e, hc⟩ := P1.out.later h cq xb hxb
          cases e
          rw [Nat.zero_add] at hc
          exact hc)
        have HCl := Lib.hid (fun (W : World) (hf : Fr0 none' wC W) => Clone_row8 (cap := c1) (P1.out.later hf) (bytesK_length k) (by omega))
        clear hxb
        go_wp2_with fail
        refine viaT (T := Nat → Value) (fun us W => Fr0 none' wC W) (fun us => [(183, us 0), (184, us 1), (185, us 2), (186, us 3), (187, us 4), (188, us 5), (189, us 6), (190, us 7), (191, us 8), (182, us 9), (192, us 10), (193, us 11), (14, .int .i64 71)]) (fun us W hF => ?_) (fun hT => ?_)
        · simp only [List.foldl, Act.put, List.setIfInBounds_toArray, List.set_cons_zero, List.set_cons_succ]
          have F3 := Lib.hid (F3.out.trans hF)
          clear hF HCl HCell P1 hc12 b1 b4
          obtain ⟨sK, hsK⟩ : ∃ s : ByteArray, (⟨(textK k).toArray⟩ : ByteArray) = s := ⟨_, rfl⟩
          have hsz : sK.size ≤ 40 := by rw [← hsK]; show (textK k).toArray.size ≤ 40; rw [List.size_toArray]; exact textK_length Hx.out
          have hsd : sK.data.toList = textK k := by rw [← hsK]
          have Hsd := Lib.hid hsd
          rw [hsK]
          clear hsK hsd
          go_wp2_with fail
          obtain ⟨mm, hmm⟩ := HM.out
          have hct : Lib.countB sK ⟨#[64]⟩ = 1 := by show Lib.count sK.data.toList [64] = 1; rw [Hsd.out]; exact count_at k
          refine (Tryz.strings_Replace sK ⟨#[64]⟩ ⟨#[35]⟩ 1 mm _ (by omega) (F3.out.later hmm) (by decide) (by rw [hct]; show sK.size + 1 * 1 ≤ _; omega)).mono ?_
          rintro e X1 ⟨rfl, hb⟩
          have F3 := Lib.hid (F3.out.trans (below_to0 hb))
          clear hb hct hmm
          obtain ⟨r1, hr1⟩ : ∃ s : ByteArray, (⟨(Lib.replace sK.data.toList [64] [35] 1).toArray⟩ : ByteArray) = s := ⟨_, rfl⟩
          have R1 := Lib.hid (show r1.data.toList = Lib.replace (textK k) [64] [35] 1 by rw [← hr1, ← Hsd.out])
          try simp only [] at hr1
          rw [show (⟨(Lib.replace sK.data.toList (⟨#[64]⟩ : ByteArray).data.toList (⟨#[35]⟩ : ByteArray).data.toList 1).toArray⟩ : ByteArray) = r1 from hr1]
          clear hr1
          go_wp2_with fail
          obtain ⟨mm, hmm⟩ := HM.out
          have hct : Lib.countB sK ⟨#[35]⟩ = 1 := by show Lib.count sK.data.toList [35] = 1; rw [Hsd.out]; exact count_hash k
          refine (Tryz.strings_Replace sK ⟨#[35]⟩ ⟨#[64]⟩ 1 mm _ (by omega) (F3.out.later hmm) (by decide) (by rw [hct]; show sK.size + 1 * 1 ≤ _; omega)).mono ?_
          rintro e X2 ⟨rfl, hb⟩
          have F3 := Lib.hid (F3.out.trans (below_to0 hb))
          clear hb hct hmm
          obtain ⟨r2, hr2⟩ : ∃ s : ByteArray, (⟨(Lib.replace sK.data.toList [35] [64] 1).toArray⟩ : ByteArray) = s := ⟨_, rfl⟩
          have R2 := Lib.hid (show r2.data.toList = Lib.replace (textK k) [35] [64] 1 by rw [← hr2, ← Hsd.out])
          rw [show (⟨(Lib.replace sK.data.toList (⟨#[35]⟩ : ByteArray).data.toList (⟨#[64]⟩ : ByteArray).data.toList 1).toArray⟩ : ByteArray) = r2 from hr2]
          clear hr2
          go_wp2_with fail
          obtain ⟨mm, hmm⟩ := HM.out
          have hct : Lib.countB sK ⟨#[35]⟩ = 1 := by show Lib.count sK.data.toList [35] = 1; rw [Hsd.out]; exact count_hash k
          refine (Tryz.strings_Replace sK ⟨#[35]⟩ ⟨#[35, 48]⟩ 1 mm _ (by omega) (F3.out.later hmm) (by decide) (by rw [hct]; show sK.size + 1 * 2 ≤ _; omega)).mono ?_
          rintro e X3 ⟨rfl, hb⟩
          have F3 := Lib.hid (F3.out.trans (below_to0 hb))
          clear hb hct hmm
          obtain ⟨r3, hr3⟩ : ∃ s : ByteArray, (⟨(Lib.replace sK.data.toList [35] [35, 48] 1).toArray⟩ : ByteArray) = s := ⟨_, rfl⟩
          have R3 := Lib.hid (show r3.data.toList = Lib.replace (textK k) [35] [35, 48] 1 by rw [← hr3, ← Hsd.out])
          have h3z : r3.size ≤ 41 := by
            have h1 := rep_zero k
            have h2 := textK_hash k
            have h3 : r3.data.toList.length = (textK k).length + 1 := by rw [R3.out, h1, h2]; simp; omega
            have h4 : r3.data.toList.length = r3.size := Array.length_toList
            have h5 := textK_length Hx.out
            omega
          rw [show (⟨(Lib.replace sK.data.toList (⟨#[35]⟩ : ByteArray).data.toList (⟨#[35, 48]⟩ : ByteArray).data.toList 1).toArray⟩ : ByteArray) = r3 from hr3]
          clear hr3
          go_wp2_with fail
          obtain ⟨sH, hsH⟩ : ∃ s : ByteArray, sK ++ ⟨#[35]⟩ = s := ⟨_, rfl⟩
          have hix : Lib.indexByte sH.data.toList 35 = ((headK k).length : Int) := by
            rw [← hsH, ba_append, Hsd.out]
            exact index_hash k
          rw [hsH]
          clear hsH
          refine (Tryz.strings_IndexByte sH 35 _).mono ?_
          rintro e X4 ⟨rfl, hx4⟩
          rw [show (35 : Int).toNat.toUInt8 = 35 from rfl, hix]
          subst hx4
          obtain ⟨hh, hhh⟩ : ∃ h, (headK k).length = h := ⟨_, rfl⟩
          have hhs : hh ≤ sK.size := by
            have h1 := headK_le k
            have h2 : sK.data.toList.length = sK.size := Array.length_toList
            rw [Hsd.out] at h2
            omega
          rw [hhh]
          have b1 : (0 : Int) ≤ (hh : Int) := by omega
          have b2 : (hh : Int) ≤ (sK.size : Int) := by omega
          have Hhh := Lib.hid hhh
          clear hix hhh
          go_wp2_with fail
          clear b1 b2
          obtain ⟨C, hC⟩ : ∃ C : Array Value, #[.string (⟨#[48]⟩ ++ sK), .string (sK ++ ⟨#[32]⟩), .string (⟨#[32]⟩ ++ sK), .string (⟨#[45]⟩ ++ sK), .string (sK ++ ⟨#[35, 48]⟩), .string r1, .string r2, .string (r3 ++ ⟨#[48]⟩), .string (sK.extract 0 hh)] = C := ⟨_, rfl⟩
          have HP := Lib.hid (no_texts (k := k) hsz Hsd.out R1.out R2.out R3.out h3z Hhh.out hC)
          rw [hC]
          obtain ⟨Y, hY⟩ : ∃ X, X4.heap.size = X := ⟨_, rfl⟩
          obtain ⟨V5, hV5⟩ : ∃ W, X4.alloc (.cells C 9) = W := ⟨_, rfl⟩
          have HY := Lib.hid (show V5.heap[Y]? = some (.cells C 9 (0, 0)) by rw [← hV5, ← hY]; exact World.alloc_heap_new X4 _)
          have F5 := Lib.hid (show Fr0 none' w V5 by rw [← hV5]; exact F3.out.alloc _)
          rw [hV5]
          try rw [hY]
          clear hV5 hY hC h3z hhs hsz
          go_loopw [26, 27, 28, 224] (fun _ _ _ c wr => ∃ i : Nat, c = .int .i64 i ∧ i ≤ 9 ∧ Hid (Fr0 none' V5 wr)) (fun _ _ _ c _ => 9 - (Go.RowKit.intOf c).toNat)
          case atStart => exact ⟨0, rfl, Nat.zero_le _, Fr0.refl _ _⟩
          case round =>
            obtain ⟨i, rfl, hi, hf⟩ := hrel
            by_cases hlt : i < 9
            · have d0 : decide ((i : Int) < 9) = true := decide_eq_true (by omega)
              have d0n : decide (i < 9) = true := decide_eq_true hlt
              have e5 : IntKind.i64.wrap ((i : Int) + 1) = (i : Int) + 1 := IntWalk.i64_in _ (by omega)
              have b1 : (0 : Int) ≤ (i : Int) := by omega
              have b2 : (i : Int) < 9 := by omega
              obtain ⟨u, hc, husz, hun⟩ := HP.out i hlt
              have y0 : wr.cell? ⟨Y, i, none⟩ = some (.string u) := by
                rw [cellsK_at ((hf.out.block Y (Array.getElem?_eq_some_iff.1 HY.out).1 id).trans HY.out)]
                exact hc
              have HPa := Lib.hid (Parse_any u husz wr (HL.out.later (F5.out.trans hf.out)))
              rw [parseV_no hun] at HPa
              have Hi := Lib.hid hlt
              clear hlt hi hc husz hun
              go_wp2_with fail
              refine HPa.out.mono ?_
              rintro e v1 ⟨rfl, hf2⟩
              have F6 := Lib.hid ((hf.out.trans hf2).alloc (.cells #[.int .i64 0, .int .i64 0, .int .i64 0] 28))
              have d1 : sameK ⟨0, 0, 0⟩ ⟨0, 0, 0⟩ = true := rfl
              clear hf2 hf y0
              go_wp2_with fail
              exact ⟨⟨i + 1, by simp, by have := Hi.out; omega, F6⟩, by simp [Go.RowKit.intOf]; have := Hi.out; omega⟩
            · obtain rfl : i = 9 := by omega
              rw [show ((9 : Nat) : Int) = (9 : Int) from rfl]
              have FE := Lib.hid (F5.out.trans hf.out)
              clear hlt hi hf
              go_wp2_with fail
              go_ret
              exact ⟨rfl, FE.out⟩
        simp only [List.foldl, Act.put, List.setIfInBounds_toArray, List.set_cons_zero, List.set_cons_succ] at hT
        have HT := Lib.hid hT
        clear hT
        refine wp_region_held_drew (S := fun W' => Fr0 none' wC W') (by kernel_rfl) ((Fr0.refl none' wC).drew) (fun hHeld => ?_)
        refine take_on (i := 0) (v := .slice (some ⟨g1, 0, none⟩) 12 c1) rfl (by kernel_rfl) (by kernel_rfl) (by kernel_rfl) (fun _ _ _ h => h) (by kernel_rfl) (fun W' hSW => ?_) (by assumption) ?_
        · clear hSW
          first | (go_simp; done) | exact rfl | (go_simp; rfl) | (go_simp; omega)
        try simp only [Act.put, List.setIfInBounds_toArray, List.set_cons_zero, List.set_cons_succ]
        refine take_on (i := 2) (v := .slice (some ⟨g1, 0, none⟩) 12 c1) rfl (by kernel_rfl) (by kernel_rfl) (by kernel_rfl) (fun _ _ _ h => h) (by kernel_rfl) (fun W' hSW => ?_) (by assumption) ?_
        · clear hSW
          first | (go_simp; done) | exact rfl | (go_simp; rfl) | (go_simp; omega)
        try simp only [Act.put, List.setIfInBounds_toArray, List.set_cons_zero, List.set_cons_succ]
        refine take_on (i := 3) (v := .int .i64 (cq : Int)) rfl (by kernel_rfl) (by kernel_rfl) (by kernel_rfl) (fun _ _ _ h => h) (by kernel_rfl) (fun W' hSW => ?_) (by assumption) ?_
        · clear hSW
          first | (go_simp; done) | exact rfl | (go_simp; rfl) | (go_simp; omega)
        try simp only [Act.put, List.setIfInBounds_toArray, List.set_cons_zero, List.set_cons_succ]
        refine take_on (i := 4) (v := .pointer (some ⟨g1, cq, none⟩)) rfl (by kernel_rfl) (by kernel_rfl) (by kernel_rfl) (fun _ _ _ h => h) (by kernel_rfl) (fun W' hSW => ?_) (by assumption) ?_
        · clear hSW
          first | (go_simp; done) | exact rfl | (go_simp; rfl) | (go_simp; omega)
        try simp only [Act.put, List.setIfInBounds_toArray, List.set_cons_zero, List.set_cons_succ]
        refine take_on (i := 5) (v := .int .u8 xb.toNat) rfl (by kernel_rfl) (by kernel_rfl) (by kernel_rfl) (fun _ _ _ h => h) (by kernel_rfl) (fun W' hSW => ?_) (by assumption) ?_
        · have y9 := HCell.out W' hSW
          clear hSW
          first | (go_simp; done) | exact rfl | (go_simp; rfl) | (go_simp; omega)
        try simp only [Act.put, List.setIfInBounds_toArray, List.set_cons_zero, List.set_cons_succ]
        refine wpAnyH_ready (rs := [1, 6]) (by kernel_rfl) (by simp) (AllReadyH.cons (op_at rfl) (fun K hK => ?_) (AllReadyH.cons (op_at rfl) (fun K hK => ?_) AllReadyH.nil))
        · rw [if_pos (by kernel_rfl)]
          go_simp
          refine (HCl.out _ hHeld).mono ?_
          rintro e w9 ⟨vC, rfl, hr, hf⟩
          have RC := Lib.hid (ownsRow_k_mono hr hHeld.size)
          have G := Lib.hid (hHeld.trans hf)
          try have LI := Lib.hid (LI.out.later hf)
          clear hr hf hHeld
          go_wp2_with fail
          refine hK.out _ _ G.out (fun hHeld => ?_)
          clear hK K
          try simp only [Act.put, List.setIfInBounds_toArray, List.set_cons_zero, List.set_cons_succ]
          refine take_call (i := 6) rfl (by kernel_rfl) (by kernel_rfl) (fun K hK => ?_)
          go_simp
          obtain ⟨lb, hlb⟩ : ∃ q, w9.heap.size = q := ⟨_, rfl⟩
          obtain ⟨w10, hW⟩ : ∃ W, (w9.alloc (.cells #[.int .u8 xb.toNat] 5)) = W := ⟨_, rfl⟩
          have fL : Fr0 none' w9 w10 := by rw [← hW]; exact ((Fr0.refl _ _).alloc _)
          have LI := Lib.hid (show BsIn w10 (some ⟨lb, 0, none⟩) [xb] by rw [← hW, ← hlb]; exact bsin_lit' (World.alloc_heap_new w9 _) _ rfl)
          have G := Lib.hid (hHeld.trans fL)
          try have RC := Lib.hid (ownsRow_q_fr RC.out fL (fun _ _ h => h))
          rw [hW]
          try rw [hlb]
          clear hW hlb fL hHeld
          refine hK.out _ _ G.out (fun hHeld => ?_)
          clear hK K
          try simp only [Act.put, List.setIfInBounds_toArray, List.set_cons_zero, List.set_cons_succ]
          refine take_call (i := 7) rfl (by kernel_rfl) (by kernel_rfl) (fun K hK => ?_)
          have hsrc := Lib.hid (show Src Tryz.prog 1 30 (.slice (some ⟨lb, 0, none⟩) 1 1) 1 (Lib.byteCells [xb]) w10 from Src.ofSlice _ Tryz.underlying30 ⟨lb, 0, none⟩ 1 1 (Lib.byteCells [xb]) (by rw [Lib.byteCells_length]; rfl) (LI.out.cells) (fun u hu => by obtain ⟨x, _, rfl⟩ := List.mem_map.1 hu; rfl))
          refine wp_app_q _ _ 30 30 rfl wC.heap.size 5 ib (.int .u8 0) 1 1 Tryz.underlying30 hib hb0 hb1 hb2 rfl (by decide) vC 12 _ rfl RC.out (.slice (some ⟨lb, 0, none⟩) 1 1) 1 _ rfl hsrc.out (by unfold maxLen; omega) (by omega) G.out.size ?_
          intro v9 V9 hown hgr _ _
          have hRC := RC.out.lt
          have G := Lib.hid (G.out.grown hgr (fun k hk hlt => by have := (hRC k hk).1; omega))
          have hr9 : V9.ownsRow wC.heap.size 5 1 v9 13 (Lib.byteCells (bytesK k ++ [xb])) := by rw [show Lib.byteCells (bytesK k ++ [xb]) = Lib.byteCells (bytesK k) ++ Lib.byteCells [xb] from by simp [Lib.byteCells]]; exact hown
          obtain ⟨g9, c9, rfl⟩ := Joins.ownsRow_form hr9 (by omega)
          have hcap9 := row_caps hr9
          have P9 := Lib.hid (BsIn.of_row hr9)
          clear hown hgr hRC hsrc hr9
          refine hK.out _ _ G.out (fun hHeld => ?_)
          clear hK K
          try simp only [Act.put, List.setIfInBounds_toArray, List.set_cons_zero, List.set_cons_succ]
          refine take_call (i := 8) rfl (by kernel_rfl) (by kernel_rfl) (fun K hK => ?_)
          go_simp
          have HRd := Lib.hid (Read_any (some ⟨g9, 0, none⟩) 13 c9 (bytesK k ++ [xb]) (by rw [List.length_append, bytesK_length]; rfl) hcap9.1 hcap9.2 V9 P9.out)
          rw [readV_len (by rw [List.length_append, bytesK_length]; simp)] at HRd
          refine HRd.out.mono ?_
          rintro e V10 ⟨rfl, hf⟩
          have G := Lib.hid (G.out.trans hf)
          clear hf hHeld HRd
          go_wp2_with fail
          refine hK.out _ _ G.out (fun hHeld => ?_)
          clear hK K
          try simp only [Act.put, List.setIfInBounds_toArray, List.set_cons_zero, List.set_cons_succ]
          refine take_on (i := 9) (v := .tuple #[.agg #[.int .i64 0, .int .i64 0, .int .i64 0], .int .i64 71]) rfl (by kernel_rfl) (by kernel_rfl) (by kernel_rfl) (fun _ _ _ h => h) (by kernel_rfl) (fun W' hSW => ?_) (by assumption) ?_
          · clear hSW
            first | (go_simp; done) | exact rfl | (go_simp; rfl) | (go_simp; omega)
          try simp only [Act.put, List.setIfInBounds_toArray, List.set_cons_zero, List.set_cons_succ]
          refine take_on (i := 10) (v := .agg #[.int .i64 0, .int .i64 0, .int .i64 0]) rfl (by kernel_rfl) (by kernel_rfl) (by kernel_rfl) (fun _ _ _ h => h) (by kernel_rfl) (fun W' hSW => ?_) (by assumption) ?_
          · clear hSW
            first | (go_simp; done) | exact rfl | (go_simp; rfl) | (go_simp; omega)
          try simp only [Act.put, List.setIfInBounds_toArray, List.set_cons_zero, List.set_cons_succ]
          refine take_on (i := 11) (v := .int .i64 71) rfl (by kernel_rfl) (by kernel_rfl) (by kernel_rfl) (fun _ _ _ h => h) (by kernel_rfl) (fun W' hSW => ?_) (by assumption) ?_
          · clear hSW
            first | (go_simp; done) | exact rfl | (go_simp; rfl) | (go_simp; omega)
          try simp only [Act.put, List.setIfInBounds_toArray, List.set_cons_zero, List.set_cons_succ]
          refine take_on (i := 12) (v := .int .i64 71) rfl (by kernel_rfl) (by kernel_rfl) (by kernel_rfl) (fun _ _ _ h => h) (by kernel_rfl) (fun W' hSW => ?_) (by assumption) ?_
          · clear hSW
            first | (go_simp; done) | exact rfl | (go_simp; rfl) | (go_simp; omega)
          try simp only [Act.put, List.setIfInBounds_toArray, List.set_cons_zero, List.set_cons_succ]
          refine wpAnyH_done (by kernel_rfl) ?_ _
          exact HT.out (fun n => ([.slice (some ⟨g1, 0, none⟩) 12 c1, vC, .slice (some ⟨g1, 0, none⟩) 12 c1, .int .i64 (cq : Int), .pointer (some ⟨g1, cq, none⟩), .int .u8 xb.toNat, .slice (some ⟨lb, 0, none⟩) 1 1, .slice (some ⟨g9, 0, none⟩) 13 c9, .tuple #[.agg #[.int .i64 0, .int .i64 0, .int .i64 0], .int .i64 71], .tuple #[.agg #[.int .i64 0, .int .i64 0, .int .i64 0], .int .i64 71], .agg #[.int .i64 0, .int .i64 0, .int .i64 0], .int .i64 71] : List Value).getD n undef) V10 hHeld
        · rw [if_pos (by kernel_rfl)]
          go_simp
          clear hHeld
          have hHeld : Fr0 none' wC wC := Fr0.refl _ _
          obtain ⟨lb, hlb⟩ : ∃ q, wC.heap.size = q := ⟨_, rfl⟩
          obtain ⟨w9, hW⟩ : ∃ W, (wC.alloc (.cells #[.int .u8 xb.toNat] 5)).drew = W := ⟨_, rfl⟩
          have fL : Fr0 none' wC w9 := by rw [← hW]; exact ((Fr0.refl _ _).alloc _).drew
          have LI := Lib.hid (show BsIn w9 (some ⟨lb, 0, none⟩) [xb] by rw [← hW, ← hlb]; exact bsin_lit' (World.alloc_heap_new wC _) _ rfl)
          have G := Lib.hid (hHeld.trans fL)
          try have RC := Lib.hid (ownsRow_q_fr RC.out fL (fun _ _ h => h))
          rw [hW]
          try rw [hlb]
          clear hW hlb fL hHeld
          refine hK.out _ _ G.out (fun hHeld => ?_)
          clear hK K
          try simp only [Act.put, List.setIfInBounds_toArray, List.set_cons_zero, List.set_cons_succ]
          refine take_call (i := 1) rfl (by kernel_rfl) (by kernel_rfl) (fun K hK => ?_)
          go_simp
          refine (HCl.out _ hHeld).mono ?_
          rintro e w10 ⟨vC, rfl, hr, hf⟩
          have RC := Lib.hid (ownsRow_k_mono hr hHeld.size)
          have G := Lib.hid (hHeld.trans hf)
          try have LI := Lib.hid (LI.out.later hf)
          clear hr hf hHeld
          go_wp2_with fail
          refine hK.out _ _ G.out (fun hHeld => ?_)
          clear hK K
          try simp only [Act.put, List.setIfInBounds_toArray, List.set_cons_zero, List.set_cons_succ]
          refine take_call (i := 7) rfl (by kernel_rfl) (by kernel_rfl) (fun K hK => ?_)
          have hsrc := Lib.hid (show Src Tryz.prog 1 30 (.slice (some ⟨lb, 0, none⟩) 1 1) 1 (Lib.byteCells [xb]) w10 from Src.ofSlice _ Tryz.underlying30 ⟨lb, 0, none⟩ 1 1 (Lib.byteCells [xb]) (by rw [Lib.byteCells_length]; rfl) (LI.out.cells) (fun u hu => by obtain ⟨x, _, rfl⟩ := List.mem_map.1 hu; rfl))
          refine wp_app_q _ _ 30 30 rfl wC.heap.size 5 ib (.int .u8 0) 1 1 Tryz.underlying30 hib hb0 hb1 hb2 rfl (by decide) vC 12 _ rfl RC.out (.slice (some ⟨lb, 0, none⟩) 1 1) 1 _ rfl hsrc.out (by unfold maxLen; omega) (by omega) G.out.size ?_
          intro v9 V9 hown hgr _ _
          have hRC := RC.out.lt
          have G := Lib.hid (G.out.grown hgr (fun k hk hlt => by have := (hRC k hk).1; omega))
          have hr9 : V9.ownsRow wC.heap.size 5 1 v9 13 (Lib.byteCells (bytesK k ++ [xb])) := by rw [show Lib.byteCells (bytesK k ++ [xb]) = Lib.byteCells (bytesK k) ++ Lib.byteCells [xb] from by simp [Lib.byteCells]]; exact hown
          obtain ⟨g9, c9, rfl⟩ := Joins.ownsRow_form hr9 (by omega)
          have hcap9 := row_caps hr9
          have P9 := Lib.hid (BsIn.of_row hr9)
          clear hown hgr hRC hsrc hr9
          refine hK.out _ _ G.out (fun hHeld => ?_)
          clear hK K
          try simp only [Act.put, List.setIfInBounds_toArray, List.set_cons_zero, List.set_cons_succ]
          refine take_call (i := 8) rfl (by kernel_rfl) (by kernel_rfl) (fun K hK => ?_)
          go_simp
          have HRd := Lib.hid (Read_any (some ⟨g9, 0, none⟩) 13 c9 (bytesK k ++ [xb]) (by rw [List.length_append, bytesK_length]; rfl) hcap9.1 hcap9.2 V9 P9.out)
          rw [readV_len (by rw [List.length_append, bytesK_length]; simp)] at HRd
          refine HRd.out.mono ?_
          rintro e V10 ⟨rfl, hf⟩
          have G := Lib.hid (G.out.trans hf)
          clear hf hHeld HRd
          go_wp2_with fail
          refine hK.out _ _ G.out (fun hHeld => ?_)
          clear hK K
          try simp only [Act.put, List.setIfInBounds_toArray, List.set_cons_zero, List.set_cons_succ]
          refine take_on (i := 9) (v := .tuple #[.agg #[.int .i64 0, .int .i64 0, .int .i64 0], .int .i64 71]) rfl (by kernel_rfl) (by kernel_rfl) (by kernel_rfl) (fun _ _ _ h => h) (by kernel_rfl) (fun W' hSW => ?_) (by assumption) ?_
          · clear hSW
            first | (go_simp; done) | exact rfl | (go_simp; rfl) | (go_simp; omega)
          try simp only [Act.put, List.setIfInBounds_toArray, List.set_cons_zero, List.set_cons_succ]
          refine take_on (i := 10) (v := .agg #[.int .i64 0, .int .i64 0, .int .i64 0]) rfl (by kernel_rfl) (by kernel_rfl) (by kernel_rfl) (fun _ _ _ h => h) (by kernel_rfl) (fun W' hSW => ?_) (by assumption) ?_
          · clear hSW
            first | (go_simp; done) | exact rfl | (go_simp; rfl) | (go_simp; omega)
          try simp only [Act.put, List.setIfInBounds_toArray, List.set_cons_zero, List.set_cons_succ]
          refine take_on (i := 11) (v := .int .i64 71) rfl (by kernel_rfl) (by kernel_rfl) (by kernel_rfl) (fun _ _ _ h => h) (by kernel_rfl) (fun W' hSW => ?_) (by assumption) ?_
          · clear hSW
            first | (go_simp; done) | exact rfl | (go_simp; rfl) | (go_simp; omega)
          try simp only [Act.put, List.setIfInBounds_toArray, List.set_cons_zero, List.set_cons_succ]
          refine take_on (i := 12) (v := .int .i64 71) rfl (by kernel_rfl) (by kernel_rfl) (by kernel_rfl) (fun _ _ _ h => h) (by kernel_rfl) (fun W' hSW => ?_) (by assumption) ?_
          · clear hSW
            first | (go_simp; done) | exact rfl | (go_simp; rfl) | (go_simp; omega)
          try simp only [Act.put, List.setIfInBounds_toArray, List.set_cons_zero, List.set_cons_succ]
          refine wpAnyH_done (by kernel_rfl) ?_ _
          exact HT.out (fun n => ([.slice (some ⟨g1, 0, none⟩) 12 c1, vC, .slice (some ⟨g1, 0, none⟩) 12 c1, .int .i64 (cq : Int), .pointer (some ⟨g1, cq, none⟩), .int .u8 xb.toNat, .slice (some ⟨lb, 0, none⟩) 1 1, .slice (some ⟨g9, 0, none⟩) 13 c9, .tuple #[.agg #[.int .i64 0, .int .i64 0, .int .i64 0], .int .i64 71], .tuple #[.agg #[.int .i64 0, .int .i64 0, .int .i64 0], .int .i64 71], .agg #[.int .i64 0, .int .i64 0, .int .i64 0], .int .i64 71] : List Value).getD n undef) V10 hHeld
  · skip
    have hw : ((way : Int) % 6) = 1 := by omega
    obtain ⟨z, hz⟩ : ∃ z, max n 281474976710657 = z := ⟨_, rfl⟩
    have hbad : ¬ RightK ⟨z, k.source, k.seq⟩ := by have := Hx.out; unfold RightK at this ⊢; simp only; omega
    have Hbad := Lib.hid hbad
    clear hbad hways
    go_wp2_with fail
    clear hw
    try rw [hz]
    clear hz
    obtain ⟨q1, hq1⟩ : ∃ q, w2.heap.size = q := ⟨_, rfl⟩
    rw [hq1]
    obtain ⟨W3, hW3⟩ : ∃ W, (w2.alloc (.cells #[.int .i64 k.time, .int .i64 k.source, .int .i64 k.seq] 28)).alloc (.cells #[.int .i64 (z), .int .i64 (k.source), .int .i64 (k.seq)] 28) = W := ⟨_, rfl⟩
    have hs1 : (w2.alloc (.cells #[.int .i64 k.time, .int .i64 k.source, .int .i64 k.seq] 28)).heap.size = q1 + 1 := by rw [← hq1]; simp
    have KX := Lib.hid (show KeyAt W3 q1 k by
      rw [← hW3]
      unfold KeyAt
      rw [Below.heap_alloc _ _ _ (by rw [hs1]; omega), ← hq1]
      exact World.alloc_heap_new w2 _)
    have KB := Lib.hid (show KeyAt W3 (q1 + 1) ⟨z, k.source, k.seq⟩ by rw [← hW3, ← hs1]; exact World.alloc_heap_new _ _)
    have F3 := Lib.hid (show Fr0 none' w W3 by rw [← hW3]; exact (F2.out.alloc _).alloc _)
    rw [hW3]
    clear hW3 hs1 hq1
    obtain ⟨q2, hq2⟩ : ∃ q, q1 + 1 = q := ⟨_, rfl⟩
    rw [hq2] at KB ⊢
    clear hq2
    have HB1 := Lib.hid (Bytes_wrong ⟨z, k.source, k.seq⟩ Hbad.out)
    have HB2 := Lib.hid (Text_wrong ⟨z, k.source, k.seq⟩ Hbad.out)
    have HB3 := Lib.hid (Next_wrong ⟨z, k.source, k.seq⟩ Hbad.out)
    have HB4 := Lib.hid (Back_wrong ⟨z, k.source, k.seq⟩ Hbad.out)
    simp only [keyV, zeroK] at HB1 HB2 HB3 HB4
    refine (HB1.out _).mono ?_
    rintro e w4 ⟨rfl, hf⟩
    have F3 := Lib.hid (F3.out.trans hf)
    have KX := Lib.hid (KX.out.fr0 (S := none') hf (fun h => h))
    have KB := Lib.hid (KB.out.fr0 (S := none') hf (fun h => h))
    try clear y0 y1 y2
    have y0 := KB.out.cell (i := 0) (by omega)
    have y1 := KB.out.cell (i := 1) (by omega)
    have y2 := KB.out.cell (i := 2) (by omega)
    simp [nth3] at y0 y1 y2
    clear hf
    go_wp2_with fail
    refine (HB2.out _).mono ?_
    rintro e w5 ⟨rfl, hf⟩
    have F3 := Lib.hid (F3.out.trans hf)
    have KX := Lib.hid (KX.out.fr0 (S := none') hf (fun h => h))
    have KB := Lib.hid (KB.out.fr0 (S := none') hf (fun h => h))
    try clear y0 y1 y2
    have y0 := KB.out.cell (i := 0) (by omega)
    have y1 := KB.out.cell (i := 1) (by omega)
    have y2 := KB.out.cell (i := 2) (by omega)
    simp [nth3] at y0 y1 y2
    clear hf
    go_wp2_with fail
    refine (HB3.out _).mono ?_
    rintro e w6 ⟨rfl, hf⟩
    have hf := hf.alloc (.cells #[.int .i64 0, .int .i64 0, .int .i64 0] 28)
    have F3 := Lib.hid (F3.out.trans hf)
    have KX := Lib.hid (KX.out.fr0 (S := none') hf (fun h => h))
    have KB := Lib.hid (KB.out.fr0 (S := none') hf (fun h => h))
    try clear y0 y1 y2
    have y0 := KB.out.cell (i := 0) (by omega)
    have y1 := KB.out.cell (i := 1) (by omega)
    have y2 := KB.out.cell (i := 2) (by omega)
    simp [nth3] at y0 y1 y2
    clear hf
    go_wp2_with fail
    obtain ⟨q3, hq3⟩ : ∃ q, w6.heap.size = q := ⟨_, rfl⟩
    obtain ⟨W6, hW6⟩ : ∃ W, w6.alloc (.cells #[.int .i64 0, .int .i64 0, .int .i64 0] 28) = W := ⟨_, rfl⟩
    have K3 := Lib.hid (show KeyAt W6 q3 zeroK by rw [← hW6, ← hq3]; exact World.alloc_heap_new w6 _)
    rw [hW6] at F3 KX KB ⊢
    try rw [hq3]
    clear hW6 hq3 y0 y1 y2
    refine (HB4.out _).mono ?_
    rintro e w7 ⟨rfl, hf⟩
    have hf := hf.alloc (.cells #[.int .i64 0, .int .i64 0, .int .i64 0] 28)
    have F3 := Lib.hid (F3.out.trans hf)
    have KX := Lib.hid (KX.out.fr0 (S := none') hf (fun h => h))
    have KB := Lib.hid (KB.out.fr0 (S := none') hf (fun h => h))
    try clear y0 y1 y2
    have K3 := Lib.hid (K3.out.fr0 (S := none') hf (fun h => h))
    have y0 := KB.out.cell (i := 0) (by omega)
    have y1 := KB.out.cell (i := 1) (by omega)
    have y2 := KB.out.cell (i := 2) (by omega)
    simp [nth3] at y0 y1 y2
    clear hf
    go_wp2_with fail
    clear y0 y1 y2
    obtain ⟨q4, hq4⟩ : ∃ q, w7.heap.size = q := ⟨_, rfl⟩
    obtain ⟨W7, hW7⟩ : ∃ W, w7.alloc (.cells #[.int .i64 0, .int .i64 0, .int .i64 0] 28) = W := ⟨_, rfl⟩
    have K4 := Lib.hid (show KeyAt W7 q4 zeroK by rw [← hW7, ← hq4]; exact World.alloc_heap_new w7 _)
    rw [hW7] at F3 KX KB K3 ⊢
    try rw [hq4]
    clear hW7 hq4
    have HR := Lib.hid (Right_any ⟨z, k.source, k.seq⟩ W7)
    rw [decide_eq_false Hbad.out] at HR
    simp only [keyV] at HR
    refine HR.out.mono ?_
    rintro e w8 ⟨rfl, hf⟩
    have F3 := Lib.hid (F3.out.trans hf)
    have KX := Lib.hid (KX.out.fr0 (S := none') hf (fun h => h))
    have KB := Lib.hid (KB.out.fr0 (S := none') hf (fun h => h))
    try clear y0 y1 y2
    have K3 := Lib.hid (K3.out.fr0 (S := none') hf (fun h => h))
    have K4 := Lib.hid (K4.out.fr0 (S := none') hf (fun h => h))
    have u0 := K3.out.cell (i := 0) (by omega)
    have u1 := K3.out.cell (i := 1) (by omega)
    have u2 := K3.out.cell (i := 2) (by omega)
    have v0 := K4.out.cell (i := 0) (by omega)
    have v1 := K4.out.cell (i := 1) (by omega)
    have v2 := K4.out.cell (i := 2) (by omega)
    simp [nth3, zeroK] at u0 u1 u2 v0 v1 v2
    have d1 : sameK ⟨0, 0, 0⟩ ⟨0, 0, 0⟩ = true := rfl
    clear hf
    go_wp2_with fail
    clear d1 u0 u1 u2 v0 v1 v2
    obtain ⟨t1, ht1⟩ : ∃ t, min n (-1) = t := ⟨_, rfl⟩
    obtain ⟨t2, ht2⟩ : ∃ t, max n 281474976710657 = t := ⟨_, rfl⟩
    rw [ht1, ht2]
    obtain ⟨q5, hq5⟩ : ∃ q, w8.heap.size = q := ⟨_, rfl⟩
    obtain ⟨W9, hW9⟩ : ∃ W, w8.alloc (.cells #[.int .i64 t1, .int .i64 t2] 3) = W := ⟨_, rfl⟩
    have HR9 := Lib.hid (show W9.heap[q5]? = some (.cells #[.int .i64 t1, .int .i64 t2] 3 (0, 0)) by rw [← hW9, ← hq5]; exact World.alloc_heap_new w8 _)
    have hf : Fr0 none' w8 W9 := by rw [← hW9]; exact (Fr0.refl _ _).alloc _
    have F3 := Lib.hid (F3.out.trans hf)
    have KX := Lib.hid (KX.out.fr0 (S := none') hf (fun h => h))
    have HE := Lib.hid (fun (i : Nat) (hi : i < 2) => show ∃ t : Int, #[(.int .i64 t1 : Value), .int .i64 t2][i]? = some (.int .i64 t) ∧ endsV t = (zeroK, zeroK, 2) from by
      match i, hi with
      | 0, _ => exact ⟨t1, rfl, by unfold endsV; rw [if_neg (by omega)]⟩
      | 1, _ => exact ⟨t2, rfl, by unfold endsV; rw [if_neg (by omega)]⟩)
    rw [hW9]
    try rw [hq5]
    clear hW9 hq5 hf ht1 ht2 K3 K4 KB
    go_loopw [20, 21, 22, 23, 126] (fun _ _ _ _ c wr => ∃ i : Nat, c = .int .i64 i ∧ i ≤ 2 ∧ Hid (Fr0 none' W9 wr)) (fun _ _ _ _ c _ => 2 - (Go.RowKit.intOf c).toNat)
    case atStart => exact ⟨0, rfl, Nat.zero_le _, Fr0.refl _ _⟩
    case round =>
      obtain ⟨i, rfl, hi, hf⟩ := hrel
      by_cases hlt : i < 2
      · have d0 : decide ((i : Int) < 2) = true := decide_eq_true (by omega)
        have d0n : decide (i < 2) = true := decide_eq_true hlt
        have e5 : IntKind.i64.wrap ((i : Int) + 1) = (i : Int) + 1 := IntWalk.i64_in _ (by omega)
        have b1 : (0 : Int) ≤ (i : Int) := by omega
        have b2 : (i : Int) < 2 := by omega
        obtain ⟨t, hc, ht⟩ := HE.out i hlt
        have y0 : wr.cell? ⟨q5, i, none⟩ = some (.int .i64 t) := by
          rw [cellsK_at ((hf.out.block q5 (Array.getElem?_eq_some_iff.1 HR9.out).1 id).trans HR9.out)]
          exact hc
        have HEn := Lib.hid (Ends_any t wr)
        rw [ht] at HEn
        simp only [keyV, zeroK] at HEn
        have Hi := Lib.hid hlt
        clear hlt hi hc ht
        go_wp2_with fail
        refine HEn.out.mono ?_
        rintro e v1 ⟨rfl, hf2⟩
        have F6 := Lib.hid ((hf.out.trans hf2).alloc (.cells #[.int .i64 0, .int .i64 0, .int .i64 0] 28) |>.alloc (.cells #[.int .i64 0, .int .i64 0, .int .i64 0] 28))
        have d1 : sameK ⟨0, 0, 0⟩ ⟨0, 0, 0⟩ = true := rfl
        clear hf2 hf y0
        go_wp2_with fail
        exact ⟨⟨i + 1, by simp, by have := Hi.out; omega, F6⟩, by simp [Go.RowKit.intOf]; have := Hi.out; omega⟩
      · obtain rfl : i = 2 := by omega
        rw [show ((2 : Nat) : Int) = (2 : Int) from rfl]
        have F3 := Lib.hid (F3.out.trans hf.out)
        have KX := Lib.hid (KX.out.fr0 (S := none') hf.out (fun h => h))
        have y0 := KX.out.cell (i := 0) (by omega)
        have y1 := KX.out.cell (i := 1) (by omega)
        have y2 := KX.out.cell (i := 2) (by omega)
        simp [nth3] at y0 y1 y2
        have HBy := Lib.hid (Bytes_any k Hx.out)
        have HTx := Lib.hid (Text_any k Hx.out)
        simp only [keyV] at HBy HTx
        clear hlt hi hf
        go_wp2_with fail
        refine (HBy.out _).mono ?_
        rintro e wA ⟨v1, rfl, hr, hf⟩
        have F3 := Lib.hid (F3.out.trans hf)
        have KX := Lib.hid (KX.out.fr0 (S := none') hf (fun h => h))
        obtain ⟨g1, c1, rfl⟩ := Joins.ownsRow_form hr (by omega)
        have hcap := row_caps hr
        have P1 := Lib.hid (BsIn.of_row hr)
        clear hf hr y0 y1 y2
        have y0 := KX.out.cell (i := 0) (by omega)
        have y1 := KX.out.cell (i := 1) (by omega)
        have y2 := KX.out.cell (i := 2) (by omega)
        simp [nth3] at y0 y1 y2
        go_wp2_with fail
        refine (HTx.out _ (HL.out.later F3.out)).mono ?_
        rintro e wB ⟨rfl, hf⟩
        have F3 := Lib.hid (F3.out.trans hf)
        have P1 := Lib.hid (P1.out.later hf)
        clear hf y0 y1 y2 KX
        obtain ⟨cq, hcq⟩ : ∃ c, cut % 12 = c := ⟨_, rfl⟩
        have hc12 : cq < 12 := by rw [← hcq]; exact Nat.mod_lt _ (by omega)
        have z0 : IntKind.i64.wrap (cut : Int) = (cut : Int) := IntWalk.i64_in _ (by omega)
        have z1 : (cut : Int).tmod 12 = (cq : Int) := by rw [Int.tmod_eq_emod_of_nonneg (by omega), ← hcq]; push_cast; rfl
        have z2 : (cut : Int) % 12 = (cq : Int) := by rw [← hcq]; push_cast; rfl
        have z3 : IntKind.i64.wrap (cq : Int) = (cq : Int) := IntWalk.i64_in _ (by omega)
        have b1 : (0 : Int) ≤ (cq : Int) := by omega
        have b2 : (cq : Int) ≤ (12 : Int) := by omega
        have b3 : (cq : Int) ≤ (c1 : Int) := by have := hcap.1; omega
        have hne : (textK k).isEmpty = false := by
          obtain ⟨c, r, h, _⟩ := textK_head k
          rw [h]; rfl
        clear hcq
        go_wp2_with fail
        clear hne z0 z1 z2 z3
        have HRd := Lib.hid (Read_any (some ⟨g1, 0, none⟩) cq c1 (((bytesK k).drop 0).take cq) (by rw [List.length_take, List.length_drop, bytesK_length]; omega) (by have := hcap.1; omega) hcap.2 wB (by have := P1.out.sub 0 cq; simpa using this))
        rw [readV_len (by rw [List.length_take, List.length_drop, bytesK_length]; omega)] at HRd
        refine HRd.out.mono ?_
        rintro e wC ⟨rfl, hf⟩
        have F3 := Lib.hid (F3.out.trans hf)
        have P1 := Lib.hid (P1.out.later hf)
        have b4 : (cq : Int) < (12 : Int) := by omega
        clear hf HRd b2 b3
        obtain ⟨xb, hxb⟩ : ∃ x, (bytesK k)[cq]? = some x := ⟨_, List.getElem?_eq_getElem (by rw [bytesK_length]; exact hc12)⟩
        have HCell := Lib.hid (fun (W' : World) (h : Fr0 none' wC W') => show W'.cell? ⟨g1, cq, none⟩ = some (.int .u8 xb.toNat) from by
          obtain ⟨g, o, e, hc⟩ := P1.out.later h cq xb hxb
          cases e
          rw [Nat.zero_add] at hc
          exact hc)
        have HCl := Lib.hid (fun (W : World) (hf : Fr0 none' wC W) => Clone_row8 (cap := c1) (P1.out.later hf) (bytesK_length k) (by omega))
        clear hxb
        go_wp2_with fail
        refine viaT (T := Nat → Value) (fun us W => Fr0 none' wC W) (fun us => [(183, us 0), (184, us 1), (185, us 2), (186, us 3), (187, us 4), (188, us 5), (189, us 6), (190, us 7), (191, us 8), (182, us 9), (192, us 10), (193, us 11), (14, .int .i64 71)]) (fun us W hF => ?_) (fun hT => ?_)
        · simp only [List.foldl, Act.put, List.setIfInBounds_toArray, List.set_cons_zero, List.set_cons_succ]
          have F3 := Lib.hid (F3.out.trans hF)
          clear hF HCl HCell P1 hc12 b1 b4
          obtain ⟨sK, hsK⟩ : ∃ s : ByteArray, (⟨(textK k).toArray⟩ : ByteArray) = s := ⟨_, rfl⟩
          have hsz : sK.size ≤ 40 := by rw [← hsK]; show (textK k).toArray.size ≤ 40; rw [List.size_toArray]; exact textK_length Hx.out
          have hsd : sK.data.toList = textK k := by rw [← hsK]
          have Hsd := Lib.hid hsd
          rw [hsK]
          clear hsK hsd
          go_wp2_with fail
          obtain ⟨mm, hmm⟩ := HM.out
          have hct : Lib.countB sK ⟨#[64]⟩ = 1 := by show Lib.count sK.data.toList [64] = 1; rw [Hsd.out]; exact count_at k
          refine (Tryz.strings_Replace sK ⟨#[64]⟩ ⟨#[35]⟩ 1 mm _ (by omega) (F3.out.later hmm) (by decide) (by rw [hct]; show sK.size + 1 * 1 ≤ _; omega)).mono ?_
          rintro e X1 ⟨rfl, hb⟩
          have F3 := Lib.hid (F3.out.trans (below_to0 hb))
          clear hb hct hmm
          obtain ⟨r1, hr1⟩ : ∃ s : ByteArray, (⟨(Lib.replace sK.data.toList [64] [35] 1).toArray⟩ : ByteArray) = s := ⟨_, rfl⟩
          have R1 := Lib.hid (show r1.data.toList = Lib.replace (textK k) [64] [35] 1 by rw [← hr1, ← Hsd.out])
          try simp only [] at hr1
          rw [show (⟨(Lib.replace sK.data.toList (⟨#[64]⟩ : ByteArray).data.toList (⟨#[35]⟩ : ByteArray).data.toList 1).toArray⟩ : ByteArray) = r1 from hr1]
          clear hr1
          go_wp2_with fail
          obtain ⟨mm, hmm⟩ := HM.out
          have hct : Lib.countB sK ⟨#[35]⟩ = 1 := by show Lib.count sK.data.toList [35] = 1; rw [Hsd.out]; exact count_hash k
          refine (Tryz.strings_Replace sK ⟨#[35]⟩ ⟨#[64]⟩ 1 mm _ (by omega) (F3.out.later hmm) (by decide) (by rw [hct]; show sK.size + 1 * 1 ≤ _; omega)).mono ?_
          rintro e X2 ⟨rfl, hb⟩
          have F3 := Lib.hid (F3.out.trans (below_to0 hb))
          clear hb hct hmm
          obtain ⟨r2, hr2⟩ : ∃ s : ByteArray, (⟨(Lib.replace sK.data.toList [35] [64] 1).toArray⟩ : ByteArray) = s := ⟨_, rfl⟩
          have R2 := Lib.hid (show r2.data.toList = Lib.replace (textK k) [35] [64] 1 by rw [← hr2, ← Hsd.out])
          rw [show (⟨(Lib.replace sK.data.toList (⟨#[35]⟩ : ByteArray).data.toList (⟨#[64]⟩ : ByteArray).data.toList 1).toArray⟩ : ByteArray) = r2 from hr2]
          clear hr2
          go_wp2_with fail
          obtain ⟨mm, hmm⟩ := HM.out
          have hct : Lib.countB sK ⟨#[35]⟩ = 1 := by show Lib.count sK.data.toList [35] = 1; rw [Hsd.out]; exact count_hash k
          refine (Tryz.strings_Replace sK ⟨#[35]⟩ ⟨#[35, 48]⟩ 1 mm _ (by omega) (F3.out.later hmm) (by decide) (by rw [hct]; show sK.size + 1 * 2 ≤ _; omega)).mono ?_
          rintro e X3 ⟨rfl, hb⟩
          have F3 := Lib.hid (F3.out.trans (below_to0 hb))
          clear hb hct hmm
          obtain ⟨r3, hr3⟩ : ∃ s : ByteArray, (⟨(Lib.replace sK.data.toList [35] [35, 48] 1).toArray⟩ : ByteArray) = s := ⟨_, rfl⟩
          have R3 := Lib.hid (show r3.data.toList = Lib.replace (textK k) [35] [35, 48] 1 by rw [← hr3, ← Hsd.out])
          have h3z : r3.size ≤ 41 := by
            have h1 := rep_zero k
            have h2 := textK_hash k
            have h3 : r3.data.toList.length = (textK k).length + 1 := by rw [R3.out, h1, h2]; simp; omega
            have h4 : r3.data.toList.length = r3.size := Array.length_toList
            have h5 := textK_length Hx.out
            omega
          rw [show (⟨(Lib.replace sK.data.toList (⟨#[35]⟩ : ByteArray).data.toList (⟨#[35, 48]⟩ : ByteArray).data.toList 1).toArray⟩ : ByteArray) = r3 from hr3]
          clear hr3
          go_wp2_with fail
          obtain ⟨sH, hsH⟩ : ∃ s : ByteArray, sK ++ ⟨#[35]⟩ = s := ⟨_, rfl⟩
          have hix : Lib.indexByte sH.data.toList 35 = ((headK k).length : Int) := by
            rw [← hsH, ba_append, Hsd.out]
            exact index_hash k
          rw [hsH]
          clear hsH
          refine (Tryz.strings_IndexByte sH 35 _).mono ?_
          rintro e X4 ⟨rfl, hx4⟩
          rw [show (35 : Int).toNat.toUInt8 = 35 from rfl, hix]
          subst hx4
          obtain ⟨hh, hhh⟩ : ∃ h, (headK k).length = h := ⟨_, rfl⟩
          have hhs : hh ≤ sK.size := by
            have h1 := headK_le k
            have h2 : sK.data.toList.length = sK.size := Array.length_toList
            rw [Hsd.out] at h2
            omega
          rw [hhh]
          have b1 : (0 : Int) ≤ (hh : Int) := by omega
          have b2 : (hh : Int) ≤ (sK.size : Int) := by omega
          have Hhh := Lib.hid hhh
          clear hix hhh
          go_wp2_with fail
          clear b1 b2
          obtain ⟨C, hC⟩ : ∃ C : Array Value, #[.string (⟨#[48]⟩ ++ sK), .string (sK ++ ⟨#[32]⟩), .string (⟨#[32]⟩ ++ sK), .string (⟨#[45]⟩ ++ sK), .string (sK ++ ⟨#[35, 48]⟩), .string r1, .string r2, .string (r3 ++ ⟨#[48]⟩), .string (sK.extract 0 hh)] = C := ⟨_, rfl⟩
          have HP := Lib.hid (no_texts (k := k) hsz Hsd.out R1.out R2.out R3.out h3z Hhh.out hC)
          rw [hC]
          obtain ⟨Y, hY⟩ : ∃ X, X4.heap.size = X := ⟨_, rfl⟩
          obtain ⟨V5, hV5⟩ : ∃ W, X4.alloc (.cells C 9) = W := ⟨_, rfl⟩
          have HY := Lib.hid (show V5.heap[Y]? = some (.cells C 9 (0, 0)) by rw [← hV5, ← hY]; exact World.alloc_heap_new X4 _)
          have F5 := Lib.hid (show Fr0 none' w V5 by rw [← hV5]; exact F3.out.alloc _)
          rw [hV5]
          try rw [hY]
          clear hV5 hY hC h3z hhs hsz
          go_loopw [26, 27, 28, 224] (fun _ _ _ c wr => ∃ i : Nat, c = .int .i64 i ∧ i ≤ 9 ∧ Hid (Fr0 none' V5 wr)) (fun _ _ _ c _ => 9 - (Go.RowKit.intOf c).toNat)
          case atStart => exact ⟨0, rfl, Nat.zero_le _, Fr0.refl _ _⟩
          case round =>
            obtain ⟨i, rfl, hi, hf⟩ := hrel
            by_cases hlt : i < 9
            · have d0 : decide ((i : Int) < 9) = true := decide_eq_true (by omega)
              have d0n : decide (i < 9) = true := decide_eq_true hlt
              have e5 : IntKind.i64.wrap ((i : Int) + 1) = (i : Int) + 1 := IntWalk.i64_in _ (by omega)
              have b1 : (0 : Int) ≤ (i : Int) := by omega
              have b2 : (i : Int) < 9 := by omega
              obtain ⟨u, hc, husz, hun⟩ := HP.out i hlt
              have y0 : wr.cell? ⟨Y, i, none⟩ = some (.string u) := by
                rw [cellsK_at ((hf.out.block Y (Array.getElem?_eq_some_iff.1 HY.out).1 id).trans HY.out)]
                exact hc
              have HPa := Lib.hid (Parse_any u husz wr (HL.out.later (F5.out.trans hf.out)))
              rw [parseV_no hun] at HPa
              have Hi := Lib.hid hlt
              clear hlt hi hc husz hun
              go_wp2_with fail
              refine HPa.out.mono ?_
              rintro e v1 ⟨rfl, hf2⟩
              have F6 := Lib.hid ((hf.out.trans hf2).alloc (.cells #[.int .i64 0, .int .i64 0, .int .i64 0] 28))
              have d1 : sameK ⟨0, 0, 0⟩ ⟨0, 0, 0⟩ = true := rfl
              clear hf2 hf y0
              go_wp2_with fail
              exact ⟨⟨i + 1, by simp, by have := Hi.out; omega, F6⟩, by simp [Go.RowKit.intOf]; have := Hi.out; omega⟩
            · obtain rfl : i = 9 := by omega
              rw [show ((9 : Nat) : Int) = (9 : Int) from rfl]
              have FE := Lib.hid (F5.out.trans hf.out)
              clear hlt hi hf
              go_wp2_with fail
              go_ret
              exact ⟨rfl, FE.out⟩
        simp only [List.foldl, Act.put, List.setIfInBounds_toArray, List.set_cons_zero, List.set_cons_succ] at hT
        have HT := Lib.hid hT
        clear hT
        refine wp_region_held_drew (S := fun W' => Fr0 none' wC W') (by kernel_rfl) ((Fr0.refl none' wC).drew) (fun hHeld => ?_)
        refine take_on (i := 0) (v := .slice (some ⟨g1, 0, none⟩) 12 c1) rfl (by kernel_rfl) (by kernel_rfl) (by kernel_rfl) (fun _ _ _ h => h) (by kernel_rfl) (fun W' hSW => ?_) (by assumption) ?_
        · clear hSW
          first | (go_simp; done) | exact rfl | (go_simp; rfl) | (go_simp; omega)
        try simp only [Act.put, List.setIfInBounds_toArray, List.set_cons_zero, List.set_cons_succ]
        refine take_on (i := 2) (v := .slice (some ⟨g1, 0, none⟩) 12 c1) rfl (by kernel_rfl) (by kernel_rfl) (by kernel_rfl) (fun _ _ _ h => h) (by kernel_rfl) (fun W' hSW => ?_) (by assumption) ?_
        · clear hSW
          first | (go_simp; done) | exact rfl | (go_simp; rfl) | (go_simp; omega)
        try simp only [Act.put, List.setIfInBounds_toArray, List.set_cons_zero, List.set_cons_succ]
        refine take_on (i := 3) (v := .int .i64 (cq : Int)) rfl (by kernel_rfl) (by kernel_rfl) (by kernel_rfl) (fun _ _ _ h => h) (by kernel_rfl) (fun W' hSW => ?_) (by assumption) ?_
        · clear hSW
          first | (go_simp; done) | exact rfl | (go_simp; rfl) | (go_simp; omega)
        try simp only [Act.put, List.setIfInBounds_toArray, List.set_cons_zero, List.set_cons_succ]
        refine take_on (i := 4) (v := .pointer (some ⟨g1, cq, none⟩)) rfl (by kernel_rfl) (by kernel_rfl) (by kernel_rfl) (fun _ _ _ h => h) (by kernel_rfl) (fun W' hSW => ?_) (by assumption) ?_
        · clear hSW
          first | (go_simp; done) | exact rfl | (go_simp; rfl) | (go_simp; omega)
        try simp only [Act.put, List.setIfInBounds_toArray, List.set_cons_zero, List.set_cons_succ]
        refine take_on (i := 5) (v := .int .u8 xb.toNat) rfl (by kernel_rfl) (by kernel_rfl) (by kernel_rfl) (fun _ _ _ h => h) (by kernel_rfl) (fun W' hSW => ?_) (by assumption) ?_
        · have y9 := HCell.out W' hSW
          clear hSW
          first | (go_simp; done) | exact rfl | (go_simp; rfl) | (go_simp; omega)
        try simp only [Act.put, List.setIfInBounds_toArray, List.set_cons_zero, List.set_cons_succ]
        refine wpAnyH_ready (rs := [1, 6]) (by kernel_rfl) (by simp) (AllReadyH.cons (op_at rfl) (fun K hK => ?_) (AllReadyH.cons (op_at rfl) (fun K hK => ?_) AllReadyH.nil))
        · rw [if_pos (by kernel_rfl)]
          go_simp
          refine (HCl.out _ hHeld).mono ?_
          rintro e w9 ⟨vC, rfl, hr, hf⟩
          have RC := Lib.hid (ownsRow_k_mono hr hHeld.size)
          have G := Lib.hid (hHeld.trans hf)
          try have LI := Lib.hid (LI.out.later hf)
          clear hr hf hHeld
          go_wp2_with fail
          refine hK.out _ _ G.out (fun hHeld => ?_)
          clear hK K
          try simp only [Act.put, List.setIfInBounds_toArray, List.set_cons_zero, List.set_cons_succ]
          refine take_call (i := 6) rfl (by kernel_rfl) (by kernel_rfl) (fun K hK => ?_)
          go_simp
          obtain ⟨lb, hlb⟩ : ∃ q, w9.heap.size = q := ⟨_, rfl⟩
          obtain ⟨w10, hW⟩ : ∃ W, (w9.alloc (.cells #[.int .u8 xb.toNat] 5)) = W := ⟨_, rfl⟩
          have fL : Fr0 none' w9 w10 := by rw [← hW]; exact ((Fr0.refl _ _).alloc _)
          have LI := Lib.hid (show BsIn w10 (some ⟨lb, 0, none⟩) [xb] by rw [← hW, ← hlb]; exact bsin_lit' (World.alloc_heap_new w9 _) _ rfl)
          have G := Lib.hid (hHeld.trans fL)
          try have RC := Lib.hid (ownsRow_q_fr RC.out fL (fun _ _ h => h))
          rw [hW]
          try rw [hlb]
          clear hW hlb fL hHeld
          refine hK.out _ _ G.out (fun hHeld => ?_)
          clear hK K
          try simp only [Act.put, List.setIfInBounds_toArray, List.set_cons_zero, List.set_cons_succ]
          refine take_call (i := 7) rfl (by kernel_rfl) (by kernel_rfl) (fun K hK => ?_)
          have hsrc := Lib.hid (show Src Tryz.prog 1 30 (.slice (some ⟨lb, 0, none⟩) 1 1) 1 (Lib.byteCells [xb]) w10 from Src.ofSlice _ Tryz.underlying30 ⟨lb, 0, none⟩ 1 1 (Lib.byteCells [xb]) (by rw [Lib.byteCells_length]; rfl) (LI.out.cells) (fun u hu => by obtain ⟨x, _, rfl⟩ := List.mem_map.1 hu; rfl))
          refine wp_app_q _ _ 30 30 rfl wC.heap.size 5 ib (.int .u8 0) 1 1 Tryz.underlying30 hib hb0 hb1 hb2 rfl (by decide) vC 12 _ rfl RC.out (.slice (some ⟨lb, 0, none⟩) 1 1) 1 _ rfl hsrc.out (by unfold maxLen; omega) (by omega) G.out.size ?_
          intro v9 V9 hown hgr _ _
          have hRC := RC.out.lt
          have G := Lib.hid (G.out.grown hgr (fun k hk hlt => by have := (hRC k hk).1; omega))
          have hr9 : V9.ownsRow wC.heap.size 5 1 v9 13 (Lib.byteCells (bytesK k ++ [xb])) := by rw [show Lib.byteCells (bytesK k ++ [xb]) = Lib.byteCells (bytesK k) ++ Lib.byteCells [xb] from by simp [Lib.byteCells]]; exact hown
          obtain ⟨g9, c9, rfl⟩ := Joins.ownsRow_form hr9 (by omega)
          have hcap9 := row_caps hr9
          have P9 := Lib.hid (BsIn.of_row hr9)
          clear hown hgr hRC hsrc hr9
          refine hK.out _ _ G.out (fun hHeld => ?_)
          clear hK K
          try simp only [Act.put, List.setIfInBounds_toArray, List.set_cons_zero, List.set_cons_succ]
          refine take_call (i := 8) rfl (by kernel_rfl) (by kernel_rfl) (fun K hK => ?_)
          go_simp
          have HRd := Lib.hid (Read_any (some ⟨g9, 0, none⟩) 13 c9 (bytesK k ++ [xb]) (by rw [List.length_append, bytesK_length]; rfl) hcap9.1 hcap9.2 V9 P9.out)
          rw [readV_len (by rw [List.length_append, bytesK_length]; simp)] at HRd
          refine HRd.out.mono ?_
          rintro e V10 ⟨rfl, hf⟩
          have G := Lib.hid (G.out.trans hf)
          clear hf hHeld HRd
          go_wp2_with fail
          refine hK.out _ _ G.out (fun hHeld => ?_)
          clear hK K
          try simp only [Act.put, List.setIfInBounds_toArray, List.set_cons_zero, List.set_cons_succ]
          refine take_on (i := 9) (v := .tuple #[.agg #[.int .i64 0, .int .i64 0, .int .i64 0], .int .i64 71]) rfl (by kernel_rfl) (by kernel_rfl) (by kernel_rfl) (fun _ _ _ h => h) (by kernel_rfl) (fun W' hSW => ?_) (by assumption) ?_
          · clear hSW
            first | (go_simp; done) | exact rfl | (go_simp; rfl) | (go_simp; omega)
          try simp only [Act.put, List.setIfInBounds_toArray, List.set_cons_zero, List.set_cons_succ]
          refine take_on (i := 10) (v := .agg #[.int .i64 0, .int .i64 0, .int .i64 0]) rfl (by kernel_rfl) (by kernel_rfl) (by kernel_rfl) (fun _ _ _ h => h) (by kernel_rfl) (fun W' hSW => ?_) (by assumption) ?_
          · clear hSW
            first | (go_simp; done) | exact rfl | (go_simp; rfl) | (go_simp; omega)
          try simp only [Act.put, List.setIfInBounds_toArray, List.set_cons_zero, List.set_cons_succ]
          refine take_on (i := 11) (v := .int .i64 71) rfl (by kernel_rfl) (by kernel_rfl) (by kernel_rfl) (fun _ _ _ h => h) (by kernel_rfl) (fun W' hSW => ?_) (by assumption) ?_
          · clear hSW
            first | (go_simp; done) | exact rfl | (go_simp; rfl) | (go_simp; omega)
          try simp only [Act.put, List.setIfInBounds_toArray, List.set_cons_zero, List.set_cons_succ]
          refine take_on (i := 12) (v := .int .i64 71) rfl (by kernel_rfl) (by kernel_rfl) (by kernel_rfl) (fun _ _ _ h => h) (by kernel_rfl) (fun W' hSW => ?_) (by assumption) ?_
          · clear hSW
            first | (go_simp; done) | exact rfl | (go_simp; rfl) | (go_simp; omega)
          try simp only [Act.put, List.setIfInBounds_toArray, List.set_cons_zero, List.set_cons_succ]
          refine wpAnyH_done (by kernel_rfl) ?_ _
          exact HT.out (fun n => ([.slice (some ⟨g1, 0, none⟩) 12 c1, vC, .slice (some ⟨g1, 0, none⟩) 12 c1, .int .i64 (cq : Int), .pointer (some ⟨g1, cq, none⟩), .int .u8 xb.toNat, .slice (some ⟨lb, 0, none⟩) 1 1, .slice (some ⟨g9, 0, none⟩) 13 c9, .tuple #[.agg #[.int .i64 0, .int .i64 0, .int .i64 0], .int .i64 71], .tuple #[.agg #[.int .i64 0, .int .i64 0, .int .i64 0], .int .i64 71], .agg #[.int .i64 0, .int .i64 0, .int .i64 0], .int .i64 71] : List Value).getD n undef) V10 hHeld
        · rw [if_pos (by kernel_rfl)]
          go_simp
          clear hHeld
          have hHeld : Fr0 none' wC wC := Fr0.refl _ _
          obtain ⟨lb, hlb⟩ : ∃ q, wC.heap.size = q := ⟨_, rfl⟩
          obtain ⟨w9, hW⟩ : ∃ W, (wC.alloc (.cells #[.int .u8 xb.toNat] 5)).drew = W := ⟨_, rfl⟩
          have fL : Fr0 none' wC w9 := by rw [← hW]; exact ((Fr0.refl _ _).alloc _).drew
          have LI := Lib.hid (show BsIn w9 (some ⟨lb, 0, none⟩) [xb] by rw [← hW, ← hlb]; exact bsin_lit' (World.alloc_heap_new wC _) _ rfl)
          have G := Lib.hid (hHeld.trans fL)
          try have RC := Lib.hid (ownsRow_q_fr RC.out fL (fun _ _ h => h))
          rw [hW]
          try rw [hlb]
          clear hW hlb fL hHeld
          refine hK.out _ _ G.out (fun hHeld => ?_)
          clear hK K
          try simp only [Act.put, List.setIfInBounds_toArray, List.set_cons_zero, List.set_cons_succ]
          refine take_call (i := 1) rfl (by kernel_rfl) (by kernel_rfl) (fun K hK => ?_)
          go_simp
          refine (HCl.out _ hHeld).mono ?_
          rintro e w10 ⟨vC, rfl, hr, hf⟩
          have RC := Lib.hid (ownsRow_k_mono hr hHeld.size)
          have G := Lib.hid (hHeld.trans hf)
          try have LI := Lib.hid (LI.out.later hf)
          clear hr hf hHeld
          go_wp2_with fail
          refine hK.out _ _ G.out (fun hHeld => ?_)
          clear hK K
          try simp only [Act.put, List.setIfInBounds_toArray, List.set_cons_zero, List.set_cons_succ]
          refine take_call (i := 7) rfl (by kernel_rfl) (by kernel_rfl) (fun K hK => ?_)
          have hsrc := Lib.hid (show Src Tryz.prog 1 30 (.slice (some ⟨lb, 0, none⟩) 1 1) 1 (Lib.byteCells [xb]) w10 from Src.ofSlice _ Tryz.underlying30 ⟨lb, 0, none⟩ 1 1 (Lib.byteCells [xb]) (by rw [Lib.byteCells_length]; rfl) (LI.out.cells) (fun u hu => by obtain ⟨x, _, rfl⟩ := List.mem_map.1 hu; rfl))
          refine wp_app_q _ _ 30 30 rfl wC.heap.size 5 ib (.int .u8 0) 1 1 Tryz.underlying30 hib hb0 hb1 hb2 rfl (by decide) vC 12 _ rfl RC.out (.slice (some ⟨lb, 0, none⟩) 1 1) 1 _ rfl hsrc.out (by unfold maxLen; omega) (by omega) G.out.size ?_
          intro v9 V9 hown hgr _ _
          have hRC := RC.out.lt
          have G := Lib.hid (G.out.grown hgr (fun k hk hlt => by have := (hRC k hk).1; omega))
          have hr9 : V9.ownsRow wC.heap.size 5 1 v9 13 (Lib.byteCells (bytesK k ++ [xb])) := by rw [show Lib.byteCells (bytesK k ++ [xb]) = Lib.byteCells (bytesK k) ++ Lib.byteCells [xb] from by simp [Lib.byteCells]]; exact hown
          obtain ⟨g9, c9, rfl⟩ := Joins.ownsRow_form hr9 (by omega)
          have hcap9 := row_caps hr9
          have P9 := Lib.hid (BsIn.of_row hr9)
          clear hown hgr hRC hsrc hr9
          refine hK.out _ _ G.out (fun hHeld => ?_)
          clear hK K
          try simp only [Act.put, List.setIfInBounds_toArray, List.set_cons_zero, List.set_cons_succ]
          refine take_call (i := 8) rfl (by kernel_rfl) (by kernel_rfl) (fun K hK => ?_)
          go_simp
          have HRd := Lib.hid (Read_any (some ⟨g9, 0, none⟩) 13 c9 (bytesK k ++ [xb]) (by rw [List.length_append, bytesK_length]; rfl) hcap9.1 hcap9.2 V9 P9.out)
          rw [readV_len (by rw [List.length_append, bytesK_length]; simp)] at HRd
          refine HRd.out.mono ?_
          rintro e V10 ⟨rfl, hf⟩
          have G := Lib.hid (G.out.trans hf)
          clear hf hHeld HRd
          go_wp2_with fail
          refine hK.out _ _ G.out (fun hHeld => ?_)
          clear hK K
          try simp only [Act.put, List.setIfInBounds_toArray, List.set_cons_zero, List.set_cons_succ]
          refine take_on (i := 9) (v := .tuple #[.agg #[.int .i64 0, .int .i64 0, .int .i64 0], .int .i64 71]) rfl (by kernel_rfl) (by kernel_rfl) (by kernel_rfl) (fun _ _ _ h => h) (by kernel_rfl) (fun W' hSW => ?_) (by assumption) ?_
          · clear hSW
            first | (go_simp; done) | exact rfl | (go_simp; rfl) | (go_simp; omega)
          try simp only [Act.put, List.setIfInBounds_toArray, List.set_cons_zero, List.set_cons_succ]
          refine take_on (i := 10) (v := .agg #[.int .i64 0, .int .i64 0, .int .i64 0]) rfl (by kernel_rfl) (by kernel_rfl) (by kernel_rfl) (fun _ _ _ h => h) (by kernel_rfl) (fun W' hSW => ?_) (by assumption) ?_
          · clear hSW
            first | (go_simp; done) | exact rfl | (go_simp; rfl) | (go_simp; omega)
          try simp only [Act.put, List.setIfInBounds_toArray, List.set_cons_zero, List.set_cons_succ]
          refine take_on (i := 11) (v := .int .i64 71) rfl (by kernel_rfl) (by kernel_rfl) (by kernel_rfl) (fun _ _ _ h => h) (by kernel_rfl) (fun W' hSW => ?_) (by assumption) ?_
          · clear hSW
            first | (go_simp; done) | exact rfl | (go_simp; rfl) | (go_simp; omega)
          try simp only [Act.put, List.setIfInBounds_toArray, List.set_cons_zero, List.set_cons_succ]
          refine take_on (i := 12) (v := .int .i64 71) rfl (by kernel_rfl) (by kernel_rfl) (by kernel_rfl) (fun _ _ _ h => h) (by kernel_rfl) (fun W' hSW => ?_) (by assumption) ?_
          · clear hSW
            first | (go_simp; done) | exact rfl | (go_simp; rfl) | (go_simp; omega)
          try simp only [Act.put, List.setIfInBounds_toArray, List.set_cons_zero, List.set_cons_succ]
          refine wpAnyH_done (by kernel_rfl) ?_ _
          exact HT.out (fun n => ([.slice (some ⟨g1, 0, none⟩) 12 c1, vC, .slice (some ⟨g1, 0, none⟩) 12 c1, .int .i64 (cq : Int), .pointer (some ⟨g1, cq, none⟩), .int .u8 xb.toNat, .slice (some ⟨lb, 0, none⟩) 1 1, .slice (some ⟨g9, 0, none⟩) 13 c9, .tuple #[.agg #[.int .i64 0, .int .i64 0, .int .i64 0], .int .i64 71], .tuple #[.agg #[.int .i64 0, .int .i64 0, .int .i64 0], .int .i64 71], .agg #[.int .i64 0, .int .i64 0, .int .i64 0], .int .i64 71] : List Value).getD n undef) V10 hHeld
  · skip
    have hw : ((way : Int) % 6) = 2 := by omega
    obtain ⟨z, hz⟩ : ∃ z, min n (-1) = z := ⟨_, rfl⟩
    have hbad : ¬ RightK ⟨k.time, z, k.seq⟩ := by have := Hx.out; unfold RightK at this ⊢; simp only; omega
    have Hbad := Lib.hid hbad
    clear hbad hways
    go_wp2_with fail
    clear hw
    try rw [hz]
    clear hz
    obtain ⟨q1, hq1⟩ : ∃ q, w2.heap.size = q := ⟨_, rfl⟩
    rw [hq1]
    obtain ⟨W3, hW3⟩ : ∃ W, (w2.alloc (.cells #[.int .i64 k.time, .int .i64 k.source, .int .i64 k.seq] 28)).alloc (.cells #[.int .i64 (k.time), .int .i64 (z), .int .i64 (k.seq)] 28) = W := ⟨_, rfl⟩
    have hs1 : (w2.alloc (.cells #[.int .i64 k.time, .int .i64 k.source, .int .i64 k.seq] 28)).heap.size = q1 + 1 := by rw [← hq1]; simp
    have KX := Lib.hid (show KeyAt W3 q1 k by
      rw [← hW3]
      unfold KeyAt
      rw [Below.heap_alloc _ _ _ (by rw [hs1]; omega), ← hq1]
      exact World.alloc_heap_new w2 _)
    have KB := Lib.hid (show KeyAt W3 (q1 + 1) ⟨k.time, z, k.seq⟩ by rw [← hW3, ← hs1]; exact World.alloc_heap_new _ _)
    have F3 := Lib.hid (show Fr0 none' w W3 by rw [← hW3]; exact (F2.out.alloc _).alloc _)
    rw [hW3]
    clear hW3 hs1 hq1
    obtain ⟨q2, hq2⟩ : ∃ q, q1 + 1 = q := ⟨_, rfl⟩
    rw [hq2] at KB ⊢
    clear hq2
    have HB1 := Lib.hid (Bytes_wrong ⟨k.time, z, k.seq⟩ Hbad.out)
    have HB2 := Lib.hid (Text_wrong ⟨k.time, z, k.seq⟩ Hbad.out)
    have HB3 := Lib.hid (Next_wrong ⟨k.time, z, k.seq⟩ Hbad.out)
    have HB4 := Lib.hid (Back_wrong ⟨k.time, z, k.seq⟩ Hbad.out)
    simp only [keyV, zeroK] at HB1 HB2 HB3 HB4
    refine (HB1.out _).mono ?_
    rintro e w4 ⟨rfl, hf⟩
    have F3 := Lib.hid (F3.out.trans hf)
    have KX := Lib.hid (KX.out.fr0 (S := none') hf (fun h => h))
    have KB := Lib.hid (KB.out.fr0 (S := none') hf (fun h => h))
    try clear y0 y1 y2
    have y0 := KB.out.cell (i := 0) (by omega)
    have y1 := KB.out.cell (i := 1) (by omega)
    have y2 := KB.out.cell (i := 2) (by omega)
    simp [nth3] at y0 y1 y2
    clear hf
    go_wp2_with fail
    refine (HB2.out _).mono ?_
    rintro e w5 ⟨rfl, hf⟩
    have F3 := Lib.hid (F3.out.trans hf)
    have KX := Lib.hid (KX.out.fr0 (S := none') hf (fun h => h))
    have KB := Lib.hid (KB.out.fr0 (S := none') hf (fun h => h))
    try clear y0 y1 y2
    have y0 := KB.out.cell (i := 0) (by omega)
    have y1 := KB.out.cell (i := 1) (by omega)
    have y2 := KB.out.cell (i := 2) (by omega)
    simp [nth3] at y0 y1 y2
    clear hf
    go_wp2_with fail
    refine (HB3.out _).mono ?_
    rintro e w6 ⟨rfl, hf⟩
    have hf := hf.alloc (.cells #[.int .i64 0, .int .i64 0, .int .i64 0] 28)
    have F3 := Lib.hid (F3.out.trans hf)
    have KX := Lib.hid (KX.out.fr0 (S := none') hf (fun h => h))
    have KB := Lib.hid (KB.out.fr0 (S := none') hf (fun h => h))
    try clear y0 y1 y2
    have y0 := KB.out.cell (i := 0) (by omega)
    have y1 := KB.out.cell (i := 1) (by omega)
    have y2 := KB.out.cell (i := 2) (by omega)
    simp [nth3] at y0 y1 y2
    clear hf
    go_wp2_with fail
    obtain ⟨q3, hq3⟩ : ∃ q, w6.heap.size = q := ⟨_, rfl⟩
    obtain ⟨W6, hW6⟩ : ∃ W, w6.alloc (.cells #[.int .i64 0, .int .i64 0, .int .i64 0] 28) = W := ⟨_, rfl⟩
    have K3 := Lib.hid (show KeyAt W6 q3 zeroK by rw [← hW6, ← hq3]; exact World.alloc_heap_new w6 _)
    rw [hW6] at F3 KX KB ⊢
    try rw [hq3]
    clear hW6 hq3 y0 y1 y2
    refine (HB4.out _).mono ?_
    rintro e w7 ⟨rfl, hf⟩
    have hf := hf.alloc (.cells #[.int .i64 0, .int .i64 0, .int .i64 0] 28)
    have F3 := Lib.hid (F3.out.trans hf)
    have KX := Lib.hid (KX.out.fr0 (S := none') hf (fun h => h))
    have KB := Lib.hid (KB.out.fr0 (S := none') hf (fun h => h))
    try clear y0 y1 y2
    have K3 := Lib.hid (K3.out.fr0 (S := none') hf (fun h => h))
    have y0 := KB.out.cell (i := 0) (by omega)
    have y1 := KB.out.cell (i := 1) (by omega)
    have y2 := KB.out.cell (i := 2) (by omega)
    simp [nth3] at y0 y1 y2
    clear hf
    go_wp2_with fail
    clear y0 y1 y2
    obtain ⟨q4, hq4⟩ : ∃ q, w7.heap.size = q := ⟨_, rfl⟩
    obtain ⟨W7, hW7⟩ : ∃ W, w7.alloc (.cells #[.int .i64 0, .int .i64 0, .int .i64 0] 28) = W := ⟨_, rfl⟩
    have K4 := Lib.hid (show KeyAt W7 q4 zeroK by rw [← hW7, ← hq4]; exact World.alloc_heap_new w7 _)
    rw [hW7] at F3 KX KB K3 ⊢
    try rw [hq4]
    clear hW7 hq4
    have HR := Lib.hid (Right_any ⟨k.time, z, k.seq⟩ W7)
    rw [decide_eq_false Hbad.out] at HR
    simp only [keyV] at HR
    refine HR.out.mono ?_
    rintro e w8 ⟨rfl, hf⟩
    have F3 := Lib.hid (F3.out.trans hf)
    have KX := Lib.hid (KX.out.fr0 (S := none') hf (fun h => h))
    have KB := Lib.hid (KB.out.fr0 (S := none') hf (fun h => h))
    try clear y0 y1 y2
    have K3 := Lib.hid (K3.out.fr0 (S := none') hf (fun h => h))
    have K4 := Lib.hid (K4.out.fr0 (S := none') hf (fun h => h))
    have u0 := K3.out.cell (i := 0) (by omega)
    have u1 := K3.out.cell (i := 1) (by omega)
    have u2 := K3.out.cell (i := 2) (by omega)
    have v0 := K4.out.cell (i := 0) (by omega)
    have v1 := K4.out.cell (i := 1) (by omega)
    have v2 := K4.out.cell (i := 2) (by omega)
    simp [nth3, zeroK] at u0 u1 u2 v0 v1 v2
    have d1 : sameK ⟨0, 0, 0⟩ ⟨0, 0, 0⟩ = true := rfl
    clear hf
    go_wp2_with fail
    clear d1 u0 u1 u2 v0 v1 v2
    obtain ⟨t1, ht1⟩ : ∃ t, min n (-1) = t := ⟨_, rfl⟩
    obtain ⟨t2, ht2⟩ : ∃ t, max n 281474976710657 = t := ⟨_, rfl⟩
    rw [ht1, ht2]
    obtain ⟨q5, hq5⟩ : ∃ q, w8.heap.size = q := ⟨_, rfl⟩
    obtain ⟨W9, hW9⟩ : ∃ W, w8.alloc (.cells #[.int .i64 t1, .int .i64 t2] 3) = W := ⟨_, rfl⟩
    have HR9 := Lib.hid (show W9.heap[q5]? = some (.cells #[.int .i64 t1, .int .i64 t2] 3 (0, 0)) by rw [← hW9, ← hq5]; exact World.alloc_heap_new w8 _)
    have hf : Fr0 none' w8 W9 := by rw [← hW9]; exact (Fr0.refl _ _).alloc _
    have F3 := Lib.hid (F3.out.trans hf)
    have KX := Lib.hid (KX.out.fr0 (S := none') hf (fun h => h))
    have HE := Lib.hid (fun (i : Nat) (hi : i < 2) => show ∃ t : Int, #[(.int .i64 t1 : Value), .int .i64 t2][i]? = some (.int .i64 t) ∧ endsV t = (zeroK, zeroK, 2) from by
      match i, hi with
      | 0, _ => exact ⟨t1, rfl, by unfold endsV; rw [if_neg (by omega)]⟩
      | 1, _ => exact ⟨t2, rfl, by unfold endsV; rw [if_neg (by omega)]⟩)
    rw [hW9]
    try rw [hq5]
    clear hW9 hq5 hf ht1 ht2 K3 K4 KB
    go_loopw [20, 21, 22, 23, 126] (fun _ _ _ _ c wr => ∃ i : Nat, c = .int .i64 i ∧ i ≤ 2 ∧ Hid (Fr0 none' W9 wr)) (fun _ _ _ _ c _ => 2 - (Go.RowKit.intOf c).toNat)
    case atStart => exact ⟨0, rfl, Nat.zero_le _, Fr0.refl _ _⟩
    case round =>
      obtain ⟨i, rfl, hi, hf⟩ := hrel
      by_cases hlt : i < 2
      · have d0 : decide ((i : Int) < 2) = true := decide_eq_true (by omega)
        have d0n : decide (i < 2) = true := decide_eq_true hlt
        have e5 : IntKind.i64.wrap ((i : Int) + 1) = (i : Int) + 1 := IntWalk.i64_in _ (by omega)
        have b1 : (0 : Int) ≤ (i : Int) := by omega
        have b2 : (i : Int) < 2 := by omega
        obtain ⟨t, hc, ht⟩ := HE.out i hlt
        have y0 : wr.cell? ⟨q5, i, none⟩ = some (.int .i64 t) := by
          rw [cellsK_at ((hf.out.block q5 (Array.getElem?_eq_some_iff.1 HR9.out).1 id).trans HR9.out)]
          exact hc
        have HEn := Lib.hid (Ends_any t wr)
        rw [ht] at HEn
        simp only [keyV, zeroK] at HEn
        have Hi := Lib.hid hlt
        clear hlt hi hc ht
        go_wp2_with fail
        refine HEn.out.mono ?_
        rintro e v1 ⟨rfl, hf2⟩
        have F6 := Lib.hid ((hf.out.trans hf2).alloc (.cells #[.int .i64 0, .int .i64 0, .int .i64 0] 28) |>.alloc (.cells #[.int .i64 0, .int .i64 0, .int .i64 0] 28))
        have d1 : sameK ⟨0, 0, 0⟩ ⟨0, 0, 0⟩ = true := rfl
        clear hf2 hf y0
        go_wp2_with fail
        exact ⟨⟨i + 1, by simp, by have := Hi.out; omega, F6⟩, by simp [Go.RowKit.intOf]; have := Hi.out; omega⟩
      · obtain rfl : i = 2 := by omega
        rw [show ((2 : Nat) : Int) = (2 : Int) from rfl]
        have F3 := Lib.hid (F3.out.trans hf.out)
        have KX := Lib.hid (KX.out.fr0 (S := none') hf.out (fun h => h))
        have y0 := KX.out.cell (i := 0) (by omega)
        have y1 := KX.out.cell (i := 1) (by omega)
        have y2 := KX.out.cell (i := 2) (by omega)
        simp [nth3] at y0 y1 y2
        have HBy := Lib.hid (Bytes_any k Hx.out)
        have HTx := Lib.hid (Text_any k Hx.out)
        simp only [keyV] at HBy HTx
        clear hlt hi hf
        go_wp2_with fail
        refine (HBy.out _).mono ?_
        rintro e wA ⟨v1, rfl, hr, hf⟩
        have F3 := Lib.hid (F3.out.trans hf)
        have KX := Lib.hid (KX.out.fr0 (S := none') hf (fun h => h))
        obtain ⟨g1, c1, rfl⟩ := Joins.ownsRow_form hr (by omega)
        have hcap := row_caps hr
        have P1 := Lib.hid (BsIn.of_row hr)
        clear hf hr y0 y1 y2
        have y0 := KX.out.cell (i := 0) (by omega)
        have y1 := KX.out.cell (i := 1) (by omega)
        have y2 := KX.out.cell (i := 2) (by omega)
        simp [nth3] at y0 y1 y2
        go_wp2_with fail
        refine (HTx.out _ (HL.out.later F3.out)).mono ?_
        rintro e wB ⟨rfl, hf⟩
        have F3 := Lib.hid (F3.out.trans hf)
        have P1 := Lib.hid (P1.out.later hf)
        clear hf y0 y1 y2 KX
        obtain ⟨cq, hcq⟩ : ∃ c, cut % 12 = c := ⟨_, rfl⟩
        have hc12 : cq < 12 := by rw [← hcq]; exact Nat.mod_lt _ (by omega)
        have z0 : IntKind.i64.wrap (cut : Int) = (cut : Int) := IntWalk.i64_in _ (by omega)
        have z1 : (cut : Int).tmod 12 = (cq : Int) := by rw [Int.tmod_eq_emod_of_nonneg (by omega), ← hcq]; push_cast; rfl
        have z2 : (cut : Int) % 12 = (cq : Int) := by rw [← hcq]; push_cast; rfl
        have z3 : IntKind.i64.wrap (cq : Int) = (cq : Int) := IntWalk.i64_in _ (by omega)
        have b1 : (0 : Int) ≤ (cq : Int) := by omega
        have b2 : (cq : Int) ≤ (12 : Int) := by omega
        have b3 : (cq : Int) ≤ (c1 : Int) := by have := hcap.1; omega
        have hne : (textK k).isEmpty = false := by
          obtain ⟨c, r, h, _⟩ := textK_head k
          rw [h]; rfl
        clear hcq
        go_wp2_with fail
        clear hne z0 z1 z2 z3
        have HRd := Lib.hid (Read_any (some ⟨g1, 0, none⟩) cq c1 (((bytesK k).drop 0).take cq) (by rw [List.length_take, List.length_drop, bytesK_length]; omega) (by have := hcap.1; omega) hcap.2 wB (by have := P1.out.sub 0 cq; simpa using this))
        rw [readV_len (by rw [List.length_take, List.length_drop, bytesK_length]; omega)] at HRd
        refine HRd.out.mono ?_
        rintro e wC ⟨rfl, hf⟩
        have F3 := Lib.hid (F3.out.trans hf)
        have P1 := Lib.hid (P1.out.later hf)
        have b4 : (cq : Int) < (12 : Int) := by omega
        clear hf HRd b2 b3
        obtain ⟨xb, hxb⟩ : ∃ x, (bytesK k)[cq]? = some x := ⟨_, List.getElem?_eq_getElem (by rw [bytesK_length]; exact hc12)⟩
        have HCell := Lib.hid (fun (W' : World) (h : Fr0 none' wC W') => show W'.cell? ⟨g1, cq, none⟩ = some (.int .u8 xb.toNat) from by
          obtain ⟨g, o, e, hc⟩ := P1.out.later h cq xb hxb
          cases e
          rw [Nat.zero_add] at hc
          exact hc)
        have HCl := Lib.hid (fun (W : World) (hf : Fr0 none' wC W) => Clone_row8 (cap := c1) (P1.out.later hf) (bytesK_length k) (by omega))
        clear hxb
        go_wp2_with fail
        refine viaT (T := Nat → Value) (fun us W => Fr0 none' wC W) (fun us => [(183, us 0), (184, us 1), (185, us 2), (186, us 3), (187, us 4), (188, us 5), (189, us 6), (190, us 7), (191, us 8), (182, us 9), (192, us 10), (193, us 11), (14, .int .i64 71)]) (fun us W hF => ?_) (fun hT => ?_)
        · simp only [List.foldl, Act.put, List.setIfInBounds_toArray, List.set_cons_zero, List.set_cons_succ]
          have F3 := Lib.hid (F3.out.trans hF)
          clear hF HCl HCell P1 hc12 b1 b4
          obtain ⟨sK, hsK⟩ : ∃ s : ByteArray, (⟨(textK k).toArray⟩ : ByteArray) = s := ⟨_, rfl⟩
          have hsz : sK.size ≤ 40 := by rw [← hsK]; show (textK k).toArray.size ≤ 40; rw [List.size_toArray]; exact textK_length Hx.out
          have hsd : sK.data.toList = textK k := by rw [← hsK]
          have Hsd := Lib.hid hsd
          rw [hsK]
          clear hsK hsd
          go_wp2_with fail
          obtain ⟨mm, hmm⟩ := HM.out
          have hct : Lib.countB sK ⟨#[64]⟩ = 1 := by show Lib.count sK.data.toList [64] = 1; rw [Hsd.out]; exact count_at k
          refine (Tryz.strings_Replace sK ⟨#[64]⟩ ⟨#[35]⟩ 1 mm _ (by omega) (F3.out.later hmm) (by decide) (by rw [hct]; show sK.size + 1 * 1 ≤ _; omega)).mono ?_
          rintro e X1 ⟨rfl, hb⟩
          have F3 := Lib.hid (F3.out.trans (below_to0 hb))
          clear hb hct hmm
          obtain ⟨r1, hr1⟩ : ∃ s : ByteArray, (⟨(Lib.replace sK.data.toList [64] [35] 1).toArray⟩ : ByteArray) = s := ⟨_, rfl⟩
          have R1 := Lib.hid (show r1.data.toList = Lib.replace (textK k) [64] [35] 1 by rw [← hr1, ← Hsd.out])
          try simp only [] at hr1
          rw [show (⟨(Lib.replace sK.data.toList (⟨#[64]⟩ : ByteArray).data.toList (⟨#[35]⟩ : ByteArray).data.toList 1).toArray⟩ : ByteArray) = r1 from hr1]
          clear hr1
          go_wp2_with fail
          obtain ⟨mm, hmm⟩ := HM.out
          have hct : Lib.countB sK ⟨#[35]⟩ = 1 := by show Lib.count sK.data.toList [35] = 1; rw [Hsd.out]; exact count_hash k
          refine (Tryz.strings_Replace sK ⟨#[35]⟩ ⟨#[64]⟩ 1 mm _ (by omega) (F3.out.later hmm) (by decide) (by rw [hct]; show sK.size + 1 * 1 ≤ _; omega)).mono ?_
          rintro e X2 ⟨rfl, hb⟩
          have F3 := Lib.hid (F3.out.trans (below_to0 hb))
          clear hb hct hmm
          obtain ⟨r2, hr2⟩ : ∃ s : ByteArray, (⟨(Lib.replace sK.data.toList [35] [64] 1).toArray⟩ : ByteArray) = s := ⟨_, rfl⟩
          have R2 := Lib.hid (show r2.data.toList = Lib.replace (textK k) [35] [64] 1 by rw [← hr2, ← Hsd.out])
          rw [show (⟨(Lib.replace sK.data.toList (⟨#[35]⟩ : ByteArray).data.toList (⟨#[64]⟩ : ByteArray).data.toList 1).toArray⟩ : ByteArray) = r2 from hr2]
          clear hr2
          go_wp2_with fail
          obtain ⟨mm, hmm⟩ := HM.out
          have hct : Lib.countB sK ⟨#[35]⟩ = 1 := by show Lib.count sK.data.toList [35] = 1; rw [Hsd.out]; exact count_hash k
          refine (Tryz.strings_Replace sK ⟨#[35]⟩ ⟨#[35, 48]⟩ 1 mm _ (by omega) (F3.out.later hmm) (by decide) (by rw [hct]; show sK.size + 1 * 2 ≤ _; omega)).mono ?_
          rintro e X3 ⟨rfl, hb⟩
          have F3 := Lib.hid (F3.out.trans (below_to0 hb))
          clear hb hct hmm
          obtain ⟨r3, hr3⟩ : ∃ s : ByteArray, (⟨(Lib.replace sK.data.toList [35] [35, 48] 1).toArray⟩ : ByteArray) = s := ⟨_, rfl⟩
          have R3 := Lib.hid (show r3.data.toList = Lib.replace (textK k) [35] [35, 48] 1 by rw [← hr3, ← Hsd.out])
          have h3z : r3.size ≤ 41 := by
            have h1 := rep_zero k
            have h2 := textK_hash k
            have h3 : r3.data.toList.length = (textK k).length + 1 := by rw [R3.out, h1, h2]; simp; omega
            have h4 : r3.data.toList.length = r3.size := Array.length_toList
            have h5 := textK_length Hx.out
            omega
          rw [show (⟨(Lib.replace sK.data.toList (⟨#[35]⟩ : ByteArray).data.toList (⟨#[35, 48]⟩ : ByteArray).data.toList 1).toArray⟩ : ByteArray) = r3 from hr3]
          clear hr3
          go_wp2_with fail
          obtain ⟨sH, hsH⟩ : ∃ s : ByteArray, sK ++ ⟨#[35]⟩ = s := ⟨_, rfl⟩
          have hix : Lib.indexByte sH.data.toList 35 = ((headK k).length : Int) := by
            rw [← hsH, ba_append, Hsd.out]
            exact index_hash k
          rw [hsH]
          clear hsH
          refine (Tryz.strings_IndexByte sH 35 _).mono ?_
          rintro e X4 ⟨rfl, hx4⟩
          rw [show (35 : Int).toNat.toUInt8 = 35 from rfl, hix]
          subst hx4
          obtain ⟨hh, hhh⟩ : ∃ h, (headK k).length = h := ⟨_, rfl⟩
          have hhs : hh ≤ sK.size := by
            have h1 := headK_le k
            have h2 : sK.data.toList.length = sK.size := Array.length_toList
            rw [Hsd.out] at h2
            omega
          rw [hhh]
          have b1 : (0 : Int) ≤ (hh : Int) := by omega
          have b2 : (hh : Int) ≤ (sK.size : Int) := by omega
          have Hhh := Lib.hid hhh
          clear hix hhh
          go_wp2_with fail
          clear b1 b2
          obtain ⟨C, hC⟩ : ∃ C : Array Value, #[.string (⟨#[48]⟩ ++ sK), .string (sK ++ ⟨#[32]⟩), .string (⟨#[32]⟩ ++ sK), .string (⟨#[45]⟩ ++ sK), .string (sK ++ ⟨#[35, 48]⟩), .string r1, .string r2, .string (r3 ++ ⟨#[48]⟩), .string (sK.extract 0 hh)] = C := ⟨_, rfl⟩
          have HP := Lib.hid (no_texts (k := k) hsz Hsd.out R1.out R2.out R3.out h3z Hhh.out hC)
          rw [hC]
          obtain ⟨Y, hY⟩ : ∃ X, X4.heap.size = X := ⟨_, rfl⟩
          obtain ⟨V5, hV5⟩ : ∃ W, X4.alloc (.cells C 9) = W := ⟨_, rfl⟩
          have HY := Lib.hid (show V5.heap[Y]? = some (.cells C 9 (0, 0)) by rw [← hV5, ← hY]; exact World.alloc_heap_new X4 _)
          have F5 := Lib.hid (show Fr0 none' w V5 by rw [← hV5]; exact F3.out.alloc _)
          rw [hV5]
          try rw [hY]
          clear hV5 hY hC h3z hhs hsz
          go_loopw [26, 27, 28, 224] (fun _ _ _ c wr => ∃ i : Nat, c = .int .i64 i ∧ i ≤ 9 ∧ Hid (Fr0 none' V5 wr)) (fun _ _ _ c _ => 9 - (Go.RowKit.intOf c).toNat)
          case atStart => exact ⟨0, rfl, Nat.zero_le _, Fr0.refl _ _⟩
          case round =>
            obtain ⟨i, rfl, hi, hf⟩ := hrel
            by_cases hlt : i < 9
            · have d0 : decide ((i : Int) < 9) = true := decide_eq_true (by omega)
              have d0n : decide (i < 9) = true := decide_eq_true hlt
              have e5 : IntKind.i64.wrap ((i : Int) + 1) = (i : Int) + 1 := IntWalk.i64_in _ (by omega)
              have b1 : (0 : Int) ≤ (i : Int) := by omega
              have b2 : (i : Int) < 9 := by omega
              obtain ⟨u, hc, husz, hun⟩ := HP.out i hlt
              have y0 : wr.cell? ⟨Y, i, none⟩ = some (.string u) := by
                rw [cellsK_at ((hf.out.block Y (Array.getElem?_eq_some_iff.1 HY.out).1 id).trans HY.out)]
                exact hc
              have HPa := Lib.hid (Parse_any u husz wr (HL.out.later (F5.out.trans hf.out)))
              rw [parseV_no hun] at HPa
              have Hi := Lib.hid hlt
              clear hlt hi hc husz hun
              go_wp2_with fail
              refine HPa.out.mono ?_
              rintro e v1 ⟨rfl, hf2⟩
              have F6 := Lib.hid ((hf.out.trans hf2).alloc (.cells #[.int .i64 0, .int .i64 0, .int .i64 0] 28))
              have d1 : sameK ⟨0, 0, 0⟩ ⟨0, 0, 0⟩ = true := rfl
              clear hf2 hf y0
              go_wp2_with fail
              exact ⟨⟨i + 1, by simp, by have := Hi.out; omega, F6⟩, by simp [Go.RowKit.intOf]; have := Hi.out; omega⟩
            · obtain rfl : i = 9 := by omega
              rw [show ((9 : Nat) : Int) = (9 : Int) from rfl]
              have FE := Lib.hid (F5.out.trans hf.out)
              clear hlt hi hf
              go_wp2_with fail
              go_ret
              exact ⟨rfl, FE.out⟩
        simp only [List.foldl, Act.put, List.setIfInBounds_toArray, List.set_cons_zero, List.set_cons_succ] at hT
        have HT := Lib.hid hT
        clear hT
        refine wp_region_held_drew (S := fun W' => Fr0 none' wC W') (by kernel_rfl) ((Fr0.refl none' wC).drew) (fun hHeld => ?_)
        refine take_on (i := 0) (v := .slice (some ⟨g1, 0, none⟩) 12 c1) rfl (by kernel_rfl) (by kernel_rfl) (by kernel_rfl) (fun _ _ _ h => h) (by kernel_rfl) (fun W' hSW => ?_) (by assumption) ?_
        · clear hSW
          first | (go_simp; done) | exact rfl | (go_simp; rfl) | (go_simp; omega)
        try simp only [Act.put, List.setIfInBounds_toArray, List.set_cons_zero, List.set_cons_succ]
        refine take_on (i := 2) (v := .slice (some ⟨g1, 0, none⟩) 12 c1) rfl (by kernel_rfl) (by kernel_rfl) (by kernel_rfl) (fun _ _ _ h => h) (by kernel_rfl) (fun W' hSW => ?_) (by assumption) ?_
        · clear hSW
          first | (go_simp; done) | exact rfl | (go_simp; rfl) | (go_simp; omega)
        try simp only [Act.put, List.setIfInBounds_toArray, List.set_cons_zero, List.set_cons_succ]
        refine take_on (i := 3) (v := .int .i64 (cq : Int)) rfl (by kernel_rfl) (by kernel_rfl) (by kernel_rfl) (fun _ _ _ h => h) (by kernel_rfl) (fun W' hSW => ?_) (by assumption) ?_
        · clear hSW
          first | (go_simp; done) | exact rfl | (go_simp; rfl) | (go_simp; omega)
        try simp only [Act.put, List.setIfInBounds_toArray, List.set_cons_zero, List.set_cons_succ]
        refine take_on (i := 4) (v := .pointer (some ⟨g1, cq, none⟩)) rfl (by kernel_rfl) (by kernel_rfl) (by kernel_rfl) (fun _ _ _ h => h) (by kernel_rfl) (fun W' hSW => ?_) (by assumption) ?_
        · clear hSW
          first | (go_simp; done) | exact rfl | (go_simp; rfl) | (go_simp; omega)
        try simp only [Act.put, List.setIfInBounds_toArray, List.set_cons_zero, List.set_cons_succ]
        refine take_on (i := 5) (v := .int .u8 xb.toNat) rfl (by kernel_rfl) (by kernel_rfl) (by kernel_rfl) (fun _ _ _ h => h) (by kernel_rfl) (fun W' hSW => ?_) (by assumption) ?_
        · have y9 := HCell.out W' hSW
          clear hSW
          first | (go_simp; done) | exact rfl | (go_simp; rfl) | (go_simp; omega)
        try simp only [Act.put, List.setIfInBounds_toArray, List.set_cons_zero, List.set_cons_succ]
        refine wpAnyH_ready (rs := [1, 6]) (by kernel_rfl) (by simp) (AllReadyH.cons (op_at rfl) (fun K hK => ?_) (AllReadyH.cons (op_at rfl) (fun K hK => ?_) AllReadyH.nil))
        · rw [if_pos (by kernel_rfl)]
          go_simp
          refine (HCl.out _ hHeld).mono ?_
          rintro e w9 ⟨vC, rfl, hr, hf⟩
          have RC := Lib.hid (ownsRow_k_mono hr hHeld.size)
          have G := Lib.hid (hHeld.trans hf)
          try have LI := Lib.hid (LI.out.later hf)
          clear hr hf hHeld
          go_wp2_with fail
          refine hK.out _ _ G.out (fun hHeld => ?_)
          clear hK K
          try simp only [Act.put, List.setIfInBounds_toArray, List.set_cons_zero, List.set_cons_succ]
          refine take_call (i := 6) rfl (by kernel_rfl) (by kernel_rfl) (fun K hK => ?_)
          go_simp
          obtain ⟨lb, hlb⟩ : ∃ q, w9.heap.size = q := ⟨_, rfl⟩
          obtain ⟨w10, hW⟩ : ∃ W, (w9.alloc (.cells #[.int .u8 xb.toNat] 5)) = W := ⟨_, rfl⟩
          have fL : Fr0 none' w9 w10 := by rw [← hW]; exact ((Fr0.refl _ _).alloc _)
          have LI := Lib.hid (show BsIn w10 (some ⟨lb, 0, none⟩) [xb] by rw [← hW, ← hlb]; exact bsin_lit' (World.alloc_heap_new w9 _) _ rfl)
          have G := Lib.hid (hHeld.trans fL)
          try have RC := Lib.hid (ownsRow_q_fr RC.out fL (fun _ _ h => h))
          rw [hW]
          try rw [hlb]
          clear hW hlb fL hHeld
          refine hK.out _ _ G.out (fun hHeld => ?_)
          clear hK K
          try simp only [Act.put, List.setIfInBounds_toArray, List.set_cons_zero, List.set_cons_succ]
          refine take_call (i := 7) rfl (by kernel_rfl) (by kernel_rfl) (fun K hK => ?_)
          have hsrc := Lib.hid (show Src Tryz.prog 1 30 (.slice (some ⟨lb, 0, none⟩) 1 1) 1 (Lib.byteCells [xb]) w10 from Src.ofSlice _ Tryz.underlying30 ⟨lb, 0, none⟩ 1 1 (Lib.byteCells [xb]) (by rw [Lib.byteCells_length]; rfl) (LI.out.cells) (fun u hu => by obtain ⟨x, _, rfl⟩ := List.mem_map.1 hu; rfl))
          refine wp_app_q _ _ 30 30 rfl wC.heap.size 5 ib (.int .u8 0) 1 1 Tryz.underlying30 hib hb0 hb1 hb2 rfl (by decide) vC 12 _ rfl RC.out (.slice (some ⟨lb, 0, none⟩) 1 1) 1 _ rfl hsrc.out (by unfold maxLen; omega) (by omega) G.out.size ?_
          intro v9 V9 hown hgr _ _
          have hRC := RC.out.lt
          have G := Lib.hid (G.out.grown hgr (fun k hk hlt => by have := (hRC k hk).1; omega))
          have hr9 : V9.ownsRow wC.heap.size 5 1 v9 13 (Lib.byteCells (bytesK k ++ [xb])) := by rw [show Lib.byteCells (bytesK k ++ [xb]) = Lib.byteCells (bytesK k) ++ Lib.byteCells [xb] from by simp [Lib.byteCells]]; exact hown
          obtain ⟨g9, c9, rfl⟩ := Joins.ownsRow_form hr9 (by omega)
          have hcap9 := row_caps hr9
          have P9 := Lib.hid (BsIn.of_row hr9)
          clear hown hgr hRC hsrc hr9
          refine hK.out _ _ G.out (fun hHeld => ?_)
          clear hK K
          try simp only [Act.put, List.setIfInBounds_toArray, List.set_cons_zero, List.set_cons_succ]
          refine take_call (i := 8) rfl (by kernel_rfl) (by kernel_rfl) (fun K hK => ?_)
          go_simp
          have HRd := Lib.hid (Read_any (some ⟨g9, 0, none⟩) 13 c9 (bytesK k ++ [xb]) (by rw [List.length_append, bytesK_length]; rfl) hcap9.1 hcap9.2 V9 P9.out)
          rw [readV_len (by rw [List.length_append, bytesK_length]; simp)] at HRd
          refine HRd.out.mono ?_
          rintro e V10 ⟨rfl, hf⟩
          have G := Lib.hid (G.out.trans hf)
          clear hf hHeld HRd
          go_wp2_with fail
          refine hK.out _ _ G.out (fun hHeld => ?_)
          clear hK K
          try simp only [Act.put, List.setIfInBounds_toArray, List.set_cons_zero, List.set_cons_succ]
          refine take_on (i := 9) (v := .tuple #[.agg #[.int .i64 0, .int .i64 0, .int .i64 0], .int .i64 71]) rfl (by kernel_rfl) (by kernel_rfl) (by kernel_rfl) (fun _ _ _ h => h) (by kernel_rfl) (fun W' hSW => ?_) (by assumption) ?_
          · clear hSW
            first | (go_simp; done) | exact rfl | (go_simp; rfl) | (go_simp; omega)
          try simp only [Act.put, List.setIfInBounds_toArray, List.set_cons_zero, List.set_cons_succ]
          refine take_on (i := 10) (v := .agg #[.int .i64 0, .int .i64 0, .int .i64 0]) rfl (by kernel_rfl) (by kernel_rfl) (by kernel_rfl) (fun _ _ _ h => h) (by kernel_rfl) (fun W' hSW => ?_) (by assumption) ?_
          · clear hSW
            first | (go_simp; done) | exact rfl | (go_simp; rfl) | (go_simp; omega)
          try simp only [Act.put, List.setIfInBounds_toArray, List.set_cons_zero, List.set_cons_succ]
          refine take_on (i := 11) (v := .int .i64 71) rfl (by kernel_rfl) (by kernel_rfl) (by kernel_rfl) (fun _ _ _ h => h) (by kernel_rfl) (fun W' hSW => ?_) (by assumption) ?_
          · clear hSW
            first | (go_simp; done) | exact rfl | (go_simp; rfl) | (go_simp; omega)
          try simp only [Act.put, List.setIfInBounds_toArray, List.set_cons_zero, List.set_cons_succ]
          refine take_on (i := 12) (v := .int .i64 71) rfl (by kernel_rfl) (by kernel_rfl) (by kernel_rfl) (fun _ _ _ h => h) (by kernel_rfl) (fun W' hSW => ?_) (by assumption) ?_
          · clear hSW
            first | (go_simp; done) | exact rfl | (go_simp; rfl) | (go_simp; omega)
          try simp only [Act.put, List.setIfInBounds_toArray, List.set_cons_zero, List.set_cons_succ]
          refine wpAnyH_done (by kernel_rfl) ?_ _
          exact HT.out (fun n => ([.slice (some ⟨g1, 0, none⟩) 12 c1, vC, .slice (some ⟨g1, 0, none⟩) 12 c1, .int .i64 (cq : Int), .pointer (some ⟨g1, cq, none⟩), .int .u8 xb.toNat, .slice (some ⟨lb, 0, none⟩) 1 1, .slice (some ⟨g9, 0, none⟩) 13 c9, .tuple #[.agg #[.int .i64 0, .int .i64 0, .int .i64 0], .int .i64 71], .tuple #[.agg #[.int .i64 0, .int .i64 0, .int .i64 0], .int .i64 71], .agg #[.int .i64 0, .int .i64 0, .int .i64 0], .int .i64 71] : List Value).getD n undef) V10 hHeld
        · rw [if_pos (by kernel_rfl)]
          go_simp
          clear hHeld
          have hHeld : Fr0 none' wC wC := Fr0.refl _ _
          obtain ⟨lb, hlb⟩ : ∃ q, wC.heap.size = q := ⟨_, rfl⟩
          obtain ⟨w9, hW⟩ : ∃ W, (wC.alloc (.cells #[.int .u8 xb.toNat] 5)).drew = W := ⟨_, rfl⟩
          have fL : Fr0 none' wC w9 := by rw [← hW]; exact ((Fr0.refl _ _).alloc _).drew
          have LI := Lib.hid (show BsIn w9 (some ⟨lb, 0, none⟩) [xb] by rw [← hW, ← hlb]; exact bsin_lit' (World.alloc_heap_new wC _) _ rfl)
          have G := Lib.hid (hHeld.trans fL)
          try have RC := Lib.hid (ownsRow_q_fr RC.out fL (fun _ _ h => h))
          rw [hW]
          try rw [hlb]
          clear hW hlb fL hHeld
          refine hK.out _ _ G.out (fun hHeld => ?_)
          clear hK K
          try simp only [Act.put, List.setIfInBounds_toArray, List.set_cons_zero, List.set_cons_succ]
          refine take_call (i := 1) rfl (by kernel_rfl) (by kernel_rfl) (fun K hK => ?_)
          go_simp
          refine (HCl.out _ hHeld).mono ?_
          rintro e w10 ⟨vC, rfl, hr, hf⟩
          have RC := Lib.hid (ownsRow_k_mono hr hHeld.size)
          have G := Lib.hid (hHeld.trans hf)
          try have LI := Lib.hid (LI.out.later hf)
          clear hr hf hHeld
          go_wp2_with fail
          refine hK.out _ _ G.out (fun hHeld => ?_)
          clear hK K
          try simp only [Act.put, List.setIfInBounds_toArray, List.set_cons_zero, List.set_cons_succ]
          refine take_call (i := 7) rfl (by kernel_rfl) (by kernel_rfl) (fun K hK => ?_)
          have hsrc := Lib.hid (show Src Tryz.prog 1 30 (.slice (some ⟨lb, 0, none⟩) 1 1) 1 (Lib.byteCells [xb]) w10 from Src.ofSlice _ Tryz.underlying30 ⟨lb, 0, none⟩ 1 1 (Lib.byteCells [xb]) (by rw [Lib.byteCells_length]; rfl) (LI.out.cells) (fun u hu => by obtain ⟨x, _, rfl⟩ := List.mem_map.1 hu; rfl))
          refine wp_app_q _ _ 30 30 rfl wC.heap.size 5 ib (.int .u8 0) 1 1 Tryz.underlying30 hib hb0 hb1 hb2 rfl (by decide) vC 12 _ rfl RC.out (.slice (some ⟨lb, 0, none⟩) 1 1) 1 _ rfl hsrc.out (by unfold maxLen; omega) (by omega) G.out.size ?_
          intro v9 V9 hown hgr _ _
          have hRC := RC.out.lt
          have G := Lib.hid (G.out.grown hgr (fun k hk hlt => by have := (hRC k hk).1; omega))
          have hr9 : V9.ownsRow wC.heap.size 5 1 v9 13 (Lib.byteCells (bytesK k ++ [xb])) := by rw [show Lib.byteCells (bytesK k ++ [xb]) = Lib.byteCells (bytesK k) ++ Lib.byteCells [xb] from by simp [Lib.byteCells]]; exact hown
          obtain ⟨g9, c9, rfl⟩ := Joins.ownsRow_form hr9 (by omega)
          have hcap9 := row_caps hr9
          have P9 := Lib.hid (BsIn.of_row hr9)
          clear hown hgr hRC hsrc hr9
          refine hK.out _ _ G.out (fun hHeld => ?_)
          clear hK K
          try simp only [Act.put, List.setIfInBounds_toArray, List.set_cons_zero, List.set_cons_succ]
          refine take_call (i := 8) rfl (by kernel_rfl) (by kernel_rfl) (fun K hK => ?_)
          go_simp
          have HRd := Lib.hid (Read_any (some ⟨g9, 0, none⟩) 13 c9 (bytesK k ++ [xb]) (by rw [List.length_append, bytesK_length]; rfl) hcap9.1 hcap9.2 V9 P9.out)
          rw [readV_len (by rw [List.length_append, bytesK_length]; simp)] at HRd
          refine HRd.out.mono ?_
          rintro e V10 ⟨rfl, hf⟩
          have G := Lib.hid (G.out.trans hf)
          clear hf hHeld HRd
          go_wp2_with fail
          refine hK.out _ _ G.out (fun hHeld => ?_)
          clear hK K
          try simp only [Act.put, List.setIfInBounds_toArray, List.set_cons_zero, List.set_cons_succ]
          refine take_on (i := 9) (v := .tuple #[.agg #[.int .i64 0, .int .i64 0, .int .i64 0], .int .i64 71]) rfl (by kernel_rfl) (by kernel_rfl) (by kernel_rfl) (fun _ _ _ h => h) (by kernel_rfl) (fun W' hSW => ?_) (by assumption) ?_
          · clear hSW
            first | (go_simp; done) | exact rfl | (go_simp; rfl) | (go_simp; omega)
          try simp only [Act.put, List.setIfInBounds_toArray, List.set_cons_zero, List.set_cons_succ]
          refine take_on (i := 10) (v := .agg #[.int .i64 0, .int .i64 0, .int .i64 0]) rfl (by kernel_rfl) (by kernel_rfl) (by kernel_rfl) (fun _ _ _ h => h) (by kernel_rfl) (fun W' hSW => ?_) (by assumption) ?_
          · clear hSW
            first | (go_simp; done) | exact rfl | (go_simp; rfl) | (go_simp; omega)
          try simp only [Act.put, List.setIfInBounds_toArray, List.set_cons_zero, List.set_cons_succ]
          refine take_on (i := 11) (v := .int .i64 71) rfl (by kernel_rfl) (by kernel_rfl) (by kernel_rfl) (fun _ _ _ h => h) (by kernel_rfl) (fun W' hSW => ?_) (by assumption) ?_
          · clear hSW
            first | (go_simp; done) | exact rfl | (go_simp; rfl) | (go_simp; omega)
          try simp only [Act.put, List.setIfInBounds_toArray, List.set_cons_zero, List.set_cons_succ]
          refine take_on (i := 12) (v := .int .i64 71) rfl (by kernel_rfl) (by kernel_rfl) (by kernel_rfl) (fun _ _ _ h => h) (by kernel_rfl) (fun W' hSW => ?_) (by assumption) ?_
          · clear hSW
            first | (go_simp; done) | exact rfl | (go_simp; rfl) | (go_simp; omega)
          try simp only [Act.put, List.setIfInBounds_toArray, List.set_cons_zero, List.set_cons_succ]
          refine wpAnyH_done (by kernel_rfl) ?_ _
          exact HT.out (fun n => ([.slice (some ⟨g1, 0, none⟩) 12 c1, vC, .slice (some ⟨g1, 0, none⟩) 12 c1, .int .i64 (cq : Int), .pointer (some ⟨g1, cq, none⟩), .int .u8 xb.toNat, .slice (some ⟨lb, 0, none⟩) 1 1, .slice (some ⟨g9, 0, none⟩) 13 c9, .tuple #[.agg #[.int .i64 0, .int .i64 0, .int .i64 0], .int .i64 71], .tuple #[.agg #[.int .i64 0, .int .i64 0, .int .i64 0], .int .i64 71], .agg #[.int .i64 0, .int .i64 0, .int .i64 0], .int .i64 71] : List Value).getD n undef) V10 hHeld
  · skip
    have hw : ((way : Int) % 6) = 3 := by omega
    obtain ⟨z, hz⟩ : ∃ z, max n 17 = z := ⟨_, rfl⟩
    have hbad : ¬ RightK ⟨k.time, z, k.seq⟩ := by have := Hx.out; unfold RightK at this ⊢; simp only; omega
    have Hbad := Lib.hid hbad
    clear hbad hways
    go_wp2_with fail
    clear hw
    try rw [hz]
    clear hz
    obtain ⟨q1, hq1⟩ : ∃ q, w2.heap.size = q := ⟨_, rfl⟩
    rw [hq1]
    obtain ⟨W3, hW3⟩ : ∃ W, (w2.alloc (.cells #[.int .i64 k.time, .int .i64 k.source, .int .i64 k.seq] 28)).alloc (.cells #[.int .i64 (k.time), .int .i64 (z), .int .i64 (k.seq)] 28) = W := ⟨_, rfl⟩
    have hs1 : (w2.alloc (.cells #[.int .i64 k.time, .int .i64 k.source, .int .i64 k.seq] 28)).heap.size = q1 + 1 := by rw [← hq1]; simp
    have KX := Lib.hid (show KeyAt W3 q1 k by
      rw [← hW3]
      unfold KeyAt
      rw [Below.heap_alloc _ _ _ (by rw [hs1]; omega), ← hq1]
      exact World.alloc_heap_new w2 _)
    have KB := Lib.hid (show KeyAt W3 (q1 + 1) ⟨k.time, z, k.seq⟩ by rw [← hW3, ← hs1]; exact World.alloc_heap_new _ _)
    have F3 := Lib.hid (show Fr0 none' w W3 by rw [← hW3]; exact (F2.out.alloc _).alloc _)
    rw [hW3]
    clear hW3 hs1 hq1
    obtain ⟨q2, hq2⟩ : ∃ q, q1 + 1 = q := ⟨_, rfl⟩
    rw [hq2] at KB ⊢
    clear hq2
    have HB1 := Lib.hid (Bytes_wrong ⟨k.time, z, k.seq⟩ Hbad.out)
    have HB2 := Lib.hid (Text_wrong ⟨k.time, z, k.seq⟩ Hbad.out)
    have HB3 := Lib.hid (Next_wrong ⟨k.time, z, k.seq⟩ Hbad.out)
    have HB4 := Lib.hid (Back_wrong ⟨k.time, z, k.seq⟩ Hbad.out)
    simp only [keyV, zeroK] at HB1 HB2 HB3 HB4
    refine (HB1.out _).mono ?_
    rintro e w4 ⟨rfl, hf⟩
    have F3 := Lib.hid (F3.out.trans hf)
    have KX := Lib.hid (KX.out.fr0 (S := none') hf (fun h => h))
    have KB := Lib.hid (KB.out.fr0 (S := none') hf (fun h => h))
    try clear y0 y1 y2
    have y0 := KB.out.cell (i := 0) (by omega)
    have y1 := KB.out.cell (i := 1) (by omega)
    have y2 := KB.out.cell (i := 2) (by omega)
    simp [nth3] at y0 y1 y2
    clear hf
    go_wp2_with fail
    refine (HB2.out _).mono ?_
    rintro e w5 ⟨rfl, hf⟩
    have F3 := Lib.hid (F3.out.trans hf)
    have KX := Lib.hid (KX.out.fr0 (S := none') hf (fun h => h))
    have KB := Lib.hid (KB.out.fr0 (S := none') hf (fun h => h))
    try clear y0 y1 y2
    have y0 := KB.out.cell (i := 0) (by omega)
    have y1 := KB.out.cell (i := 1) (by omega)
    have y2 := KB.out.cell (i := 2) (by omega)
    simp [nth3] at y0 y1 y2
    clear hf
    go_wp2_with fail
    refine (HB3.out _).mono ?_
    rintro e w6 ⟨rfl, hf⟩
    have hf := hf.alloc (.cells #[.int .i64 0, .int .i64 0, .int .i64 0] 28)
    have F3 := Lib.hid (F3.out.trans hf)
    have KX := Lib.hid (KX.out.fr0 (S := none') hf (fun h => h))
    have KB := Lib.hid (KB.out.fr0 (S := none') hf (fun h => h))
    try clear y0 y1 y2
    have y0 := KB.out.cell (i := 0) (by omega)
    have y1 := KB.out.cell (i := 1) (by omega)
    have y2 := KB.out.cell (i := 2) (by omega)
    simp [nth3] at y0 y1 y2
    clear hf
    go_wp2_with fail
    obtain ⟨q3, hq3⟩ : ∃ q, w6.heap.size = q := ⟨_, rfl⟩
    obtain ⟨W6, hW6⟩ : ∃ W, w6.alloc (.cells #[.int .i64 0, .int .i64 0, .int .i64 0] 28) = W := ⟨_, rfl⟩
    have K3 := Lib.hid (show KeyAt W6 q3 zeroK by rw [← hW6, ← hq3]; exact World.alloc_heap_new w6 _)
    rw [hW6] at F3 KX KB ⊢
    try rw [hq3]
    clear hW6 hq3 y0 y1 y2
    refine (HB4.out _).mono ?_
    rintro e w7 ⟨rfl, hf⟩
    have hf := hf.alloc (.cells #[.int .i64 0, .int .i64 0, .int .i64 0] 28)
    have F3 := Lib.hid (F3.out.trans hf)
    have KX := Lib.hid (KX.out.fr0 (S := none') hf (fun h => h))
    have KB := Lib.hid (KB.out.fr0 (S := none') hf (fun h => h))
    try clear y0 y1 y2
    have K3 := Lib.hid (K3.out.fr0 (S := none') hf (fun h => h))
    have y0 := KB.out.cell (i := 0) (by omega)
    have y1 := KB.out.cell (i := 1) (by omega)
    have y2 := KB.out.cell (i := 2) (by omega)
    simp [nth3] at y0 y1 y2
    clear hf
    go_wp2_with fail
    clear y0 y1 y2
    obtain ⟨q4, hq4⟩ : ∃ q, w7.heap.size = q := ⟨_, rfl⟩
    obtain ⟨W7, hW7⟩ : ∃ W, w7.alloc (.cells #[.int .i64 0, .int .i64 0, .int .i64 0] 28) = W := ⟨_, rfl⟩
    have K4 := Lib.hid (show KeyAt W7 q4 zeroK by rw [← hW7, ← hq4]; exact World.alloc_heap_new w7 _)
    rw [hW7] at F3 KX KB K3 ⊢
    try rw [hq4]
    clear hW7 hq4
    have HR := Lib.hid (Right_any ⟨k.time, z, k.seq⟩ W7)
    rw [decide_eq_false Hbad.out] at HR
    simp only [keyV] at HR
    refine HR.out.mono ?_
    rintro e w8 ⟨rfl, hf⟩
    have F3 := Lib.hid (F3.out.trans hf)
    have KX := Lib.hid (KX.out.fr0 (S := none') hf (fun h => h))
    have KB := Lib.hid (KB.out.fr0 (S := none') hf (fun h => h))
    try clear y0 y1 y2
    have K3 := Lib.hid (K3.out.fr0 (S := none') hf (fun h => h))
    have K4 := Lib.hid (K4.out.fr0 (S := none') hf (fun h => h))
    have u0 := K3.out.cell (i := 0) (by omega)
    have u1 := K3.out.cell (i := 1) (by omega)
    have u2 := K3.out.cell (i := 2) (by omega)
    have v0 := K4.out.cell (i := 0) (by omega)
    have v1 := K4.out.cell (i := 1) (by omega)
    have v2 := K4.out.cell (i := 2) (by omega)
    simp [nth3, zeroK] at u0 u1 u2 v0 v1 v2
    have d1 : sameK ⟨0, 0, 0⟩ ⟨0, 0, 0⟩ = true := rfl
    clear hf
    go_wp2_with fail
    clear d1 u0 u1 u2 v0 v1 v2
    obtain ⟨t1, ht1⟩ : ∃ t, min n (-1) = t := ⟨_, rfl⟩
    obtain ⟨t2, ht2⟩ : ∃ t, max n 281474976710657 = t := ⟨_, rfl⟩
    rw [ht1, ht2]
    obtain ⟨q5, hq5⟩ : ∃ q, w8.heap.size = q := ⟨_, rfl⟩
    obtain ⟨W9, hW9⟩ : ∃ W, w8.alloc (.cells #[.int .i64 t1, .int .i64 t2] 3) = W := ⟨_, rfl⟩
    have HR9 := Lib.hid (show W9.heap[q5]? = some (.cells #[.int .i64 t1, .int .i64 t2] 3 (0, 0)) by rw [← hW9, ← hq5]; exact World.alloc_heap_new w8 _)
    have hf : Fr0 none' w8 W9 := by rw [← hW9]; exact (Fr0.refl _ _).alloc _
    have F3 := Lib.hid (F3.out.trans hf)
    have KX := Lib.hid (KX.out.fr0 (S := none') hf (fun h => h))
    have HE := Lib.hid (fun (i : Nat) (hi : i < 2) => show ∃ t : Int, #[(.int .i64 t1 : Value), .int .i64 t2][i]? = some (.int .i64 t) ∧ endsV t = (zeroK, zeroK, 2) from by
      match i, hi with
      | 0, _ => exact ⟨t1, rfl, by unfold endsV; rw [if_neg (by omega)]⟩
      | 1, _ => exact ⟨t2, rfl, by unfold endsV; rw [if_neg (by omega)]⟩)
    rw [hW9]
    try rw [hq5]
    clear hW9 hq5 hf ht1 ht2 K3 K4 KB
    go_loopw [20, 21, 22, 23, 126] (fun _ _ _ _ c wr => ∃ i : Nat, c = .int .i64 i ∧ i ≤ 2 ∧ Hid (Fr0 none' W9 wr)) (fun _ _ _ _ c _ => 2 - (Go.RowKit.intOf c).toNat)
    case atStart => exact ⟨0, rfl, Nat.zero_le _, Fr0.refl _ _⟩
    case round =>
      obtain ⟨i, rfl, hi, hf⟩ := hrel
      by_cases hlt : i < 2
      · have d0 : decide ((i : Int) < 2) = true := decide_eq_true (by omega)
        have d0n : decide (i < 2) = true := decide_eq_true hlt
        have e5 : IntKind.i64.wrap ((i : Int) + 1) = (i : Int) + 1 := IntWalk.i64_in _ (by omega)
        have b1 : (0 : Int) ≤ (i : Int) := by omega
        have b2 : (i : Int) < 2 := by omega
        obtain ⟨t, hc, ht⟩ := HE.out i hlt
        have y0 : wr.cell? ⟨q5, i, none⟩ = some (.int .i64 t) := by
          rw [cellsK_at ((hf.out.block q5 (Array.getElem?_eq_some_iff.1 HR9.out).1 id).trans HR9.out)]
          exact hc
        have HEn := Lib.hid (Ends_any t wr)
        rw [ht] at HEn
        simp only [keyV, zeroK] at HEn
        have Hi := Lib.hid hlt
        clear hlt hi hc ht
        go_wp2_with fail
        refine HEn.out.mono ?_
        rintro e v1 ⟨rfl, hf2⟩
        have F6 := Lib.hid ((hf.out.trans hf2).alloc (.cells #[.int .i64 0, .int .i64 0, .int .i64 0] 28) |>.alloc (.cells #[.int .i64 0, .int .i64 0, .int .i64 0] 28))
        have d1 : sameK ⟨0, 0, 0⟩ ⟨0, 0, 0⟩ = true := rfl
        clear hf2 hf y0
        go_wp2_with fail
        exact ⟨⟨i + 1, by simp, by have := Hi.out; omega, F6⟩, by simp [Go.RowKit.intOf]; have := Hi.out; omega⟩
      · obtain rfl : i = 2 := by omega
        rw [show ((2 : Nat) : Int) = (2 : Int) from rfl]
        have F3 := Lib.hid (F3.out.trans hf.out)
        have KX := Lib.hid (KX.out.fr0 (S := none') hf.out (fun h => h))
        have y0 := KX.out.cell (i := 0) (by omega)
        have y1 := KX.out.cell (i := 1) (by omega)
        have y2 := KX.out.cell (i := 2) (by omega)
        simp [nth3] at y0 y1 y2
        have HBy := Lib.hid (Bytes_any k Hx.out)
        have HTx := Lib.hid (Text_any k Hx.out)
        simp only [keyV] at HBy HTx
        clear hlt hi hf
        go_wp2_with fail
        refine (HBy.out _).mono ?_
        rintro e wA ⟨v1, rfl, hr, hf⟩
        have F3 := Lib.hid (F3.out.trans hf)
        have KX := Lib.hid (KX.out.fr0 (S := none') hf (fun h => h))
        obtain ⟨g1, c1, rfl⟩ := Joins.ownsRow_form hr (by omega)
        have hcap := row_caps hr
        have P1 := Lib.hid (BsIn.of_row hr)
        clear hf hr y0 y1 y2
        have y0 := KX.out.cell (i := 0) (by omega)
        have y1 := KX.out.cell (i := 1) (by omega)
        have y2 := KX.out.cell (i := 2) (by omega)
        simp [nth3] at y0 y1 y2
        go_wp2_with fail
        refine (HTx.out _ (HL.out.later F3.out)).mono ?_
        rintro e wB ⟨rfl, hf⟩
        have F3 := Lib.hid (F3.out.trans hf)
        have P1 := Lib.hid (P1.out.later hf)
        clear hf y0 y1 y2 KX
        obtain ⟨cq, hcq⟩ : ∃ c, cut % 12 = c := ⟨_, rfl⟩
        have hc12 : cq < 12 := by rw [← hcq]; exact Nat.mod_lt _ (by omega)
        have z0 : IntKind.i64.wrap (cut : Int) = (cut : Int) := IntWalk.i64_in _ (by omega)
        have z1 : (cut : Int).tmod 12 = (cq : Int) := by rw [Int.tmod_eq_emod_of_nonneg (by omega), ← hcq]; push_cast; rfl
        have z2 : (cut : Int) % 12 = (cq : Int) := by rw [← hcq]; push_cast; rfl
        have z3 : IntKind.i64.wrap (cq : Int) = (cq : Int) := IntWalk.i64_in _ (by omega)
        have b1 : (0 : Int) ≤ (cq : Int) := by omega
        have b2 : (cq : Int) ≤ (12 : Int) := by omega
        have b3 : (cq : Int) ≤ (c1 : Int) := by have := hcap.1; omega
        have hne : (textK k).isEmpty = false := by
          obtain ⟨c, r, h, _⟩ := textK_head k
          rw [h]; rfl
        clear hcq
        go_wp2_with fail
        clear hne z0 z1 z2 z3
        have HRd := Lib.hid (Read_any (some ⟨g1, 0, none⟩) cq c1 (((bytesK k).drop 0).take cq) (by rw [List.length_take, List.length_drop, bytesK_length]; omega) (by have := hcap.1; omega) hcap.2 wB (by have := P1.out.sub 0 cq; simpa using this))
        rw [readV_len (by rw [List.length_take, List.length_drop, bytesK_length]; omega)] at HRd
        refine HRd.out.mono ?_
        rintro e wC ⟨rfl, hf⟩
        have F3 := Lib.hid (F3.out.trans hf)
        have P1 := Lib.hid (P1.out.later hf)
        have b4 : (cq : Int) < (12 : Int) := by omega
        clear hf HRd b2 b3
        obtain ⟨xb, hxb⟩ : ∃ x, (bytesK k)[cq]? = some x := ⟨_, List.getElem?_eq_getElem (by rw [bytesK_length]; exact hc12)⟩
        have HCell := Lib.hid (fun (W' : World) (h : Fr0 none' wC W') => show W'.cell? ⟨g1, cq, none⟩ = some (.int .u8 xb.toNat) from by
          obtain ⟨g, o, e, hc⟩ := P1.out.later h cq xb hxb
          cases e
          rw [Nat.zero_add] at hc
          exact hc)
        have HCl := Lib.hid (fun (W : World) (hf : Fr0 none' wC W) => Clone_row8 (cap := c1) (P1.out.later hf) (bytesK_length k) (by omega))
        clear hxb
        go_wp2_with fail
        refine viaT (T := Nat → Value) (fun us W => Fr0 none' wC W) (fun us => [(183, us 0), (184, us 1), (185, us 2), (186, us 3), (187, us 4), (188, us 5), (189, us 6), (190, us 7), (191, us 8), (182, us 9), (192, us 10), (193, us 11), (14, .int .i64 71)]) (fun us W hF => ?_) (fun hT => ?_)
        · simp only [List.foldl, Act.put, List.setIfInBounds_toArray, List.set_cons_zero, List.set_cons_succ]
          have F3 := Lib.hid (F3.out.trans hF)
          clear hF HCl HCell P1 hc12 b1 b4
          obtain ⟨sK, hsK⟩ : ∃ s : ByteArray, (⟨(textK k).toArray⟩ : ByteArray) = s := ⟨_, rfl⟩
          have hsz : sK.size ≤ 40 := by rw [← hsK]; show (textK k).toArray.size ≤ 40; rw [List.size_toArray]; exact textK_length Hx.out
          have hsd : sK.data.toList = textK k := by rw [← hsK]
          have Hsd := Lib.hid hsd
          rw [hsK]
          clear hsK hsd
          go_wp2_with fail
          obtain ⟨mm, hmm⟩ := HM.out
          have hct : Lib.countB sK ⟨#[64]⟩ = 1 := by show Lib.count sK.data.toList [64] = 1; rw [Hsd.out]; exact count_at k
          refine (Tryz.strings_Replace sK ⟨#[64]⟩ ⟨#[35]⟩ 1 mm _ (by omega) (F3.out.later hmm) (by decide) (by rw [hct]; show sK.size + 1 * 1 ≤ _; omega)).mono ?_
          rintro e X1 ⟨rfl, hb⟩
          have F3 := Lib.hid (F3.out.trans (below_to0 hb))
          clear hb hct hmm
          obtain ⟨r1, hr1⟩ : ∃ s : ByteArray, (⟨(Lib.replace sK.data.toList [64] [35] 1).toArray⟩ : ByteArray) = s := ⟨_, rfl⟩
          have R1 := Lib.hid (show r1.data.toList = Lib.replace (textK k) [64] [35] 1 by rw [← hr1, ← Hsd.out])
          try simp only [] at hr1
          rw [show (⟨(Lib.replace sK.data.toList (⟨#[64]⟩ : ByteArray).data.toList (⟨#[35]⟩ : ByteArray).data.toList 1).toArray⟩ : ByteArray) = r1 from hr1]
          clear hr1
          go_wp2_with fail
          obtain ⟨mm, hmm⟩ := HM.out
          have hct : Lib.countB sK ⟨#[35]⟩ = 1 := by show Lib.count sK.data.toList [35] = 1; rw [Hsd.out]; exact count_hash k
          refine (Tryz.strings_Replace sK ⟨#[35]⟩ ⟨#[64]⟩ 1 mm _ (by omega) (F3.out.later hmm) (by decide) (by rw [hct]; show sK.size + 1 * 1 ≤ _; omega)).mono ?_
          rintro e X2 ⟨rfl, hb⟩
          have F3 := Lib.hid (F3.out.trans (below_to0 hb))
          clear hb hct hmm
          obtain ⟨r2, hr2⟩ : ∃ s : ByteArray, (⟨(Lib.replace sK.data.toList [35] [64] 1).toArray⟩ : ByteArray) = s := ⟨_, rfl⟩
          have R2 := Lib.hid (show r2.data.toList = Lib.replace (textK k) [35] [64] 1 by rw [← hr2, ← Hsd.out])
          rw [show (⟨(Lib.replace sK.data.toList (⟨#[35]⟩ : ByteArray).data.toList (⟨#[64]⟩ : ByteArray).data.toList 1).toArray⟩ : ByteArray) = r2 from hr2]
          clear hr2
          go_wp2_with fail
          obtain ⟨mm, hmm⟩ := HM.out
          have hct : Lib.countB sK ⟨#[35]⟩ = 1 := by show Lib.count sK.data.toList [35] = 1; rw [Hsd.out]; exact count_hash k
          refine (Tryz.strings_Replace sK ⟨#[35]⟩ ⟨#[35, 48]⟩ 1 mm _ (by omega) (F3.out.later hmm) (by decide) (by rw [hct]; show sK.size + 1 * 2 ≤ _; omega)).mono ?_
          rintro e X3 ⟨rfl, hb⟩
          have F3 := Lib.hid (F3.out.trans (below_to0 hb))
          clear hb hct hmm
          obtain ⟨r3, hr3⟩ : ∃ s : ByteArray, (⟨(Lib.replace sK.data.toList [35] [35, 48] 1).toArray⟩ : ByteArray) = s := ⟨_, rfl⟩
          have R3 := Lib.hid (show r3.data.toList = Lib.replace (textK k) [35] [35, 48] 1 by rw [← hr3, ← Hsd.out])
          have h3z : r3.size ≤ 41 := by
            have h1 := rep_zero k
            have h2 := textK_hash k
            have h3 : r3.data.toList.length = (textK k).length + 1 := by rw [R3.out, h1, h2]; simp; omega
            have h4 : r3.data.toList.length = r3.size := Array.length_toList
            have h5 := textK_length Hx.out
            omega
          rw [show (⟨(Lib.replace sK.data.toList (⟨#[35]⟩ : ByteArray).data.toList (⟨#[35, 48]⟩ : ByteArray).data.toList 1).toArray⟩ : ByteArray) = r3 from hr3]
          clear hr3
          go_wp2_with fail
          obtain ⟨sH, hsH⟩ : ∃ s : ByteArray, sK ++ ⟨#[35]⟩ = s := ⟨_, rfl⟩
          have hix : Lib.indexByte sH.data.toList 35 = ((headK k).length : Int) := by
            rw [← hsH, ba_append, Hsd.out]
            exact index_hash k
          rw [hsH]
          clear hsH
          refine (Tryz.strings_IndexByte sH 35 _).mono ?_
          rintro e X4 ⟨rfl, hx4⟩
          rw [show (35 : Int).toNat.toUInt8 = 35 from rfl, hix]
          subst hx4
          obtain ⟨hh, hhh⟩ : ∃ h, (headK k).length = h := ⟨_, rfl⟩
          have hhs : hh ≤ sK.size := by
            have h1 := headK_le k
            have h2 : sK.data.toList.length = sK.size := Array.length_toList
            rw [Hsd.out] at h2
            omega
          rw [hhh]
          have b1 : (0 : Int) ≤ (hh : Int) := by omega
          have b2 : (hh : Int) ≤ (sK.size : Int) := by omega
          have Hhh := Lib.hid hhh
          clear hix hhh
          go_wp2_with fail
          clear b1 b2
          obtain ⟨C, hC⟩ : ∃ C : Array Value, #[.string (⟨#[48]⟩ ++ sK), .string (sK ++ ⟨#[32]⟩), .string (⟨#[32]⟩ ++ sK), .string (⟨#[45]⟩ ++ sK), .string (sK ++ ⟨#[35, 48]⟩), .string r1, .string r2, .string (r3 ++ ⟨#[48]⟩), .string (sK.extract 0 hh)] = C := ⟨_, rfl⟩
          have HP := Lib.hid (no_texts (k := k) hsz Hsd.out R1.out R2.out R3.out h3z Hhh.out hC)
          rw [hC]
          obtain ⟨Y, hY⟩ : ∃ X, X4.heap.size = X := ⟨_, rfl⟩
          obtain ⟨V5, hV5⟩ : ∃ W, X4.alloc (.cells C 9) = W := ⟨_, rfl⟩
          have HY := Lib.hid (show V5.heap[Y]? = some (.cells C 9 (0, 0)) by rw [← hV5, ← hY]; exact World.alloc_heap_new X4 _)
          have F5 := Lib.hid (show Fr0 none' w V5 by rw [← hV5]; exact F3.out.alloc _)
          rw [hV5]
          try rw [hY]
          clear hV5 hY hC h3z hhs hsz
          go_loopw [26, 27, 28, 224] (fun _ _ _ c wr => ∃ i : Nat, c = .int .i64 i ∧ i ≤ 9 ∧ Hid (Fr0 none' V5 wr)) (fun _ _ _ c _ => 9 - (Go.RowKit.intOf c).toNat)
          case atStart => exact ⟨0, rfl, Nat.zero_le _, Fr0.refl _ _⟩
          case round =>
            obtain ⟨i, rfl, hi, hf⟩ := hrel
            by_cases hlt : i < 9
            · have d0 : decide ((i : Int) < 9) = true := decide_eq_true (by omega)
              have d0n : decide (i < 9) = true := decide_eq_true hlt
              have e5 : IntKind.i64.wrap ((i : Int) + 1) = (i : Int) + 1 := IntWalk.i64_in _ (by omega)
              have b1 : (0 : Int) ≤ (i : Int) := by omega
              have b2 : (i : Int) < 9 := by omega
              obtain ⟨u, hc, husz, hun⟩ := HP.out i hlt
              have y0 : wr.cell? ⟨Y, i, none⟩ = some (.string u) := by
                rw [cellsK_at ((hf.out.block Y (Array.getElem?_eq_some_iff.1 HY.out).1 id).trans HY.out)]
                exact hc
              have HPa := Lib.hid (Parse_any u husz wr (HL.out.later (F5.out.trans hf.out)))
              rw [parseV_no hun] at HPa
              have Hi := Lib.hid hlt
              clear hlt hi hc husz hun
              go_wp2_with fail
              refine HPa.out.mono ?_
              rintro e v1 ⟨rfl, hf2⟩
              have F6 := Lib.hid ((hf.out.trans hf2).alloc (.cells #[.int .i64 0, .int .i64 0, .int .i64 0] 28))
              have d1 : sameK ⟨0, 0, 0⟩ ⟨0, 0, 0⟩ = true := rfl
              clear hf2 hf y0
              go_wp2_with fail
              exact ⟨⟨i + 1, by simp, by have := Hi.out; omega, F6⟩, by simp [Go.RowKit.intOf]; have := Hi.out; omega⟩
            · obtain rfl : i = 9 := by omega
              rw [show ((9 : Nat) : Int) = (9 : Int) from rfl]
              have FE := Lib.hid (F5.out.trans hf.out)
              clear hlt hi hf
              go_wp2_with fail
              go_ret
              exact ⟨rfl, FE.out⟩
        simp only [List.foldl, Act.put, List.setIfInBounds_toArray, List.set_cons_zero, List.set_cons_succ] at hT
        have HT := Lib.hid hT
        clear hT
        refine wp_region_held_drew (S := fun W' => Fr0 none' wC W') (by kernel_rfl) ((Fr0.refl none' wC).drew) (fun hHeld => ?_)
        refine take_on (i := 0) (v := .slice (some ⟨g1, 0, none⟩) 12 c1) rfl (by kernel_rfl) (by kernel_rfl) (by kernel_rfl) (fun _ _ _ h => h) (by kernel_rfl) (fun W' hSW => ?_) (by assumption) ?_
        · clear hSW
          first | (go_simp; done) | exact rfl | (go_simp; rfl) | (go_simp; omega)
        try simp only [Act.put, List.setIfInBounds_toArray, List.set_cons_zero, List.set_cons_succ]
        refine take_on (i := 2) (v := .slice (some ⟨g1, 0, none⟩) 12 c1) rfl (by kernel_rfl) (by kernel_rfl) (by kernel_rfl) (fun _ _ _ h => h) (by kernel_rfl) (fun W' hSW => ?_) (by assumption) ?_
        · clear hSW
          first | (go_simp; done) | exact rfl | (go_simp; rfl) | (go_simp; omega)
        try simp only [Act.put, List.setIfInBounds_toArray, List.set_cons_zero, List.set_cons_succ]
        refine take_on (i := 3) (v := .int .i64 (cq : Int)) rfl (by kernel_rfl) (by kernel_rfl) (by kernel_rfl) (fun _ _ _ h => h) (by kernel_rfl) (fun W' hSW => ?_) (by assumption) ?_
        · clear hSW
          first | (go_simp; done) | exact rfl | (go_simp; rfl) | (go_simp; omega)
        try simp only [Act.put, List.setIfInBounds_toArray, List.set_cons_zero, List.set_cons_succ]
        refine take_on (i := 4) (v := .pointer (some ⟨g1, cq, none⟩)) rfl (by kernel_rfl) (by kernel_rfl) (by kernel_rfl) (fun _ _ _ h => h) (by kernel_rfl) (fun W' hSW => ?_) (by assumption) ?_
        · clear hSW
          first | (go_simp; done) | exact rfl | (go_simp; rfl) | (go_simp; omega)
        try simp only [Act.put, List.setIfInBounds_toArray, List.set_cons_zero, List.set_cons_succ]
        refine take_on (i := 5) (v := .int .u8 xb.toNat) rfl (by kernel_rfl) (by kernel_rfl) (by kernel_rfl) (fun _ _ _ h => h) (by kernel_rfl) (fun W' hSW => ?_) (by assumption) ?_
        · have y9 := HCell.out W' hSW
          clear hSW
          first | (go_simp; done) | exact rfl | (go_simp; rfl) | (go_simp; omega)
        try simp only [Act.put, List.setIfInBounds_toArray, List.set_cons_zero, List.set_cons_succ]
        refine wpAnyH_ready (rs := [1, 6]) (by kernel_rfl) (by simp) (AllReadyH.cons (op_at rfl) (fun K hK => ?_) (AllReadyH.cons (op_at rfl) (fun K hK => ?_) AllReadyH.nil))
        · rw [if_pos (by kernel_rfl)]
          go_simp
          refine (HCl.out _ hHeld).mono ?_
          rintro e w9 ⟨vC, rfl, hr, hf⟩
          have RC := Lib.hid (ownsRow_k_mono hr hHeld.size)
          have G := Lib.hid (hHeld.trans hf)
          try have LI := Lib.hid (LI.out.later hf)
          clear hr hf hHeld
          go_wp2_with fail
          refine hK.out _ _ G.out (fun hHeld => ?_)
          clear hK K
          try simp only [Act.put, List.setIfInBounds_toArray, List.set_cons_zero, List.set_cons_succ]
          refine take_call (i := 6) rfl (by kernel_rfl) (by kernel_rfl) (fun K hK => ?_)
          go_simp
          obtain ⟨lb, hlb⟩ : ∃ q, w9.heap.size = q := ⟨_, rfl⟩
          obtain ⟨w10, hW⟩ : ∃ W, (w9.alloc (.cells #[.int .u8 xb.toNat] 5)) = W := ⟨_, rfl⟩
          have fL : Fr0 none' w9 w10 := by rw [← hW]; exact ((Fr0.refl _ _).alloc _)
          have LI := Lib.hid (show BsIn w10 (some ⟨lb, 0, none⟩) [xb] by rw [← hW, ← hlb]; exact bsin_lit' (World.alloc_heap_new w9 _) _ rfl)
          have G := Lib.hid (hHeld.trans fL)
          try have RC := Lib.hid (ownsRow_q_fr RC.out fL (fun _ _ h => h))
          rw [hW]
          try rw [hlb]
          clear hW hlb fL hHeld
          refine hK.out _ _ G.out (fun hHeld => ?_)
          clear hK K
          try simp only [Act.put, List.setIfInBounds_toArray, List.set_cons_zero, List.set_cons_succ]
          refine take_call (i := 7) rfl (by kernel_rfl) (by kernel_rfl) (fun K hK => ?_)
          have hsrc := Lib.hid (show Src Tryz.prog 1 30 (.slice (some ⟨lb, 0, none⟩) 1 1) 1 (Lib.byteCells [xb]) w10 from Src.ofSlice _ Tryz.underlying30 ⟨lb, 0, none⟩ 1 1 (Lib.byteCells [xb]) (by rw [Lib.byteCells_length]; rfl) (LI.out.cells) (fun u hu => by obtain ⟨x, _, rfl⟩ := List.mem_map.1 hu; rfl))
          refine wp_app_q _ _ 30 30 rfl wC.heap.size 5 ib (.int .u8 0) 1 1 Tryz.underlying30 hib hb0 hb1 hb2 rfl (by decide) vC 12 _ rfl RC.out (.slice (some ⟨lb, 0, none⟩) 1 1) 1 _ rfl hsrc.out (by unfold maxLen; omega) (by omega) G.out.size ?_
          intro v9 V9 hown hgr _ _
          have hRC := RC.out.lt
          have G := Lib.hid (G.out.grown hgr (fun k hk hlt => by have := (hRC k hk).1; omega))
          have hr9 : V9.ownsRow wC.heap.size 5 1 v9 13 (Lib.byteCells (bytesK k ++ [xb])) := by rw [show Lib.byteCells (bytesK k ++ [xb]) = Lib.byteCells (bytesK k) ++ Lib.byteCells [xb] from by simp [Lib.byteCells]]; exact hown
          obtain ⟨g9, c9, rfl⟩ := Joins.ownsRow_form hr9 (by omega)
          have hcap9 := row_caps hr9
          have P9 := Lib.hid (BsIn.of_row hr9)
          clear hown hgr hRC hsrc hr9
          refine hK.out _ _ G.out (fun hHeld => ?_)
          clear hK K
          try simp only [Act.put, List.setIfInBounds_toArray, List.set_cons_zero, List.set_cons_succ]
          refine take_call (i := 8) rfl (by kernel_rfl) (by kernel_rfl) (fun K hK => ?_)
          go_simp
          have HRd := Lib.hid (Read_any (some ⟨g9, 0, none⟩) 13 c9 (bytesK k ++ [xb]) (by rw [List.length_append, bytesK_length]; rfl) hcap9.1 hcap9.2 V9 P9.out)
          rw [readV_len (by rw [List.length_append, bytesK_length]; simp)] at HRd
          refine HRd.out.mono ?_
          rintro e V10 ⟨rfl, hf⟩
          have G := Lib.hid (G.out.trans hf)
          clear hf hHeld HRd
          go_wp2_with fail
          refine hK.out _ _ G.out (fun hHeld => ?_)
          clear hK K
          try simp only [Act.put, List.setIfInBounds_toArray, List.set_cons_zero, List.set_cons_succ]
          refine take_on (i := 9) (v := .tuple #[.agg #[.int .i64 0, .int .i64 0, .int .i64 0], .int .i64 71]) rfl (by kernel_rfl) (by kernel_rfl) (by kernel_rfl) (fun _ _ _ h => h) (by kernel_rfl) (fun W' hSW => ?_) (by assumption) ?_
          · clear hSW
            first | (go_simp; done) | exact rfl | (go_simp; rfl) | (go_simp; omega)
          try simp only [Act.put, List.setIfInBounds_toArray, List.set_cons_zero, List.set_cons_succ]
          refine take_on (i := 10) (v := .agg #[.int .i64 0, .int .i64 0, .int .i64 0]) rfl (by kernel_rfl) (by kernel_rfl) (by kernel_rfl) (fun _ _ _ h => h) (by kernel_rfl) (fun W' hSW => ?_) (by assumption) ?_
          · clear hSW
            first | (go_simp; done) | exact rfl | (go_simp; rfl) | (go_simp; omega)
          try simp only [Act.put, List.setIfInBounds_toArray, List.set_cons_zero, List.set_cons_succ]
          refine take_on (i := 11) (v := .int .i64 71) rfl (by kernel_rfl) (by kernel_rfl) (by kernel_rfl) (fun _ _ _ h => h) (by kernel_rfl) (fun W' hSW => ?_) (by assumption) ?_
          · clear hSW
            first | (go_simp; done) | exact rfl | (go_simp; rfl) | (go_simp; omega)
          try simp only [Act.put, List.setIfInBounds_toArray, List.set_cons_zero, List.set_cons_succ]
          refine take_on (i := 12) (v := .int .i64 71) rfl (by kernel_rfl) (by kernel_rfl) (by kernel_rfl) (fun _ _ _ h => h) (by kernel_rfl) (fun W' hSW => ?_) (by assumption) ?_
          · clear hSW
            first | (go_simp; done) | exact rfl | (go_simp; rfl) | (go_simp; omega)
          try simp only [Act.put, List.setIfInBounds_toArray, List.set_cons_zero, List.set_cons_succ]
          refine wpAnyH_done (by kernel_rfl) ?_ _
          exact HT.out (fun n => ([.slice (some ⟨g1, 0, none⟩) 12 c1, vC, .slice (some ⟨g1, 0, none⟩) 12 c1, .int .i64 (cq : Int), .pointer (some ⟨g1, cq, none⟩), .int .u8 xb.toNat, .slice (some ⟨lb, 0, none⟩) 1 1, .slice (some ⟨g9, 0, none⟩) 13 c9, .tuple #[.agg #[.int .i64 0, .int .i64 0, .int .i64 0], .int .i64 71], .tuple #[.agg #[.int .i64 0, .int .i64 0, .int .i64 0], .int .i64 71], .agg #[.int .i64 0, .int .i64 0, .int .i64 0], .int .i64 71] : List Value).getD n undef) V10 hHeld
        · rw [if_pos (by kernel_rfl)]
          go_simp
          clear hHeld
          have hHeld : Fr0 none' wC wC := Fr0.refl _ _
          obtain ⟨lb, hlb⟩ : ∃ q, wC.heap.size = q := ⟨_, rfl⟩
          obtain ⟨w9, hW⟩ : ∃ W, (wC.alloc (.cells #[.int .u8 xb.toNat] 5)).drew = W := ⟨_, rfl⟩
          have fL : Fr0 none' wC w9 := by rw [← hW]; exact ((Fr0.refl _ _).alloc _).drew
          have LI := Lib.hid (show BsIn w9 (some ⟨lb, 0, none⟩) [xb] by rw [← hW, ← hlb]; exact bsin_lit' (World.alloc_heap_new wC _) _ rfl)
          have G := Lib.hid (hHeld.trans fL)
          try have RC := Lib.hid (ownsRow_q_fr RC.out fL (fun _ _ h => h))
          rw [hW]
          try rw [hlb]
          clear hW hlb fL hHeld
          refine hK.out _ _ G.out (fun hHeld => ?_)
          clear hK K
          try simp only [Act.put, List.setIfInBounds_toArray, List.set_cons_zero, List.set_cons_succ]
          refine take_call (i := 1) rfl (by kernel_rfl) (by kernel_rfl) (fun K hK => ?_)
          go_simp
          refine (HCl.out _ hHeld).mono ?_
          rintro e w10 ⟨vC, rfl, hr, hf⟩
          have RC := Lib.hid (ownsRow_k_mono hr hHeld.size)
          have G := Lib.hid (hHeld.trans hf)
          try have LI := Lib.hid (LI.out.later hf)
          clear hr hf hHeld
          go_wp2_with fail
          refine hK.out _ _ G.out (fun hHeld => ?_)
          clear hK K
          try simp only [Act.put, List.setIfInBounds_toArray, List.set_cons_zero, List.set_cons_succ]
          refine take_call (i := 7) rfl (by kernel_rfl) (by kernel_rfl) (fun K hK => ?_)
          have hsrc := Lib.hid (show Src Tryz.prog 1 30 (.slice (some ⟨lb, 0, none⟩) 1 1) 1 (Lib.byteCells [xb]) w10 from Src.ofSlice _ Tryz.underlying30 ⟨lb, 0, none⟩ 1 1 (Lib.byteCells [xb]) (by rw [Lib.byteCells_length]; rfl) (LI.out.cells) (fun u hu => by obtain ⟨x, _, rfl⟩ := List.mem_map.1 hu; rfl))
          refine wp_app_q _ _ 30 30 rfl wC.heap.size 5 ib (.int .u8 0) 1 1 Tryz.underlying30 hib hb0 hb1 hb2 rfl (by decide) vC 12 _ rfl RC.out (.slice (some ⟨lb, 0, none⟩) 1 1) 1 _ rfl hsrc.out (by unfold maxLen; omega) (by omega) G.out.size ?_
          intro v9 V9 hown hgr _ _
          have hRC := RC.out.lt
          have G := Lib.hid (G.out.grown hgr (fun k hk hlt => by have := (hRC k hk).1; omega))
          have hr9 : V9.ownsRow wC.heap.size 5 1 v9 13 (Lib.byteCells (bytesK k ++ [xb])) := by rw [show Lib.byteCells (bytesK k ++ [xb]) = Lib.byteCells (bytesK k) ++ Lib.byteCells [xb] from by simp [Lib.byteCells]]; exact hown
          obtain ⟨g9, c9, rfl⟩ := Joins.ownsRow_form hr9 (by omega)
          have hcap9 := row_caps hr9
          have P9 := Lib.hid (BsIn.of_row hr9)
          clear hown hgr hRC hsrc hr9
          refine hK.out _ _ G.out (fun hHeld => ?_)
          clear hK K
          try simp only [Act.put, List.setIfInBounds_toArray, List.set_cons_zero, List.set_cons_succ]
          refine take_call (i := 8) rfl (by kernel_rfl) (by kernel_rfl) (fun K hK => ?_)
          go_simp
          have HRd := Lib.hid (Read_any (some ⟨g9, 0, none⟩) 13 c9 (bytesK k ++ [xb]) (by rw [List.length_append, bytesK_length]; rfl) hcap9.1 hcap9.2 V9 P9.out)
          rw [readV_len (by rw [List.length_append, bytesK_length]; simp)] at HRd
          refine HRd.out.mono ?_
          rintro e V10 ⟨rfl, hf⟩
          have G := Lib.hid (G.out.trans hf)
          clear hf hHeld HRd
          go_wp2_with fail
          refine hK.out _ _ G.out (fun hHeld => ?_)
          clear hK K
          try simp only [Act.put, List.setIfInBounds_toArray, List.set_cons_zero, List.set_cons_succ]
          refine take_on (i := 9) (v := .tuple #[.agg #[.int .i64 0, .int .i64 0, .int .i64 0], .int .i64 71]) rfl (by kernel_rfl) (by kernel_rfl) (by kernel_rfl) (fun _ _ _ h => h) (by kernel_rfl) (fun W' hSW => ?_) (by assumption) ?_
          · clear hSW
            first | (go_simp; done) | exact rfl | (go_simp; rfl) | (go_simp; omega)
          try simp only [Act.put, List.setIfInBounds_toArray, List.set_cons_zero, List.set_cons_succ]
          refine take_on (i := 10) (v := .agg #[.int .i64 0, .int .i64 0, .int .i64 0]) rfl (by kernel_rfl) (by kernel_rfl) (by kernel_rfl) (fun _ _ _ h => h) (by kernel_rfl) (fun W' hSW => ?_) (by assumption) ?_
          · clear hSW
            first | (go_simp; done) | exact rfl | (go_simp; rfl) | (go_simp; omega)
          try simp only [Act.put, List.setIfInBounds_toArray, List.set_cons_zero, List.set_cons_succ]
          refine take_on (i := 11) (v := .int .i64 71) rfl (by kernel_rfl) (by kernel_rfl) (by kernel_rfl) (fun _ _ _ h => h) (by kernel_rfl) (fun W' hSW => ?_) (by assumption) ?_
          · clear hSW
            first | (go_simp; done) | exact rfl | (go_simp; rfl) | (go_simp; omega)
          try simp only [Act.put, List.setIfInBounds_toArray, List.set_cons_zero, List.set_cons_succ]
          refine take_on (i := 12) (v := .int .i64 71) rfl (by kernel_rfl) (by kernel_rfl) (by kernel_rfl) (fun _ _ _ h => h) (by kernel_rfl) (fun W' hSW => ?_) (by assumption) ?_
          · clear hSW
            first | (go_simp; done) | exact rfl | (go_simp; rfl) | (go_simp; omega)
          try simp only [Act.put, List.setIfInBounds_toArray, List.set_cons_zero, List.set_cons_succ]
          refine wpAnyH_done (by kernel_rfl) ?_ _
          exact HT.out (fun n => ([.slice (some ⟨g1, 0, none⟩) 12 c1, vC, .slice (some ⟨g1, 0, none⟩) 12 c1, .int .i64 (cq : Int), .pointer (some ⟨g1, cq, none⟩), .int .u8 xb.toNat, .slice (some ⟨lb, 0, none⟩) 1 1, .slice (some ⟨g9, 0, none⟩) 13 c9, .tuple #[.agg #[.int .i64 0, .int .i64 0, .int .i64 0], .int .i64 71], .tuple #[.agg #[.int .i64 0, .int .i64 0, .int .i64 0], .int .i64 71], .agg #[.int .i64 0, .int .i64 0, .int .i64 0], .int .i64 71] : List Value).getD n undef) V10 hHeld
  · skip
    have hw : ((way : Int) % 6) = 4 := by omega
    obtain ⟨z, hz⟩ : ∃ z, min n (-1) = z := ⟨_, rfl⟩
    have hbad : ¬ RightK ⟨k.time, k.source, z⟩ := by have := Hx.out; unfold RightK at this ⊢; simp only; omega
    have Hbad := Lib.hid hbad
    clear hbad hways
    go_wp2_with fail
    clear hw
    try rw [hz]
    clear hz
    obtain ⟨q1, hq1⟩ : ∃ q, w2.heap.size = q := ⟨_, rfl⟩
    rw [hq1]
    obtain ⟨W3, hW3⟩ : ∃ W, (w2.alloc (.cells #[.int .i64 k.time, .int .i64 k.source, .int .i64 k.seq] 28)).alloc (.cells #[.int .i64 (k.time), .int .i64 (k.source), .int .i64 (z)] 28) = W := ⟨_, rfl⟩
    have hs1 : (w2.alloc (.cells #[.int .i64 k.time, .int .i64 k.source, .int .i64 k.seq] 28)).heap.size = q1 + 1 := by rw [← hq1]; simp
    have KX := Lib.hid (show KeyAt W3 q1 k by
      rw [← hW3]
      unfold KeyAt
      rw [Below.heap_alloc _ _ _ (by rw [hs1]; omega), ← hq1]
      exact World.alloc_heap_new w2 _)
    have KB := Lib.hid (show KeyAt W3 (q1 + 1) ⟨k.time, k.source, z⟩ by rw [← hW3, ← hs1]; exact World.alloc_heap_new _ _)
    have F3 := Lib.hid (show Fr0 none' w W3 by rw [← hW3]; exact (F2.out.alloc _).alloc _)
    rw [hW3]
    clear hW3 hs1 hq1
    obtain ⟨q2, hq2⟩ : ∃ q, q1 + 1 = q := ⟨_, rfl⟩
    rw [hq2] at KB ⊢
    clear hq2
    have HB1 := Lib.hid (Bytes_wrong ⟨k.time, k.source, z⟩ Hbad.out)
    have HB2 := Lib.hid (Text_wrong ⟨k.time, k.source, z⟩ Hbad.out)
    have HB3 := Lib.hid (Next_wrong ⟨k.time, k.source, z⟩ Hbad.out)
    have HB4 := Lib.hid (Back_wrong ⟨k.time, k.source, z⟩ Hbad.out)
    simp only [keyV, zeroK] at HB1 HB2 HB3 HB4
    refine (HB1.out _).mono ?_
    rintro e w4 ⟨rfl, hf⟩
    have F3 := Lib.hid (F3.out.trans hf)
    have KX := Lib.hid (KX.out.fr0 (S := none') hf (fun h => h))
    have KB := Lib.hid (KB.out.fr0 (S := none') hf (fun h => h))
    try clear y0 y1 y2
    have y0 := KB.out.cell (i := 0) (by omega)
    have y1 := KB.out.cell (i := 1) (by omega)
    have y2 := KB.out.cell (i := 2) (by omega)
    simp [nth3] at y0 y1 y2
    clear hf
    go_wp2_with fail
    refine (HB2.out _).mono ?_
    rintro e w5 ⟨rfl, hf⟩
    have F3 := Lib.hid (F3.out.trans hf)
    have KX := Lib.hid (KX.out.fr0 (S := none') hf (fun h => h))
    have KB := Lib.hid (KB.out.fr0 (S := none') hf (fun h => h))
    try clear y0 y1 y2
    have y0 := KB.out.cell (i := 0) (by omega)
    have y1 := KB.out.cell (i := 1) (by omega)
    have y2 := KB.out.cell (i := 2) (by omega)
    simp [nth3] at y0 y1 y2
    clear hf
    go_wp2_with fail
    refine (HB3.out _).mono ?_
    rintro e w6 ⟨rfl, hf⟩
    have hf := hf.alloc (.cells #[.int .i64 0, .int .i64 0, .int .i64 0] 28)
    have F3 := Lib.hid (F3.out.trans hf)
    have KX := Lib.hid (KX.out.fr0 (S := none') hf (fun h => h))
    have KB := Lib.hid (KB.out.fr0 (S := none') hf (fun h => h))
    try clear y0 y1 y2
    have y0 := KB.out.cell (i := 0) (by omega)
    have y1 := KB.out.cell (i := 1) (by omega)
    have y2 := KB.out.cell (i := 2) (by omega)
    simp [nth3] at y0 y1 y2
    clear hf
    go_wp2_with fail
    obtain ⟨q3, hq3⟩ : ∃ q, w6.heap.size = q := ⟨_, rfl⟩
    obtain ⟨W6, hW6⟩ : ∃ W, w6.alloc (.cells #[.int .i64 0, .int .i64 0, .int .i64 0] 28) = W := ⟨_, rfl⟩
    have K3 := Lib.hid (show KeyAt W6 q3 zeroK by rw [← hW6, ← hq3]; exact World.alloc_heap_new w6 _)
    rw [hW6] at F3 KX KB ⊢
    try rw [hq3]
    clear hW6 hq3 y0 y1 y2
    refine (HB4.out _).mono ?_
    rintro e w7 ⟨rfl, hf⟩
    have hf := hf.alloc (.cells #[.int .i64 0, .int .i64 0, .int .i64 0] 28)
    have F3 := Lib.hid (F3.out.trans hf)
    have KX := Lib.hid (KX.out.fr0 (S := none') hf (fun h => h))
    have KB := Lib.hid (KB.out.fr0 (S := none') hf (fun h => h))
    try clear y0 y1 y2
    have K3 := Lib.hid (K3.out.fr0 (S := none') hf (fun h => h))
    have y0 := KB.out.cell (i := 0) (by omega)
    have y1 := KB.out.cell (i := 1) (by omega)
    have y2 := KB.out.cell (i := 2) (by omega)
    simp [nth3] at y0 y1 y2
    clear hf
    go_wp2_with fail
    clear y0 y1 y2
    obtain ⟨q4, hq4⟩ : ∃ q, w7.heap.size = q := ⟨_, rfl⟩
    obtain ⟨W7, hW7⟩ : ∃ W, w7.alloc (.cells #[.int .i64 0, .int .i64 0, .int .i64 0] 28) = W := ⟨_, rfl⟩
    have K4 := Lib.hid (show KeyAt W7 q4 zeroK by rw [← hW7, ← hq4]; exact World.alloc_heap_new w7 _)
    rw [hW7] at F3 KX KB K3 ⊢
    try rw [hq4]
    clear hW7 hq4
    have HR := Lib.hid (Right_any ⟨k.time, k.source, z⟩ W7)
    rw [decide_eq_false Hbad.out] at HR
    simp only [keyV] at HR
    refine HR.out.mono ?_
    rintro e w8 ⟨rfl, hf⟩
    have F3 := Lib.hid (F3.out.trans hf)
    have KX := Lib.hid (KX.out.fr0 (S := none') hf (fun h => h))
    have KB := Lib.hid (KB.out.fr0 (S := none') hf (fun h => h))
    try clear y0 y1 y2
    have K3 := Lib.hid (K3.out.fr0 (S := none') hf (fun h => h))
    have K4 := Lib.hid (K4.out.fr0 (S := none') hf (fun h => h))
    have u0 := K3.out.cell (i := 0) (by omega)
    have u1 := K3.out.cell (i := 1) (by omega)
    have u2 := K3.out.cell (i := 2) (by omega)
    have v0 := K4.out.cell (i := 0) (by omega)
    have v1 := K4.out.cell (i := 1) (by omega)
    have v2 := K4.out.cell (i := 2) (by omega)
    simp [nth3, zeroK] at u0 u1 u2 v0 v1 v2
    have d1 : sameK ⟨0, 0, 0⟩ ⟨0, 0, 0⟩ = true := rfl
    clear hf
    go_wp2_with fail
    clear d1 u0 u1 u2 v0 v1 v2
    obtain ⟨t1, ht1⟩ : ∃ t, min n (-1) = t := ⟨_, rfl⟩
    obtain ⟨t2, ht2⟩ : ∃ t, max n 281474976710657 = t := ⟨_, rfl⟩
    rw [ht1, ht2]
    obtain ⟨q5, hq5⟩ : ∃ q, w8.heap.size = q := ⟨_, rfl⟩
    obtain ⟨W9, hW9⟩ : ∃ W, w8.alloc (.cells #[.int .i64 t1, .int .i64 t2] 3) = W := ⟨_, rfl⟩
    have HR9 := Lib.hid (show W9.heap[q5]? = some (.cells #[.int .i64 t1, .int .i64 t2] 3 (0, 0)) by rw [← hW9, ← hq5]; exact World.alloc_heap_new w8 _)
    have hf : Fr0 none' w8 W9 := by rw [← hW9]; exact (Fr0.refl _ _).alloc _
    have F3 := Lib.hid (F3.out.trans hf)
    have KX := Lib.hid (KX.out.fr0 (S := none') hf (fun h => h))
    have HE := Lib.hid (fun (i : Nat) (hi : i < 2) => show ∃ t : Int, #[(.int .i64 t1 : Value), .int .i64 t2][i]? = some (.int .i64 t) ∧ endsV t = (zeroK, zeroK, 2) from by
      match i, hi with
      | 0, _ => exact ⟨t1, rfl, by unfold endsV; rw [if_neg (by omega)]⟩
      | 1, _ => exact ⟨t2, rfl, by unfold endsV; rw [if_neg (by omega)]⟩)
    rw [hW9]
    try rw [hq5]
    clear hW9 hq5 hf ht1 ht2 K3 K4 KB
    go_loopw [20, 21, 22, 23, 126] (fun _ _ _ _ c wr => ∃ i : Nat, c = .int .i64 i ∧ i ≤ 2 ∧ Hid (Fr0 none' W9 wr)) (fun _ _ _ _ c _ => 2 - (Go.RowKit.intOf c).toNat)
    case atStart => exact ⟨0, rfl, Nat.zero_le _, Fr0.refl _ _⟩
    case round =>
      obtain ⟨i, rfl, hi, hf⟩ := hrel
      by_cases hlt : i < 2
      · have d0 : decide ((i : Int) < 2) = true := decide_eq_true (by omega)
        have d0n : decide (i < 2) = true := decide_eq_true hlt
        have e5 : IntKind.i64.wrap ((i : Int) + 1) = (i : Int) + 1 := IntWalk.i64_in _ (by omega)
        have b1 : (0 : Int) ≤ (i : Int) := by omega
        have b2 : (i : Int) < 2 := by omega
        obtain ⟨t, hc, ht⟩ := HE.out i hlt
        have y0 : wr.cell? ⟨q5, i, none⟩ = some (.int .i64 t) := by
          rw [cellsK_at ((hf.out.block q5 (Array.getElem?_eq_some_iff.1 HR9.out).1 id).trans HR9.out)]
          exact hc
        have HEn := Lib.hid (Ends_any t wr)
        rw [ht] at HEn
        simp only [keyV, zeroK] at HEn
        have Hi := Lib.hid hlt
        clear hlt hi hc ht
        go_wp2_with fail
        refine HEn.out.mono ?_
        rintro e v1 ⟨rfl, hf2⟩
        have F6 := Lib.hid ((hf.out.trans hf2).alloc (.cells #[.int .i64 0, .int .i64 0, .int .i64 0] 28) |>.alloc (.cells #[.int .i64 0, .int .i64 0, .int .i64 0] 28))
        have d1 : sameK ⟨0, 0, 0⟩ ⟨0, 0, 0⟩ = true := rfl
        clear hf2 hf y0
        go_wp2_with fail
        exact ⟨⟨i + 1, by simp, by have := Hi.out; omega, F6⟩, by simp [Go.RowKit.intOf]; have := Hi.out; omega⟩
      · obtain rfl : i = 2 := by omega
        rw [show ((2 : Nat) : Int) = (2 : Int) from rfl]
        have F3 := Lib.hid (F3.out.trans hf.out)
        have KX := Lib.hid (KX.out.fr0 (S := none') hf.out (fun h => h))
        have y0 := KX.out.cell (i := 0) (by omega)
        have y1 := KX.out.cell (i := 1) (by omega)
        have y2 := KX.out.cell (i := 2) (by omega)
        simp [nth3] at y0 y1 y2
        have HBy := Lib.hid (Bytes_any k Hx.out)
        have HTx := Lib.hid (Text_any k Hx.out)
        simp only [keyV] at HBy HTx
        clear hlt hi hf
        go_wp2_with fail
        refine (HBy.out _).mono ?_
        rintro e wA ⟨v1, rfl, hr, hf⟩
        have F3 := Lib.hid (F3.out.trans hf)
        have KX := Lib.hid (KX.out.fr0 (S := none') hf (fun h => h))
        obtain ⟨g1, c1, rfl⟩ := Joins.ownsRow_form hr (by omega)
        have hcap := row_caps hr
        have P1 := Lib.hid (BsIn.of_row hr)
        clear hf hr y0 y1 y2
        have y0 := KX.out.cell (i := 0) (by omega)
        have y1 := KX.out.cell (i := 1) (by omega)
        have y2 := KX.out.cell (i := 2) (by omega)
        simp [nth3] at y0 y1 y2
        go_wp2_with fail
        refine (HTx.out _ (HL.out.later F3.out)).mono ?_
        rintro e wB ⟨rfl, hf⟩
        have F3 := Lib.hid (F3.out.trans hf)
        have P1 := Lib.hid (P1.out.later hf)
        clear hf y0 y1 y2 KX
        obtain ⟨cq, hcq⟩ : ∃ c, cut % 12 = c := ⟨_, rfl⟩
        have hc12 : cq < 12 := by rw [← hcq]; exact Nat.mod_lt _ (by omega)
        have z0 : IntKind.i64.wrap (cut : Int) = (cut : Int) := IntWalk.i64_in _ (by omega)
        have z1 : (cut : Int).tmod 12 = (cq : Int) := by rw [Int.tmod_eq_emod_of_nonneg (by omega), ← hcq]; push_cast; rfl
        have z2 : (cut : Int) % 12 = (cq : Int) := by rw [← hcq]; push_cast; rfl
        have z3 : IntKind.i64.wrap (cq : Int) = (cq : Int) := IntWalk.i64_in _ (by omega)
        have b1 : (0 : Int) ≤ (cq : Int) := by omega
        have b2 : (cq : Int) ≤ (12 : Int) := by omega
        have b3 : (cq : Int) ≤ (c1 : Int) := by have := hcap.1; omega
        have hne : (textK k).isEmpty = false := by
          obtain ⟨c, r, h, _⟩ := textK_head k
          rw [h]; rfl
        clear hcq
        go_wp2_with fail
        clear hne z0 z1 z2 z3
        have HRd := Lib.hid (Read_any (some ⟨g1, 0, none⟩) cq c1 (((bytesK k).drop 0).take cq) (by rw [List.length_take, List.length_drop, bytesK_length]; omega) (by have := hcap.1; omega) hcap.2 wB (by have := P1.out.sub 0 cq; simpa using this))
        rw [readV_len (by rw [List.length_take, List.length_drop, bytesK_length]; omega)] at HRd
        refine HRd.out.mono ?_
        rintro e wC ⟨rfl, hf⟩
        have F3 := Lib.hid (F3.out.trans hf)
        have P1 := Lib.hid (P1.out.later hf)
        have b4 : (cq : Int) < (12 : Int) := by omega
        clear hf HRd b2 b3
        obtain ⟨xb, hxb⟩ : ∃ x, (bytesK k)[cq]? = some x := ⟨_, List.getElem?_eq_getElem (by rw [bytesK_length]; exact hc12)⟩
        have HCell := Lib.hid (fun (W' : World) (h : Fr0 none' wC W') => show W'.cell? ⟨g1, cq, none⟩ = some (.int .u8 xb.toNat) from by
          obtain ⟨g, o, e, hc⟩ := P1.out.later h cq xb hxb
          cases e
          rw [Nat.zero_add] at hc
          exact hc)
        have HCl := Lib.hid (fun (W : World) (hf : Fr0 none' wC W) => Clone_row8 (cap := c1) (P1.out.later hf) (bytesK_length k) (by omega))
        clear hxb
        go_wp2_with fail
        refine viaT (T := Nat → Value) (fun us W => Fr0 none' wC W) (fun us => [(183, us 0), (184, us 1), (185, us 2), (186, us 3), (187, us 4), (188, us 5), (189, us 6), (190, us 7), (191, us 8), (182, us 9), (192, us 10), (193, us 11), (14, .int .i64 71)]) (fun us W hF => ?_) (fun hT => ?_)
        · simp only [List.foldl, Act.put, List.setIfInBounds_toArray, List.set_cons_zero, List.set_cons_succ]
          have F3 := Lib.hid (F3.out.trans hF)
          clear hF HCl HCell P1 hc12 b1 b4
          obtain ⟨sK, hsK⟩ : ∃ s : ByteArray, (⟨(textK k).toArray⟩ : ByteArray) = s := ⟨_, rfl⟩
          have hsz : sK.size ≤ 40 := by rw [← hsK]; show (textK k).toArray.size ≤ 40; rw [List.size_toArray]; exact textK_length Hx.out
          have hsd : sK.data.toList = textK k := by rw [← hsK]
          have Hsd := Lib.hid hsd
          rw [hsK]
          clear hsK hsd
          go_wp2_with fail
          obtain ⟨mm, hmm⟩ := HM.out
          have hct : Lib.countB sK ⟨#[64]⟩ = 1 := by show Lib.count sK.data.toList [64] = 1; rw [Hsd.out]; exact count_at k
          refine (Tryz.strings_Replace sK ⟨#[64]⟩ ⟨#[35]⟩ 1 mm _ (by omega) (F3.out.later hmm) (by decide) (by rw [hct]; show sK.size + 1 * 1 ≤ _; omega)).mono ?_
          rintro e X1 ⟨rfl, hb⟩
          have F3 := Lib.hid (F3.out.trans (below_to0 hb))
          clear hb hct hmm
          obtain ⟨r1, hr1⟩ : ∃ s : ByteArray, (⟨(Lib.replace sK.data.toList [64] [35] 1).toArray⟩ : ByteArray) = s := ⟨_, rfl⟩
          have R1 := Lib.hid (show r1.data.toList = Lib.replace (textK k) [64] [35] 1 by rw [← hr1, ← Hsd.out])
          try simp only [] at hr1
          rw [show (⟨(Lib.replace sK.data.toList (⟨#[64]⟩ : ByteArray).data.toList (⟨#[35]⟩ : ByteArray).data.toList 1).toArray⟩ : ByteArray) = r1 from hr1]
          clear hr1
          go_wp2_with fail
          obtain ⟨mm, hmm⟩ := HM.out
          have hct : Lib.countB sK ⟨#[35]⟩ = 1 := by show Lib.count sK.data.toList [35] = 1; rw [Hsd.out]; exact count_hash k
          refine (Tryz.strings_Replace sK ⟨#[35]⟩ ⟨#[64]⟩ 1 mm _ (by omega) (F3.out.later hmm) (by decide) (by rw [hct]; show sK.size + 1 * 1 ≤ _; omega)).mono ?_
          rintro e X2 ⟨rfl, hb⟩
          have F3 := Lib.hid (F3.out.trans (below_to0 hb))
          clear hb hct hmm
          obtain ⟨r2, hr2⟩ : ∃ s : ByteArray, (⟨(Lib.replace sK.data.toList [35] [64] 1).toArray⟩ : ByteArray) = s := ⟨_, rfl⟩
          have R2 := Lib.hid (show r2.data.toList = Lib.replace (textK k) [35] [64] 1 by rw [← hr2, ← Hsd.out])
          rw [show (⟨(Lib.replace sK.data.toList (⟨#[35]⟩ : ByteArray).data.toList (⟨#[64]⟩ : ByteArray).data.toList 1).toArray⟩ : ByteArray) = r2 from hr2]
          clear hr2
          go_wp2_with fail
          obtain ⟨mm, hmm⟩ := HM.out
          have hct : Lib.countB sK ⟨#[35]⟩ = 1 := by show Lib.count sK.data.toList [35] = 1; rw [Hsd.out]; exact count_hash k
          refine (Tryz.strings_Replace sK ⟨#[35]⟩ ⟨#[35, 48]⟩ 1 mm _ (by omega) (F3.out.later hmm) (by decide) (by rw [hct]; show sK.size + 1 * 2 ≤ _; omega)).mono ?_
          rintro e X3 ⟨rfl, hb⟩
          have F3 := Lib.hid (F3.out.trans (below_to0 hb))
          clear hb hct hmm
          obtain ⟨r3, hr3⟩ : ∃ s : ByteArray, (⟨(Lib.replace sK.data.toList [35] [35, 48] 1).toArray⟩ : ByteArray) = s := ⟨_, rfl⟩
          have R3 := Lib.hid (show r3.data.toList = Lib.replace (textK k) [35] [35, 48] 1 by rw [← hr3, ← Hsd.out])
          have h3z : r3.size ≤ 41 := by
            have h1 := rep_zero k
            have h2 := textK_hash k
            have h3 : r3.data.toList.length = (textK k).length + 1 := by rw [R3.out, h1, h2]; simp; omega
            have h4 : r3.data.toList.length = r3.size := Array.length_toList
            have h5 := textK_length Hx.out
            omega
          rw [show (⟨(Lib.replace sK.data.toList (⟨#[35]⟩ : ByteArray).data.toList (⟨#[35, 48]⟩ : ByteArray).data.toList 1).toArray⟩ : ByteArray) = r3 from hr3]
          clear hr3
          go_wp2_with fail
          obtain ⟨sH, hsH⟩ : ∃ s : ByteArray, sK ++ ⟨#[35]⟩ = s := ⟨_, rfl⟩
          have hix : Lib.indexByte sH.data.toList 35 = ((headK k).length : Int) := by
            rw [← hsH, ba_append, Hsd.out]
            exact index_hash k
          rw [hsH]
          clear hsH
          refine (Tryz.strings_IndexByte sH 35 _).mono ?_
          rintro e X4 ⟨rfl, hx4⟩
          rw [show (35 : Int).toNat.toUInt8 = 35 from rfl, hix]
          subst hx4
          obtain ⟨hh, hhh⟩ : ∃ h, (headK k).length = h := ⟨_, rfl⟩
          have hhs : hh ≤ sK.size := by
            have h1 := headK_le k
            have h2 : sK.data.toList.length = sK.size := Array.length_toList
            rw [Hsd.out] at h2
            omega
          rw [hhh]
          have b1 : (0 : Int) ≤ (hh : Int) := by omega
          have b2 : (hh : Int) ≤ (sK.size : Int) := by omega
          have Hhh := Lib.hid hhh
          clear hix hhh
          go_wp2_with fail
          clear b1 b2
          obtain ⟨C, hC⟩ : ∃ C : Array Value, #[.string (⟨#[48]⟩ ++ sK), .string (sK ++ ⟨#[32]⟩), .string (⟨#[32]⟩ ++ sK), .string (⟨#[45]⟩ ++ sK), .string (sK ++ ⟨#[35, 48]⟩), .string r1, .string r2, .string (r3 ++ ⟨#[48]⟩), .string (sK.extract 0 hh)] = C := ⟨_, rfl⟩
          have HP := Lib.hid (no_texts (k := k) hsz Hsd.out R1.out R2.out R3.out h3z Hhh.out hC)
          rw [hC]
          obtain ⟨Y, hY⟩ : ∃ X, X4.heap.size = X := ⟨_, rfl⟩
          obtain ⟨V5, hV5⟩ : ∃ W, X4.alloc (.cells C 9) = W := ⟨_, rfl⟩
          have HY := Lib.hid (show V5.heap[Y]? = some (.cells C 9 (0, 0)) by rw [← hV5, ← hY]; exact World.alloc_heap_new X4 _)
          have F5 := Lib.hid (show Fr0 none' w V5 by rw [← hV5]; exact F3.out.alloc _)
          rw [hV5]
          try rw [hY]
          clear hV5 hY hC h3z hhs hsz
          go_loopw [26, 27, 28, 224] (fun _ _ _ c wr => ∃ i : Nat, c = .int .i64 i ∧ i ≤ 9 ∧ Hid (Fr0 none' V5 wr)) (fun _ _ _ c _ => 9 - (Go.RowKit.intOf c).toNat)
          case atStart => exact ⟨0, rfl, Nat.zero_le _, Fr0.refl _ _⟩
          case round =>
            obtain ⟨i, rfl, hi, hf⟩ := hrel
            by_cases hlt : i < 9
            · have d0 : decide ((i : Int) < 9) = true := decide_eq_true (by omega)
              have d0n : decide (i < 9) = true := decide_eq_true hlt
              have e5 : IntKind.i64.wrap ((i : Int) + 1) = (i : Int) + 1 := IntWalk.i64_in _ (by omega)
              have b1 : (0 : Int) ≤ (i : Int) := by omega
              have b2 : (i : Int) < 9 := by omega
              obtain ⟨u, hc, husz, hun⟩ := HP.out i hlt
              have y0 : wr.cell? ⟨Y, i, none⟩ = some (.string u) := by
                rw [cellsK_at ((hf.out.block Y (Array.getElem?_eq_some_iff.1 HY.out).1 id).trans HY.out)]
                exact hc
              have HPa := Lib.hid (Parse_any u husz wr (HL.out.later (F5.out.trans hf.out)))
              rw [parseV_no hun] at HPa
              have Hi := Lib.hid hlt
              clear hlt hi hc husz hun
              go_wp2_with fail
              refine HPa.out.mono ?_
              rintro e v1 ⟨rfl, hf2⟩
              have F6 := Lib.hid ((hf.out.trans hf2).alloc (.cells #[.int .i64 0, .int .i64 0, .int .i64 0] 28))
              have d1 : sameK ⟨0, 0, 0⟩ ⟨0, 0, 0⟩ = true := rfl
              clear hf2 hf y0
              go_wp2_with fail
              exact ⟨⟨i + 1, by simp, by have := Hi.out; omega, F6⟩, by simp [Go.RowKit.intOf]; have := Hi.out; omega⟩
            · obtain rfl : i = 9 := by omega
              rw [show ((9 : Nat) : Int) = (9 : Int) from rfl]
              have FE := Lib.hid (F5.out.trans hf.out)
              clear hlt hi hf
              go_wp2_with fail
              go_ret
              exact ⟨rfl, FE.out⟩
        simp only [List.foldl, Act.put, List.setIfInBounds_toArray, List.set_cons_zero, List.set_cons_succ] at hT
        have HT := Lib.hid hT
        clear hT
        refine wp_region_held_drew (S := fun W' => Fr0 none' wC W') (by kernel_rfl) ((Fr0.refl none' wC).drew) (fun hHeld => ?_)
        refine take_on (i := 0) (v := .slice (some ⟨g1, 0, none⟩) 12 c1) rfl (by kernel_rfl) (by kernel_rfl) (by kernel_rfl) (fun _ _ _ h => h) (by kernel_rfl) (fun W' hSW => ?_) (by assumption) ?_
        · clear hSW
          first | (go_simp; done) | exact rfl | (go_simp; rfl) | (go_simp; omega)
        try simp only [Act.put, List.setIfInBounds_toArray, List.set_cons_zero, List.set_cons_succ]
        refine take_on (i := 2) (v := .slice (some ⟨g1, 0, none⟩) 12 c1) rfl (by kernel_rfl) (by kernel_rfl) (by kernel_rfl) (fun _ _ _ h => h) (by kernel_rfl) (fun W' hSW => ?_) (by assumption) ?_
        · clear hSW
          first | (go_simp; done) | exact rfl | (go_simp; rfl) | (go_simp; omega)
        try simp only [Act.put, List.setIfInBounds_toArray, List.set_cons_zero, List.set_cons_succ]
        refine take_on (i := 3) (v := .int .i64 (cq : Int)) rfl (by kernel_rfl) (by kernel_rfl) (by kernel_rfl) (fun _ _ _ h => h) (by kernel_rfl) (fun W' hSW => ?_) (by assumption) ?_
        · clear hSW
          first | (go_simp; done) | exact rfl | (go_simp; rfl) | (go_simp; omega)
        try simp only [Act.put, List.setIfInBounds_toArray, List.set_cons_zero, List.set_cons_succ]
        refine take_on (i := 4) (v := .pointer (some ⟨g1, cq, none⟩)) rfl (by kernel_rfl) (by kernel_rfl) (by kernel_rfl) (fun _ _ _ h => h) (by kernel_rfl) (fun W' hSW => ?_) (by assumption) ?_
        · clear hSW
          first | (go_simp; done) | exact rfl | (go_simp; rfl) | (go_simp; omega)
        try simp only [Act.put, List.setIfInBounds_toArray, List.set_cons_zero, List.set_cons_succ]
        refine take_on (i := 5) (v := .int .u8 xb.toNat) rfl (by kernel_rfl) (by kernel_rfl) (by kernel_rfl) (fun _ _ _ h => h) (by kernel_rfl) (fun W' hSW => ?_) (by assumption) ?_
        · have y9 := HCell.out W' hSW
          clear hSW
          first | (go_simp; done) | exact rfl | (go_simp; rfl) | (go_simp; omega)
        try simp only [Act.put, List.setIfInBounds_toArray, List.set_cons_zero, List.set_cons_succ]
        refine wpAnyH_ready (rs := [1, 6]) (by kernel_rfl) (by simp) (AllReadyH.cons (op_at rfl) (fun K hK => ?_) (AllReadyH.cons (op_at rfl) (fun K hK => ?_) AllReadyH.nil))
        · rw [if_pos (by kernel_rfl)]
          go_simp
          refine (HCl.out _ hHeld).mono ?_
          rintro e w9 ⟨vC, rfl, hr, hf⟩
          have RC := Lib.hid (ownsRow_k_mono hr hHeld.size)
          have G := Lib.hid (hHeld.trans hf)
          try have LI := Lib.hid (LI.out.later hf)
          clear hr hf hHeld
          go_wp2_with fail
          refine hK.out _ _ G.out (fun hHeld => ?_)
          clear hK K
          try simp only [Act.put, List.setIfInBounds_toArray, List.set_cons_zero, List.set_cons_succ]
          refine take_call (i := 6) rfl (by kernel_rfl) (by kernel_rfl) (fun K hK => ?_)
          go_simp
          obtain ⟨lb, hlb⟩ : ∃ q, w9.heap.size = q := ⟨_, rfl⟩
          obtain ⟨w10, hW⟩ : ∃ W, (w9.alloc (.cells #[.int .u8 xb.toNat] 5)) = W := ⟨_, rfl⟩
          have fL : Fr0 none' w9 w10 := by rw [← hW]; exact ((Fr0.refl _ _).alloc _)
          have LI := Lib.hid (show BsIn w10 (some ⟨lb, 0, none⟩) [xb] by rw [← hW, ← hlb]; exact bsin_lit' (World.alloc_heap_new w9 _) _ rfl)
          have G := Lib.hid (hHeld.trans fL)
          try have RC := Lib.hid (ownsRow_q_fr RC.out fL (fun _ _ h => h))
          rw [hW]
          try rw [hlb]
          clear hW hlb fL hHeld
          refine hK.out _ _ G.out (fun hHeld => ?_)
          clear hK K
          try simp only [Act.put, List.setIfInBounds_toArray, List.set_cons_zero, List.set_cons_succ]
          refine take_call (i := 7) rfl (by kernel_rfl) (by kernel_rfl) (fun K hK => ?_)
          have hsrc := Lib.hid (show Src Tryz.prog 1 30 (.slice (some ⟨lb, 0, none⟩) 1 1) 1 (Lib.byteCells [xb]) w10 from Src.ofSlice _ Tryz.underlying30 ⟨lb, 0, none⟩ 1 1 (Lib.byteCells [xb]) (by rw [Lib.byteCells_length]; rfl) (LI.out.cells) (fun u hu => by obtain ⟨x, _, rfl⟩ := List.mem_map.1 hu; rfl))
          refine wp_app_q _ _ 30 30 rfl wC.heap.size 5 ib (.int .u8 0) 1 1 Tryz.underlying30 hib hb0 hb1 hb2 rfl (by decide) vC 12 _ rfl RC.out (.slice (some ⟨lb, 0, none⟩) 1 1) 1 _ rfl hsrc.out (by unfold maxLen; omega) (by omega) G.out.size ?_
          intro v9 V9 hown hgr _ _
          have hRC := RC.out.lt
          have G := Lib.hid (G.out.grown hgr (fun k hk hlt => by have := (hRC k hk).1; omega))
          have hr9 : V9.ownsRow wC.heap.size 5 1 v9 13 (Lib.byteCells (bytesK k ++ [xb])) := by rw [show Lib.byteCells (bytesK k ++ [xb]) = Lib.byteCells (bytesK k) ++ Lib.byteCells [xb] from by simp [Lib.byteCells]]; exact hown
          obtain ⟨g9, c9, rfl⟩ := Joins.ownsRow_form hr9 (by omega)
          have hcap9 := row_caps hr9
          have P9 := Lib.hid (BsIn.of_row hr9)
          clear hown hgr hRC hsrc hr9
          refine hK.out _ _ G.out (fun hHeld => ?_)
          clear hK K
          try simp only [Act.put, List.setIfInBounds_toArray, List.set_cons_zero, List.set_cons_succ]
          refine take_call (i := 8) rfl (by kernel_rfl) (by kernel_rfl) (fun K hK => ?_)
          go_simp
          have HRd := Lib.hid (Read_any (some ⟨g9, 0, none⟩) 13 c9 (bytesK k ++ [xb]) (by rw [List.length_append, bytesK_length]; rfl) hcap9.1 hcap9.2 V9 P9.out)
          rw [readV_len (by rw [List.length_append, bytesK_length]; simp)] at HRd
          refine HRd.out.mono ?_
          rintro e V10 ⟨rfl, hf⟩
          have G := Lib.hid (G.out.trans hf)
          clear hf hHeld HRd
          go_wp2_with fail
          refine hK.out _ _ G.out (fun hHeld => ?_)
          clear hK K
          try simp only [Act.put, List.setIfInBounds_toArray, List.set_cons_zero, List.set_cons_succ]
          refine take_on (i := 9) (v := .tuple #[.agg #[.int .i64 0, .int .i64 0, .int .i64 0], .int .i64 71]) rfl (by kernel_rfl) (by kernel_rfl) (by kernel_rfl) (fun _ _ _ h => h) (by kernel_rfl) (fun W' hSW => ?_) (by assumption) ?_
          · clear hSW
            first | (go_simp; done) | exact rfl | (go_simp; rfl) | (go_simp; omega)
          try simp only [Act.put, List.setIfInBounds_toArray, List.set_cons_zero, List.set_cons_succ]
          refine take_on (i := 10) (v := .agg #[.int .i64 0, .int .i64 0, .int .i64 0]) rfl (by kernel_rfl) (by kernel_rfl) (by kernel_rfl) (fun _ _ _ h => h) (by kernel_rfl) (fun W' hSW => ?_) (by assumption) ?_
          · clear hSW
            first | (go_simp; done) | exact rfl | (go_simp; rfl) | (go_simp; omega)
          try simp only [Act.put, List.setIfInBounds_toArray, List.set_cons_zero, List.set_cons_succ]
          refine take_on (i := 11) (v := .int .i64 71) rfl (by kernel_rfl) (by kernel_rfl) (by kernel_rfl) (fun _ _ _ h => h) (by kernel_rfl) (fun W' hSW => ?_) (by assumption) ?_
          · clear hSW
            first | (go_simp; done) | exact rfl | (go_simp; rfl) | (go_simp; omega)
          try simp only [Act.put, List.setIfInBounds_toArray, List.set_cons_zero, List.set_cons_succ]
          refine take_on (i := 12) (v := .int .i64 71) rfl (by kernel_rfl) (by kernel_rfl) (by kernel_rfl) (fun _ _ _ h => h) (by kernel_rfl) (fun W' hSW => ?_) (by assumption) ?_
          · clear hSW
            first | (go_simp; done) | exact rfl | (go_simp; rfl) | (go_simp; omega)
          try simp only [Act.put, List.setIfInBounds_toArray, List.set_cons_zero, List.set_cons_succ]
          refine wpAnyH_done (by kernel_rfl) ?_ _
          exact HT.out (fun n => ([.slice (some ⟨g1, 0, none⟩) 12 c1, vC, .slice (some ⟨g1, 0, none⟩) 12 c1, .int .i64 (cq : Int), .pointer (some ⟨g1, cq, none⟩), .int .u8 xb.toNat, .slice (some ⟨lb, 0, none⟩) 1 1, .slice (some ⟨g9, 0, none⟩) 13 c9, .tuple #[.agg #[.int .i64 0, .int .i64 0, .int .i64 0], .int .i64 71], .tuple #[.agg #[.int .i64 0, .int .i64 0, .int .i64 0], .int .i64 71], .agg #[.int .i64 0, .int .i64 0, .int .i64 0], .int .i64 71] : List Value).getD n undef) V10 hHeld
        · rw [if_pos (by kernel_rfl)]
          go_simp
          clear hHeld
          have hHeld : Fr0 none' wC wC := Fr0.refl _ _
          obtain ⟨lb, hlb⟩ : ∃ q, wC.heap.size = q := ⟨_, rfl⟩
          obtain ⟨w9, hW⟩ : ∃ W, (wC.alloc (.cells #[.int .u8 xb.toNat] 5)).drew = W := ⟨_, rfl⟩
          have fL : Fr0 none' wC w9 := by rw [← hW]; exact ((Fr0.refl _ _).alloc _).drew
          have LI := Lib.hid (show BsIn w9 (some ⟨lb, 0, none⟩) [xb] by rw [← hW, ← hlb]; exact bsin_lit' (World.alloc_heap_new wC _) _ rfl)
          have G := Lib.hid (hHeld.trans fL)
          try have RC := Lib.hid (ownsRow_q_fr RC.out fL (fun _ _ h => h))
          rw [hW]
          try rw [hlb]
          clear hW hlb fL hHeld
          refine hK.out _ _ G.out (fun hHeld => ?_)
          clear hK K
          try simp only [Act.put, List.setIfInBounds_toArray, List.set_cons_zero, List.set_cons_succ]
          refine take_call (i := 1) rfl (by kernel_rfl) (by kernel_rfl) (fun K hK => ?_)
          go_simp
          refine (HCl.out _ hHeld).mono ?_
          rintro e w10 ⟨vC, rfl, hr, hf⟩
          have RC := Lib.hid (ownsRow_k_mono hr hHeld.size)
          have G := Lib.hid (hHeld.trans hf)
          try have LI := Lib.hid (LI.out.later hf)
          clear hr hf hHeld
          go_wp2_with fail
          refine hK.out _ _ G.out (fun hHeld => ?_)
          clear hK K
          try simp only [Act.put, List.setIfInBounds_toArray, List.set_cons_zero, List.set_cons_succ]
          refine take_call (i := 7) rfl (by kernel_rfl) (by kernel_rfl) (fun K hK => ?_)
          have hsrc := Lib.hid (show Src Tryz.prog 1 30 (.slice (some ⟨lb, 0, none⟩) 1 1) 1 (Lib.byteCells [xb]) w10 from Src.ofSlice _ Tryz.underlying30 ⟨lb, 0, none⟩ 1 1 (Lib.byteCells [xb]) (by rw [Lib.byteCells_length]; rfl) (LI.out.cells) (fun u hu => by obtain ⟨x, _, rfl⟩ := List.mem_map.1 hu; rfl))
          refine wp_app_q _ _ 30 30 rfl wC.heap.size 5 ib (.int .u8 0) 1 1 Tryz.underlying30 hib hb0 hb1 hb2 rfl (by decide) vC 12 _ rfl RC.out (.slice (some ⟨lb, 0, none⟩) 1 1) 1 _ rfl hsrc.out (by unfold maxLen; omega) (by omega) G.out.size ?_
          intro v9 V9 hown hgr _ _
          have hRC := RC.out.lt
          have G := Lib.hid (G.out.grown hgr (fun k hk hlt => by have := (hRC k hk).1; omega))
          have hr9 : V9.ownsRow wC.heap.size 5 1 v9 13 (Lib.byteCells (bytesK k ++ [xb])) := by rw [show Lib.byteCells (bytesK k ++ [xb]) = Lib.byteCells (bytesK k) ++ Lib.byteCells [xb] from by simp [Lib.byteCells]]; exact hown
          obtain ⟨g9, c9, rfl⟩ := Joins.ownsRow_form hr9 (by omega)
          have hcap9 := row_caps hr9
          have P9 := Lib.hid (BsIn.of_row hr9)
          clear hown hgr hRC hsrc hr9
          refine hK.out _ _ G.out (fun hHeld => ?_)
          clear hK K
          try simp only [Act.put, List.setIfInBounds_toArray, List.set_cons_zero, List.set_cons_succ]
          refine take_call (i := 8) rfl (by kernel_rfl) (by kernel_rfl) (fun K hK => ?_)
          go_simp
          have HRd := Lib.hid (Read_any (some ⟨g9, 0, none⟩) 13 c9 (bytesK k ++ [xb]) (by rw [List.length_append, bytesK_length]; rfl) hcap9.1 hcap9.2 V9 P9.out)
          rw [readV_len (by rw [List.length_append, bytesK_length]; simp)] at HRd
          refine HRd.out.mono ?_
          rintro e V10 ⟨rfl, hf⟩
          have G := Lib.hid (G.out.trans hf)
          clear hf hHeld HRd
          go_wp2_with fail
          refine hK.out _ _ G.out (fun hHeld => ?_)
          clear hK K
          try simp only [Act.put, List.setIfInBounds_toArray, List.set_cons_zero, List.set_cons_succ]
          refine take_on (i := 9) (v := .tuple #[.agg #[.int .i64 0, .int .i64 0, .int .i64 0], .int .i64 71]) rfl (by kernel_rfl) (by kernel_rfl) (by kernel_rfl) (fun _ _ _ h => h) (by kernel_rfl) (fun W' hSW => ?_) (by assumption) ?_
          · clear hSW
            first | (go_simp; done) | exact rfl | (go_simp; rfl) | (go_simp; omega)
          try simp only [Act.put, List.setIfInBounds_toArray, List.set_cons_zero, List.set_cons_succ]
          refine take_on (i := 10) (v := .agg #[.int .i64 0, .int .i64 0, .int .i64 0]) rfl (by kernel_rfl) (by kernel_rfl) (by kernel_rfl) (fun _ _ _ h => h) (by kernel_rfl) (fun W' hSW => ?_) (by assumption) ?_
          · clear hSW
            first | (go_simp; done) | exact rfl | (go_simp; rfl) | (go_simp; omega)
          try simp only [Act.put, List.setIfInBounds_toArray, List.set_cons_zero, List.set_cons_succ]
          refine take_on (i := 11) (v := .int .i64 71) rfl (by kernel_rfl) (by kernel_rfl) (by kernel_rfl) (fun _ _ _ h => h) (by kernel_rfl) (fun W' hSW => ?_) (by assumption) ?_
          · clear hSW
            first | (go_simp; done) | exact rfl | (go_simp; rfl) | (go_simp; omega)
          try simp only [Act.put, List.setIfInBounds_toArray, List.set_cons_zero, List.set_cons_succ]
          refine take_on (i := 12) (v := .int .i64 71) rfl (by kernel_rfl) (by kernel_rfl) (by kernel_rfl) (fun _ _ _ h => h) (by kernel_rfl) (fun W' hSW => ?_) (by assumption) ?_
          · clear hSW
            first | (go_simp; done) | exact rfl | (go_simp; rfl) | (go_simp; omega)
          try simp only [Act.put, List.setIfInBounds_toArray, List.set_cons_zero, List.set_cons_succ]
          refine wpAnyH_done (by kernel_rfl) ?_ _
          exact HT.out (fun n => ([.slice (some ⟨g1, 0, none⟩) 12 c1, vC, .slice (some ⟨g1, 0, none⟩) 12 c1, .int .i64 (cq : Int), .pointer (some ⟨g1, cq, none⟩), .int .u8 xb.toNat, .slice (some ⟨lb, 0, none⟩) 1 1, .slice (some ⟨g9, 0, none⟩) 13 c9, .tuple #[.agg #[.int .i64 0, .int .i64 0, .int .i64 0], .int .i64 71], .tuple #[.agg #[.int .i64 0, .int .i64 0, .int .i64 0], .int .i64 71], .agg #[.int .i64 0, .int .i64 0, .int .i64 0], .int .i64 71] : List Value).getD n undef) V10 hHeld
  · skip
    have hw : ((way : Int) % 6) = 5 := by omega
    obtain ⟨z, hz⟩ : ∃ z, max n 4294967296 = z := ⟨_, rfl⟩
    have hbad : ¬ RightK ⟨k.time, k.source, z⟩ := by have := Hx.out; unfold RightK at this ⊢; simp only; omega
    have Hbad := Lib.hid hbad
    clear hbad hways
    go_wp2_with fail
    clear hw
    try rw [hz]
    clear hz
    obtain ⟨q1, hq1⟩ : ∃ q, w2.heap.size = q := ⟨_, rfl⟩
    rw [hq1]
    obtain ⟨W3, hW3⟩ : ∃ W, (w2.alloc (.cells #[.int .i64 k.time, .int .i64 k.source, .int .i64 k.seq] 28)).alloc (.cells #[.int .i64 (k.time), .int .i64 (k.source), .int .i64 (z)] 28) = W := ⟨_, rfl⟩
    have hs1 : (w2.alloc (.cells #[.int .i64 k.time, .int .i64 k.source, .int .i64 k.seq] 28)).heap.size = q1 + 1 := by rw [← hq1]; simp
    have KX := Lib.hid (show KeyAt W3 q1 k by
      rw [← hW3]
      unfold KeyAt
      rw [Below.heap_alloc _ _ _ (by rw [hs1]; omega), ← hq1]
      exact World.alloc_heap_new w2 _)
    have KB := Lib.hid (show KeyAt W3 (q1 + 1) ⟨k.time, k.source, z⟩ by rw [← hW3, ← hs1]; exact World.alloc_heap_new _ _)
    have F3 := Lib.hid (show Fr0 none' w W3 by rw [← hW3]; exact (F2.out.alloc _).alloc _)
    rw [hW3]
    clear hW3 hs1 hq1
    obtain ⟨q2, hq2⟩ : ∃ q, q1 + 1 = q := ⟨_, rfl⟩
    rw [hq2] at KB ⊢
    clear hq2
    have HB1 := Lib.hid (Bytes_wrong ⟨k.time, k.source, z⟩ Hbad.out)
    have HB2 := Lib.hid (Text_wrong ⟨k.time, k.source, z⟩ Hbad.out)
    have HB3 := Lib.hid (Next_wrong ⟨k.time, k.source, z⟩ Hbad.out)
    have HB4 := Lib.hid (Back_wrong ⟨k.time, k.source, z⟩ Hbad.out)
    simp only [keyV, zeroK] at HB1 HB2 HB3 HB4
    refine (HB1.out _).mono ?_
    rintro e w4 ⟨rfl, hf⟩
    have F3 := Lib.hid (F3.out.trans hf)
    have KX := Lib.hid (KX.out.fr0 (S := none') hf (fun h => h))
    have KB := Lib.hid (KB.out.fr0 (S := none') hf (fun h => h))
    try clear y0 y1 y2
    have y0 := KB.out.cell (i := 0) (by omega)
    have y1 := KB.out.cell (i := 1) (by omega)
    have y2 := KB.out.cell (i := 2) (by omega)
    simp [nth3] at y0 y1 y2
    clear hf
    go_wp2_with fail
    refine (HB2.out _).mono ?_
    rintro e w5 ⟨rfl, hf⟩
    have F3 := Lib.hid (F3.out.trans hf)
    have KX := Lib.hid (KX.out.fr0 (S := none') hf (fun h => h))
    have KB := Lib.hid (KB.out.fr0 (S := none') hf (fun h => h))
    try clear y0 y1 y2
    have y0 := KB.out.cell (i := 0) (by omega)
    have y1 := KB.out.cell (i := 1) (by omega)
    have y2 := KB.out.cell (i := 2) (by omega)
    simp [nth3] at y0 y1 y2
    clear hf
    go_wp2_with fail
    refine (HB3.out _).mono ?_
    rintro e w6 ⟨rfl, hf⟩
    have hf := hf.alloc (.cells #[.int .i64 0, .int .i64 0, .int .i64 0] 28)
    have F3 := Lib.hid (F3.out.trans hf)
    have KX := Lib.hid (KX.out.fr0 (S := none') hf (fun h => h))
    have KB := Lib.hid (KB.out.fr0 (S := none') hf (fun h => h))
    try clear y0 y1 y2
    have y0 := KB.out.cell (i := 0) (by omega)
    have y1 := KB.out.cell (i := 1) (by omega)
    have y2 := KB.out.cell (i := 2) (by omega)
    simp [nth3] at y0 y1 y2
    clear hf
    go_wp2_with fail
    obtain ⟨q3, hq3⟩ : ∃ q, w6.heap.size = q := ⟨_, rfl⟩
    obtain ⟨W6, hW6⟩ : ∃ W, w6.alloc (.cells #[.int .i64 0, .int .i64 0, .int .i64 0] 28) = W := ⟨_, rfl⟩
    have K3 := Lib.hid (show KeyAt W6 q3 zeroK by rw [← hW6, ← hq3]; exact World.alloc_heap_new w6 _)
    rw [hW6] at F3 KX KB ⊢
    try rw [hq3]
    clear hW6 hq3 y0 y1 y2
    refine (HB4.out _).mono ?_
    rintro e w7 ⟨rfl, hf⟩
    have hf := hf.alloc (.cells #[.int .i64 0, .int .i64 0, .int .i64 0] 28)
    have F3 := Lib.hid (F3.out.trans hf)
    have KX := Lib.hid (KX.out.fr0 (S := none') hf (fun h => h))
    have KB := Lib.hid (KB.out.fr0 (S := none') hf (fun h => h))
    try clear y0 y1 y2
    have K3 := Lib.hid (K3.out.fr0 (S := none') hf (fun h => h))
    have y0 := KB.out.cell (i := 0) (by omega)
    have y1 := KB.out.cell (i := 1) (by omega)
    have y2 := KB.out.cell (i := 2) (by omega)
    simp [nth3] at y0 y1 y2
    clear hf
    go_wp2_with fail
    clear y0 y1 y2
    obtain ⟨q4, hq4⟩ : ∃ q, w7.heap.size = q := ⟨_, rfl⟩
    obtain ⟨W7, hW7⟩ : ∃ W, w7.alloc (.cells #[.int .i64 0, .int .i64 0, .int .i64 0] 28) = W := ⟨_, rfl⟩
    have K4 := Lib.hid (show KeyAt W7 q4 zeroK by rw [← hW7, ← hq4]; exact World.alloc_heap_new w7 _)
    rw [hW7] at F3 KX KB K3 ⊢
    try rw [hq4]
    clear hW7 hq4
    have HR := Lib.hid (Right_any ⟨k.time, k.source, z⟩ W7)
    rw [decide_eq_false Hbad.out] at HR
    simp only [keyV] at HR
    refine HR.out.mono ?_
    rintro e w8 ⟨rfl, hf⟩
    have F3 := Lib.hid (F3.out.trans hf)
    have KX := Lib.hid (KX.out.fr0 (S := none') hf (fun h => h))
    have KB := Lib.hid (KB.out.fr0 (S := none') hf (fun h => h))
    try clear y0 y1 y2
    have K3 := Lib.hid (K3.out.fr0 (S := none') hf (fun h => h))
    have K4 := Lib.hid (K4.out.fr0 (S := none') hf (fun h => h))
    have u0 := K3.out.cell (i := 0) (by omega)
    have u1 := K3.out.cell (i := 1) (by omega)
    have u2 := K3.out.cell (i := 2) (by omega)
    have v0 := K4.out.cell (i := 0) (by omega)
    have v1 := K4.out.cell (i := 1) (by omega)
    have v2 := K4.out.cell (i := 2) (by omega)
    simp [nth3, zeroK] at u0 u1 u2 v0 v1 v2
    have d1 : sameK ⟨0, 0, 0⟩ ⟨0, 0, 0⟩ = true := rfl
    clear hf
    go_wp2_with fail
    clear d1 u0 u1 u2 v0 v1 v2
    obtain ⟨t1, ht1⟩ : ∃ t, min n (-1) = t := ⟨_, rfl⟩
    obtain ⟨t2, ht2⟩ : ∃ t, max n 281474976710657 = t := ⟨_, rfl⟩
    rw [ht1, ht2]
    obtain ⟨q5, hq5⟩ : ∃ q, w8.heap.size = q := ⟨_, rfl⟩
    obtain ⟨W9, hW9⟩ : ∃ W, w8.alloc (.cells #[.int .i64 t1, .int .i64 t2] 3) = W := ⟨_, rfl⟩
    have HR9 := Lib.hid (show W9.heap[q5]? = some (.cells #[.int .i64 t1, .int .i64 t2] 3 (0, 0)) by rw [← hW9, ← hq5]; exact World.alloc_heap_new w8 _)
    have hf : Fr0 none' w8 W9 := by rw [← hW9]; exact (Fr0.refl _ _).alloc _
    have F3 := Lib.hid (F3.out.trans hf)
    have KX := Lib.hid (KX.out.fr0 (S := none') hf (fun h => h))
    have HE := Lib.hid (fun (i : Nat) (hi : i < 2) => show ∃ t : Int, #[(.int .i64 t1 : Value), .int .i64 t2][i]? = some (.int .i64 t) ∧ endsV t = (zeroK, zeroK, 2) from by
      match i, hi with
      | 0, _ => exact ⟨t1, rfl, by unfold endsV; rw [if_neg (by omega)]⟩
      | 1, _ => exact ⟨t2, rfl, by unfold endsV; rw [if_neg (by omega)]⟩)
    rw [hW9]
    try rw [hq5]
    clear hW9 hq5 hf ht1 ht2 K3 K4 KB
    go_loopw [20, 21, 22, 23, 126] (fun _ _ _ _ c wr => ∃ i : Nat, c = .int .i64 i ∧ i ≤ 2 ∧ Hid (Fr0 none' W9 wr)) (fun _ _ _ _ c _ => 2 - (Go.RowKit.intOf c).toNat)
    case atStart => exact ⟨0, rfl, Nat.zero_le _, Fr0.refl _ _⟩
    case round =>
      obtain ⟨i, rfl, hi, hf⟩ := hrel
      by_cases hlt : i < 2
      · have d0 : decide ((i : Int) < 2) = true := decide_eq_true (by omega)
        have d0n : decide (i < 2) = true := decide_eq_true hlt
        have e5 : IntKind.i64.wrap ((i : Int) + 1) = (i : Int) + 1 := IntWalk.i64_in _ (by omega)
        have b1 : (0 : Int) ≤ (i : Int) := by omega
        have b2 : (i : Int) < 2 := by omega
        obtain ⟨t, hc, ht⟩ := HE.out i hlt
        have y0 : wr.cell? ⟨q5, i, none⟩ = some (.int .i64 t) := by
          rw [cellsK_at ((hf.out.block q5 (Array.getElem?_eq_some_iff.1 HR9.out).1 id).trans HR9.out)]
          exact hc
        have HEn := Lib.hid (Ends_any t wr)
        rw [ht] at HEn
        simp only [keyV, zeroK] at HEn
        have Hi := Lib.hid hlt
        clear hlt hi hc ht
        go_wp2_with fail
        refine HEn.out.mono ?_
        rintro e v1 ⟨rfl, hf2⟩
        have F6 := Lib.hid ((hf.out.trans hf2).alloc (.cells #[.int .i64 0, .int .i64 0, .int .i64 0] 28) |>.alloc (.cells #[.int .i64 0, .int .i64 0, .int .i64 0] 28))
        have d1 : sameK ⟨0, 0, 0⟩ ⟨0, 0, 0⟩ = true := rfl
        clear hf2 hf y0
        go_wp2_with fail
        exact ⟨⟨i + 1, by simp, by have := Hi.out; omega, F6⟩, by simp [Go.RowKit.intOf]; have := Hi.out; omega⟩
      · obtain rfl : i = 2 := by omega
        rw [show ((2 : Nat) : Int) = (2 : Int) from rfl]
        have F3 := Lib.hid (F3.out.trans hf.out)
        have KX := Lib.hid (KX.out.fr0 (S := none') hf.out (fun h => h))
        have y0 := KX.out.cell (i := 0) (by omega)
        have y1 := KX.out.cell (i := 1) (by omega)
        have y2 := KX.out.cell (i := 2) (by omega)
        simp [nth3] at y0 y1 y2
        have HBy := Lib.hid (Bytes_any k Hx.out)
        have HTx := Lib.hid (Text_any k Hx.out)
        simp only [keyV] at HBy HTx
        clear hlt hi hf
        go_wp2_with fail
        refine (HBy.out _).mono ?_
        rintro e wA ⟨v1, rfl, hr, hf⟩
        have F3 := Lib.hid (F3.out.trans hf)
        have KX := Lib.hid (KX.out.fr0 (S := none') hf (fun h => h))
        obtain ⟨g1, c1, rfl⟩ := Joins.ownsRow_form hr (by omega)
        have hcap := row_caps hr
        have P1 := Lib.hid (BsIn.of_row hr)
        clear hf hr y0 y1 y2
        have y0 := KX.out.cell (i := 0) (by omega)
        have y1 := KX.out.cell (i := 1) (by omega)
        have y2 := KX.out.cell (i := 2) (by omega)
        simp [nth3] at y0 y1 y2
        go_wp2_with fail
        refine (HTx.out _ (HL.out.later F3.out)).mono ?_
        rintro e wB ⟨rfl, hf⟩
        have F3 := Lib.hid (F3.out.trans hf)
        have P1 := Lib.hid (P1.out.later hf)
        clear hf y0 y1 y2 KX
        obtain ⟨cq, hcq⟩ : ∃ c, cut % 12 = c := ⟨_, rfl⟩
        have hc12 : cq < 12 := by rw [← hcq]; exact Nat.mod_lt _ (by omega)
        have z0 : IntKind.i64.wrap (cut : Int) = (cut : Int) := IntWalk.i64_in _ (by omega)
        have z1 : (cut : Int).tmod 12 = (cq : Int) := by rw [Int.tmod_eq_emod_of_nonneg (by omega), ← hcq]; push_cast; rfl
        have z2 : (cut : Int) % 12 = (cq : Int) := by rw [← hcq]; push_cast; rfl
        have z3 : IntKind.i64.wrap (cq : Int) = (cq : Int) := IntWalk.i64_in _ (by omega)
        have b1 : (0 : Int) ≤ (cq : Int) := by omega
        have b2 : (cq : Int) ≤ (12 : Int) := by omega
        have b3 : (cq : Int) ≤ (c1 : Int) := by have := hcap.1; omega
        have hne : (textK k).isEmpty = false := by
          obtain ⟨c, r, h, _⟩ := textK_head k
          rw [h]; rfl
        clear hcq
        go_wp2_with fail
        clear hne z0 z1 z2 z3
        have HRd := Lib.hid (Read_any (some ⟨g1, 0, none⟩) cq c1 (((bytesK k).drop 0).take cq) (by rw [List.length_take, List.length_drop, bytesK_length]; omega) (by have := hcap.1; omega) hcap.2 wB (by have := P1.out.sub 0 cq; simpa using this))
        rw [readV_len (by rw [List.length_take, List.length_drop, bytesK_length]; omega)] at HRd
        refine HRd.out.mono ?_
        rintro e wC ⟨rfl, hf⟩
        have F3 := Lib.hid (F3.out.trans hf)
        have P1 := Lib.hid (P1.out.later hf)
        have b4 : (cq : Int) < (12 : Int) := by omega
        clear hf HRd b2 b3
        obtain ⟨xb, hxb⟩ : ∃ x, (bytesK k)[cq]? = some x := ⟨_, List.getElem?_eq_getElem (by rw [bytesK_length]; exact hc12)⟩
        have HCell := Lib.hid (fun (W' : World) (h : Fr0 none' wC W') => show W'.cell? ⟨g1, cq, none⟩ = some (.int .u8 xb.toNat) from by
          obtain ⟨g, o, e, hc⟩ := P1.out.later h cq xb hxb
          cases e
          rw [Nat.zero_add] at hc
          exact hc)
        have HCl := Lib.hid (fun (W : World) (hf : Fr0 none' wC W) => Clone_row8 (cap := c1) (P1.out.later hf) (bytesK_length k) (by omega))
        clear hxb
        go_wp2_with fail
        refine viaT (T := Nat → Value) (fun us W => Fr0 none' wC W) (fun us => [(183, us 0), (184, us 1), (185, us 2), (186, us 3), (187, us 4), (188, us 5), (189, us 6), (190, us 7), (191, us 8), (182, us 9), (192, us 10), (193, us 11), (14, .int .i64 71)]) (fun us W hF => ?_) (fun hT => ?_)
        · simp only [List.foldl, Act.put, List.setIfInBounds_toArray, List.set_cons_zero, List.set_cons_succ]
          have F3 := Lib.hid (F3.out.trans hF)
          clear hF HCl HCell P1 hc12 b1 b4
          obtain ⟨sK, hsK⟩ : ∃ s : ByteArray, (⟨(textK k).toArray⟩ : ByteArray) = s := ⟨_, rfl⟩
          have hsz : sK.size ≤ 40 := by rw [← hsK]; show (textK k).toArray.size ≤ 40; rw [List.size_toArray]; exact textK_length Hx.out
          have hsd : sK.data.toList = textK k := by rw [← hsK]
          have Hsd := Lib.hid hsd
          rw [hsK]
          clear hsK hsd
          go_wp2_with fail
          obtain ⟨mm, hmm⟩ := HM.out
          have hct : Lib.countB sK ⟨#[64]⟩ = 1 := by show Lib.count sK.data.toList [64] = 1; rw [Hsd.out]; exact count_at k
          refine (Tryz.strings_Replace sK ⟨#[64]⟩ ⟨#[35]⟩ 1 mm _ (by omega) (F3.out.later hmm) (by decide) (by rw [hct]; show sK.size + 1 * 1 ≤ _; omega)).mono ?_
          rintro e X1 ⟨rfl, hb⟩
          have F3 := Lib.hid (F3.out.trans (below_to0 hb))
          clear hb hct hmm
          obtain ⟨r1, hr1⟩ : ∃ s : ByteArray, (⟨(Lib.replace sK.data.toList [64] [35] 1).toArray⟩ : ByteArray) = s := ⟨_, rfl⟩
          have R1 := Lib.hid (show r1.data.toList = Lib.replace (textK k) [64] [35] 1 by rw [← hr1, ← Hsd.out])
          try simp only [] at hr1
          rw [show (⟨(Lib.replace sK.data.toList (⟨#[64]⟩ : ByteArray).data.toList (⟨#[35]⟩ : ByteArray).data.toList 1).toArray⟩ : ByteArray) = r1 from hr1]
          clear hr1
          go_wp2_with fail
          obtain ⟨mm, hmm⟩ := HM.out
          have hct : Lib.countB sK ⟨#[35]⟩ = 1 := by show Lib.count sK.data.toList [35] = 1; rw [Hsd.out]; exact count_hash k
          refine (Tryz.strings_Replace sK ⟨#[35]⟩ ⟨#[64]⟩ 1 mm _ (by omega) (F3.out.later hmm) (by decide) (by rw [hct]; show sK.size + 1 * 1 ≤ _; omega)).mono ?_
          rintro e X2 ⟨rfl, hb⟩
          have F3 := Lib.hid (F3.out.trans (below_to0 hb))
          clear hb hct hmm
          obtain ⟨r2, hr2⟩ : ∃ s : ByteArray, (⟨(Lib.replace sK.data.toList [35] [64] 1).toArray⟩ : ByteArray) = s := ⟨_, rfl⟩
          have R2 := Lib.hid (show r2.data.toList = Lib.replace (textK k) [35] [64] 1 by rw [← hr2, ← Hsd.out])
          rw [show (⟨(Lib.replace sK.data.toList (⟨#[35]⟩ : ByteArray).data.toList (⟨#[64]⟩ : ByteArray).data.toList 1).toArray⟩ : ByteArray) = r2 from hr2]
          clear hr2
          go_wp2_with fail
          obtain ⟨mm, hmm⟩ := HM.out
          have hct : Lib.countB sK ⟨#[35]⟩ = 1 := by show Lib.count sK.data.toList [35] = 1; rw [Hsd.out]; exact count_hash k
          refine (Tryz.strings_Replace sK ⟨#[35]⟩ ⟨#[35, 48]⟩ 1 mm _ (by omega) (F3.out.later hmm) (by decide) (by rw [hct]; show sK.size + 1 * 2 ≤ _; omega)).mono ?_
          rintro e X3 ⟨rfl, hb⟩
          have F3 := Lib.hid (F3.out.trans (below_to0 hb))
          clear hb hct hmm
          obtain ⟨r3, hr3⟩ : ∃ s : ByteArray, (⟨(Lib.replace sK.data.toList [35] [35, 48] 1).toArray⟩ : ByteArray) = s := ⟨_, rfl⟩
          have R3 := Lib.hid (show r3.data.toList = Lib.replace (textK k) [35] [35, 48] 1 by rw [← hr3, ← Hsd.out])
          have h3z : r3.size ≤ 41 := by
            have h1 := rep_zero k
            have h2 := textK_hash k
            have h3 : r3.data.toList.length = (textK k).length + 1 := by rw [R3.out, h1, h2]; simp; omega
            have h4 : r3.data.toList.length = r3.size := Array.length_toList
            have h5 := textK_length Hx.out
            omega
          rw [show (⟨(Lib.replace sK.data.toList (⟨#[35]⟩ : ByteArray).data.toList (⟨#[35, 48]⟩ : ByteArray).data.toList 1).toArray⟩ : ByteArray) = r3 from hr3]
          clear hr3
          go_wp2_with fail
          obtain ⟨sH, hsH⟩ : ∃ s : ByteArray, sK ++ ⟨#[35]⟩ = s := ⟨_, rfl⟩
          have hix : Lib.indexByte sH.data.toList 35 = ((headK k).length : Int) := by
            rw [← hsH, ba_append, Hsd.out]
            exact index_hash k
          rw [hsH]
          clear hsH
          refine (Tryz.strings_IndexByte sH 35 _).mono ?_
          rintro e X4 ⟨rfl, hx4⟩
          rw [show (35 : Int).toNat.toUInt8 = 35 from rfl, hix]
          subst hx4
          obtain ⟨hh, hhh⟩ : ∃ h, (headK k).length = h := ⟨_, rfl⟩
          have hhs : hh ≤ sK.size := by
            have h1 := headK_le k
            have h2 : sK.data.toList.length = sK.size := Array.length_toList
            rw [Hsd.out] at h2
            omega
          rw [hhh]
          have b1 : (0 : Int) ≤ (hh : Int) := by omega
          have b2 : (hh : Int) ≤ (sK.size : Int) := by omega
          have Hhh := Lib.hid hhh
          clear hix hhh
          go_wp2_with fail
          clear b1 b2
          obtain ⟨C, hC⟩ : ∃ C : Array Value, #[.string (⟨#[48]⟩ ++ sK), .string (sK ++ ⟨#[32]⟩), .string (⟨#[32]⟩ ++ sK), .string (⟨#[45]⟩ ++ sK), .string (sK ++ ⟨#[35, 48]⟩), .string r1, .string r2, .string (r3 ++ ⟨#[48]⟩), .string (sK.extract 0 hh)] = C := ⟨_, rfl⟩
          have HP := Lib.hid (no_texts (k := k) hsz Hsd.out R1.out R2.out R3.out h3z Hhh.out hC)
          rw [hC]
          obtain ⟨Y, hY⟩ : ∃ X, X4.heap.size = X := ⟨_, rfl⟩
          obtain ⟨V5, hV5⟩ : ∃ W, X4.alloc (.cells C 9) = W := ⟨_, rfl⟩
          have HY := Lib.hid (show V5.heap[Y]? = some (.cells C 9 (0, 0)) by rw [← hV5, ← hY]; exact World.alloc_heap_new X4 _)
          have F5 := Lib.hid (show Fr0 none' w V5 by rw [← hV5]; exact F3.out.alloc _)
          rw [hV5]
          try rw [hY]
          clear hV5 hY hC h3z hhs hsz
          go_loopw [26, 27, 28, 224] (fun _ _ _ c wr => ∃ i : Nat, c = .int .i64 i ∧ i ≤ 9 ∧ Hid (Fr0 none' V5 wr)) (fun _ _ _ c _ => 9 - (Go.RowKit.intOf c).toNat)
          case atStart => exact ⟨0, rfl, Nat.zero_le _, Fr0.refl _ _⟩
          case round =>
            obtain ⟨i, rfl, hi, hf⟩ := hrel
            by_cases hlt : i < 9
            · have d0 : decide ((i : Int) < 9) = true := decide_eq_true (by omega)
              have d0n : decide (i < 9) = true := decide_eq_true hlt
              have e5 : IntKind.i64.wrap ((i : Int) + 1) = (i : Int) + 1 := IntWalk.i64_in _ (by omega)
              have b1 : (0 : Int) ≤ (i : Int) := by omega
              have b2 : (i : Int) < 9 := by omega
              obtain ⟨u, hc, husz, hun⟩ := HP.out i hlt
              have y0 : wr.cell? ⟨Y, i, none⟩ = some (.string u) := by
                rw [cellsK_at ((hf.out.block Y (Array.getElem?_eq_some_iff.1 HY.out).1 id).trans HY.out)]
                exact hc
              have HPa := Lib.hid (Parse_any u husz wr (HL.out.later (F5.out.trans hf.out)))
              rw [parseV_no hun] at HPa
              have Hi := Lib.hid hlt
              clear hlt hi hc husz hun
              go_wp2_with fail
              refine HPa.out.mono ?_
              rintro e v1 ⟨rfl, hf2⟩
              have F6 := Lib.hid ((hf.out.trans hf2).alloc (.cells #[.int .i64 0, .int .i64 0, .int .i64 0] 28))
              have d1 : sameK ⟨0, 0, 0⟩ ⟨0, 0, 0⟩ = true := rfl
              clear hf2 hf y0
              go_wp2_with fail
              exact ⟨⟨i + 1, by simp, by have := Hi.out; omega, F6⟩, by simp [Go.RowKit.intOf]; have := Hi.out; omega⟩
            · obtain rfl : i = 9 := by omega
              rw [show ((9 : Nat) : Int) = (9 : Int) from rfl]
              have FE := Lib.hid (F5.out.trans hf.out)
              clear hlt hi hf
              go_wp2_with fail
              go_ret
              exact ⟨rfl, FE.out⟩
        simp only [List.foldl, Act.put, List.setIfInBounds_toArray, List.set_cons_zero, List.set_cons_succ] at hT
        have HT := Lib.hid hT
        clear hT
        refine wp_region_held_drew (S := fun W' => Fr0 none' wC W') (by kernel_rfl) ((Fr0.refl none' wC).drew) (fun hHeld => ?_)
        refine take_on (i := 0) (v := .slice (some ⟨g1, 0, none⟩) 12 c1) rfl (by kernel_rfl) (by kernel_rfl) (by kernel_rfl) (fun _ _ _ h => h) (by kernel_rfl) (fun W' hSW => ?_) (by assumption) ?_
        · clear hSW
          first | (go_simp; done) | exact rfl | (go_simp; rfl) | (go_simp; omega)
        try simp only [Act.put, List.setIfInBounds_toArray, List.set_cons_zero, List.set_cons_succ]
        refine take_on (i := 2) (v := .slice (some ⟨g1, 0, none⟩) 12 c1) rfl (by kernel_rfl) (by kernel_rfl) (by kernel_rfl) (fun _ _ _ h => h) (by kernel_rfl) (fun W' hSW => ?_) (by assumption) ?_
        · clear hSW
          first | (go_simp; done) | exact rfl | (go_simp; rfl) | (go_simp; omega)
        try simp only [Act.put, List.setIfInBounds_toArray, List.set_cons_zero, List.set_cons_succ]
        refine take_on (i := 3) (v := .int .i64 (cq : Int)) rfl (by kernel_rfl) (by kernel_rfl) (by kernel_rfl) (fun _ _ _ h => h) (by kernel_rfl) (fun W' hSW => ?_) (by assumption) ?_
        · clear hSW
          first | (go_simp; done) | exact rfl | (go_simp; rfl) | (go_simp; omega)
        try simp only [Act.put, List.setIfInBounds_toArray, List.set_cons_zero, List.set_cons_succ]
        refine take_on (i := 4) (v := .pointer (some ⟨g1, cq, none⟩)) rfl (by kernel_rfl) (by kernel_rfl) (by kernel_rfl) (fun _ _ _ h => h) (by kernel_rfl) (fun W' hSW => ?_) (by assumption) ?_
        · clear hSW
          first | (go_simp; done) | exact rfl | (go_simp; rfl) | (go_simp; omega)
        try simp only [Act.put, List.setIfInBounds_toArray, List.set_cons_zero, List.set_cons_succ]
        refine take_on (i := 5) (v := .int .u8 xb.toNat) rfl (by kernel_rfl) (by kernel_rfl) (by kernel_rfl) (fun _ _ _ h => h) (by kernel_rfl) (fun W' hSW => ?_) (by assumption) ?_
        · have y9 := HCell.out W' hSW
          clear hSW
          first | (go_simp; done) | exact rfl | (go_simp; rfl) | (go_simp; omega)
        try simp only [Act.put, List.setIfInBounds_toArray, List.set_cons_zero, List.set_cons_succ]
        refine wpAnyH_ready (rs := [1, 6]) (by kernel_rfl) (by simp) (AllReadyH.cons (op_at rfl) (fun K hK => ?_) (AllReadyH.cons (op_at rfl) (fun K hK => ?_) AllReadyH.nil))
        · rw [if_pos (by kernel_rfl)]
          go_simp
          refine (HCl.out _ hHeld).mono ?_
          rintro e w9 ⟨vC, rfl, hr, hf⟩
          have RC := Lib.hid (ownsRow_k_mono hr hHeld.size)
          have G := Lib.hid (hHeld.trans hf)
          try have LI := Lib.hid (LI.out.later hf)
          clear hr hf hHeld
          go_wp2_with fail
          refine hK.out _ _ G.out (fun hHeld => ?_)
          clear hK K
          try simp only [Act.put, List.setIfInBounds_toArray, List.set_cons_zero, List.set_cons_succ]
          refine take_call (i := 6) rfl (by kernel_rfl) (by kernel_rfl) (fun K hK => ?_)
          go_simp
          obtain ⟨lb, hlb⟩ : ∃ q, w9.heap.size = q := ⟨_, rfl⟩
          obtain ⟨w10, hW⟩ : ∃ W, (w9.alloc (.cells #[.int .u8 xb.toNat] 5)) = W := ⟨_, rfl⟩
          have fL : Fr0 none' w9 w10 := by rw [← hW]; exact ((Fr0.refl _ _).alloc _)
          have LI := Lib.hid (show BsIn w10 (some ⟨lb, 0, none⟩) [xb] by rw [← hW, ← hlb]; exact bsin_lit' (World.alloc_heap_new w9 _) _ rfl)
          have G := Lib.hid (hHeld.trans fL)
          try have RC := Lib.hid (ownsRow_q_fr RC.out fL (fun _ _ h => h))
          rw [hW]
          try rw [hlb]
          clear hW hlb fL hHeld
          refine hK.out _ _ G.out (fun hHeld => ?_)
          clear hK K
          try simp only [Act.put, List.setIfInBounds_toArray, List.set_cons_zero, List.set_cons_succ]
          refine take_call (i := 7) rfl (by kernel_rfl) (by kernel_rfl) (fun K hK => ?_)
          have hsrc := Lib.hid (show Src Tryz.prog 1 30 (.slice (some ⟨lb, 0, none⟩) 1 1) 1 (Lib.byteCells [xb]) w10 from Src.ofSlice _ Tryz.underlying30 ⟨lb, 0, none⟩ 1 1 (Lib.byteCells [xb]) (by rw [Lib.byteCells_length]; rfl) (LI.out.cells) (fun u hu => by obtain ⟨x, _, rfl⟩ := List.mem_map.1 hu; rfl))
          refine wp_app_q _ _ 30 30 rfl wC.heap.size 5 ib (.int .u8 0) 1 1 Tryz.underlying30 hib hb0 hb1 hb2 rfl (by decide) vC 12 _ rfl RC.out (.slice (some ⟨lb, 0, none⟩) 1 1) 1 _ rfl hsrc.out (by unfold maxLen; omega) (by omega) G.out.size ?_
          intro v9 V9 hown hgr _ _
          have hRC := RC.out.lt
          have G := Lib.hid (G.out.grown hgr (fun k hk hlt => by have := (hRC k hk).1; omega))
          have hr9 : V9.ownsRow wC.heap.size 5 1 v9 13 (Lib.byteCells (bytesK k ++ [xb])) := by rw [show Lib.byteCells (bytesK k ++ [xb]) = Lib.byteCells (bytesK k) ++ Lib.byteCells [xb] from by simp [Lib.byteCells]]; exact hown
          obtain ⟨g9, c9, rfl⟩ := Joins.ownsRow_form hr9 (by omega)
          have hcap9 := row_caps hr9
          have P9 := Lib.hid (BsIn.of_row hr9)
          clear hown hgr hRC hsrc hr9
          refine hK.out _ _ G.out (fun hHeld => ?_)
          clear hK K
          try simp only [Act.put, List.setIfInBounds_toArray, List.set_cons_zero, List.set_cons_succ]
          refine take_call (i := 8) rfl (by kernel_rfl) (by kernel_rfl) (fun K hK => ?_)
          go_simp
          have HRd := Lib.hid (Read_any (some ⟨g9, 0, none⟩) 13 c9 (bytesK k ++ [xb]) (by rw [List.length_append, bytesK_length]; rfl) hcap9.1 hcap9.2 V9 P9.out)
          rw [readV_len (by rw [List.length_append, bytesK_length]; simp)] at HRd
          refine HRd.out.mono ?_
          rintro e V10 ⟨rfl, hf⟩
          have G := Lib.hid (G.out.trans hf)
          clear hf hHeld HRd
          go_wp2_with fail
          refine hK.out _ _ G.out (fun hHeld => ?_)
          clear hK K
          try simp only [Act.put, List.setIfInBounds_toArray, List.set_cons_zero, List.set_cons_succ]
          refine take_on (i := 9) (v := .tuple #[.agg #[.int .i64 0, .int .i64 0, .int .i64 0], .int .i64 71]) rfl (by kernel_rfl) (by kernel_rfl) (by kernel_rfl) (fun _ _ _ h => h) (by kernel_rfl) (fun W' hSW => ?_) (by assumption) ?_
          · clear hSW
            first | (go_simp; done) | exact rfl | (go_simp; rfl) | (go_simp; omega)
          try simp only [Act.put, List.setIfInBounds_toArray, List.set_cons_zero, List.set_cons_succ]
          refine take_on (i := 10) (v := .agg #[.int .i64 0, .int .i64 0, .int .i64 0]) rfl (by kernel_rfl) (by kernel_rfl) (by kernel_rfl) (fun _ _ _ h => h) (by kernel_rfl) (fun W' hSW => ?_) (by assumption) ?_
          · clear hSW
            first | (go_simp; done) | exact rfl | (go_simp; rfl) | (go_simp; omega)
          try simp only [Act.put, List.setIfInBounds_toArray, List.set_cons_zero, List.set_cons_succ]
          refine take_on (i := 11) (v := .int .i64 71) rfl (by kernel_rfl) (by kernel_rfl) (by kernel_rfl) (fun _ _ _ h => h) (by kernel_rfl) (fun W' hSW => ?_) (by assumption) ?_
          · clear hSW
            first | (go_simp; done) | exact rfl | (go_simp; rfl) | (go_simp; omega)
          try simp only [Act.put, List.setIfInBounds_toArray, List.set_cons_zero, List.set_cons_succ]
          refine take_on (i := 12) (v := .int .i64 71) rfl (by kernel_rfl) (by kernel_rfl) (by kernel_rfl) (fun _ _ _ h => h) (by kernel_rfl) (fun W' hSW => ?_) (by assumption) ?_
          · clear hSW
            first | (go_simp; done) | exact rfl | (go_simp; rfl) | (go_simp; omega)
          try simp only [Act.put, List.setIfInBounds_toArray, List.set_cons_zero, List.set_cons_succ]
          refine wpAnyH_done (by kernel_rfl) ?_ _
          exact HT.out (fun n => ([.slice (some ⟨g1, 0, none⟩) 12 c1, vC, .slice (some ⟨g1, 0, none⟩) 12 c1, .int .i64 (cq : Int), .pointer (some ⟨g1, cq, none⟩), .int .u8 xb.toNat, .slice (some ⟨lb, 0, none⟩) 1 1, .slice (some ⟨g9, 0, none⟩) 13 c9, .tuple #[.agg #[.int .i64 0, .int .i64 0, .int .i64 0], .int .i64 71], .tuple #[.agg #[.int .i64 0, .int .i64 0, .int .i64 0], .int .i64 71], .agg #[.int .i64 0, .int .i64 0, .int .i64 0], .int .i64 71] : List Value).getD n undef) V10 hHeld
        · rw [if_pos (by kernel_rfl)]
          go_simp
          clear hHeld
          have hHeld : Fr0 none' wC wC := Fr0.refl _ _
          obtain ⟨lb, hlb⟩ : ∃ q, wC.heap.size = q := ⟨_, rfl⟩
          obtain ⟨w9, hW⟩ : ∃ W, (wC.alloc (.cells #[.int .u8 xb.toNat] 5)).drew = W := ⟨_, rfl⟩
          have fL : Fr0 none' wC w9 := by rw [← hW]; exact ((Fr0.refl _ _).alloc _).drew
          have LI := Lib.hid (show BsIn w9 (some ⟨lb, 0, none⟩) [xb] by rw [← hW, ← hlb]; exact bsin_lit' (World.alloc_heap_new wC _) _ rfl)
          have G := Lib.hid (hHeld.trans fL)
          try have RC := Lib.hid (ownsRow_q_fr RC.out fL (fun _ _ h => h))
          rw [hW]
          try rw [hlb]
          clear hW hlb fL hHeld
          refine hK.out _ _ G.out (fun hHeld => ?_)
          clear hK K
          try simp only [Act.put, List.setIfInBounds_toArray, List.set_cons_zero, List.set_cons_succ]
          refine take_call (i := 1) rfl (by kernel_rfl) (by kernel_rfl) (fun K hK => ?_)
          go_simp
          refine (HCl.out _ hHeld).mono ?_
          rintro e w10 ⟨vC, rfl, hr, hf⟩
          have RC := Lib.hid (ownsRow_k_mono hr hHeld.size)
          have G := Lib.hid (hHeld.trans hf)
          try have LI := Lib.hid (LI.out.later hf)
          clear hr hf hHeld
          go_wp2_with fail
          refine hK.out _ _ G.out (fun hHeld => ?_)
          clear hK K
          try simp only [Act.put, List.setIfInBounds_toArray, List.set_cons_zero, List.set_cons_succ]
          refine take_call (i := 7) rfl (by kernel_rfl) (by kernel_rfl) (fun K hK => ?_)
          have hsrc := Lib.hid (show Src Tryz.prog 1 30 (.slice (some ⟨lb, 0, none⟩) 1 1) 1 (Lib.byteCells [xb]) w10 from Src.ofSlice _ Tryz.underlying30 ⟨lb, 0, none⟩ 1 1 (Lib.byteCells [xb]) (by rw [Lib.byteCells_length]; rfl) (LI.out.cells) (fun u hu => by obtain ⟨x, _, rfl⟩ := List.mem_map.1 hu; rfl))
          refine wp_app_q _ _ 30 30 rfl wC.heap.size 5 ib (.int .u8 0) 1 1 Tryz.underlying30 hib hb0 hb1 hb2 rfl (by decide) vC 12 _ rfl RC.out (.slice (some ⟨lb, 0, none⟩) 1 1) 1 _ rfl hsrc.out (by unfold maxLen; omega) (by omega) G.out.size ?_
          intro v9 V9 hown hgr _ _
          have hRC := RC.out.lt
          have G := Lib.hid (G.out.grown hgr (fun k hk hlt => by have := (hRC k hk).1; omega))
          have hr9 : V9.ownsRow wC.heap.size 5 1 v9 13 (Lib.byteCells (bytesK k ++ [xb])) := by rw [show Lib.byteCells (bytesK k ++ [xb]) = Lib.byteCells (bytesK k) ++ Lib.byteCells [xb] from by simp [Lib.byteCells]]; exact hown
          obtain ⟨g9, c9, rfl⟩ := Joins.ownsRow_form hr9 (by omega)
          have hcap9 := row_caps hr9
          have P9 := Lib.hid (BsIn.of_row hr9)
          clear hown hgr hRC hsrc hr9
          refine hK.out _ _ G.out (fun hHeld => ?_)
          clear hK K
          try simp only [Act.put, List.setIfInBounds_toArray, List.set_cons_zero, List.set_cons_succ]
          refine take_call (i := 8) rfl (by kernel_rfl) (by kernel_rfl) (fun K hK => ?_)
          go_simp
          have HRd := Lib.hid (Read_any (some ⟨g9, 0, none⟩) 13 c9 (bytesK k ++ [xb]) (by rw [List.length_append, bytesK_length]; rfl) hcap9.1 hcap9.2 V9 P9.out)
          rw [readV_len (by rw [List.length_append, bytesK_length]; simp)] at HRd
          refine HRd.out.mono ?_
          rintro e V10 ⟨rfl, hf⟩
          have G := Lib.hid (G.out.trans hf)
          clear hf hHeld HRd
          go_wp2_with fail
          refine hK.out _ _ G.out (fun hHeld => ?_)
          clear hK K
          try simp only [Act.put, List.setIfInBounds_toArray, List.set_cons_zero, List.set_cons_succ]
          refine take_on (i := 9) (v := .tuple #[.agg #[.int .i64 0, .int .i64 0, .int .i64 0], .int .i64 71]) rfl (by kernel_rfl) (by kernel_rfl) (by kernel_rfl) (fun _ _ _ h => h) (by kernel_rfl) (fun W' hSW => ?_) (by assumption) ?_
          · clear hSW
            first | (go_simp; done) | exact rfl | (go_simp; rfl) | (go_simp; omega)
          try simp only [Act.put, List.setIfInBounds_toArray, List.set_cons_zero, List.set_cons_succ]
          refine take_on (i := 10) (v := .agg #[.int .i64 0, .int .i64 0, .int .i64 0]) rfl (by kernel_rfl) (by kernel_rfl) (by kernel_rfl) (fun _ _ _ h => h) (by kernel_rfl) (fun W' hSW => ?_) (by assumption) ?_
          · clear hSW
            first | (go_simp; done) | exact rfl | (go_simp; rfl) | (go_simp; omega)
          try simp only [Act.put, List.setIfInBounds_toArray, List.set_cons_zero, List.set_cons_succ]
          refine take_on (i := 11) (v := .int .i64 71) rfl (by kernel_rfl) (by kernel_rfl) (by kernel_rfl) (fun _ _ _ h => h) (by kernel_rfl) (fun W' hSW => ?_) (by assumption) ?_
          · clear hSW
            first | (go_simp; done) | exact rfl | (go_simp; rfl) | (go_simp; omega)
          try simp only [Act.put, List.setIfInBounds_toArray, List.set_cons_zero, List.set_cons_succ]
          refine take_on (i := 12) (v := .int .i64 71) rfl (by kernel_rfl) (by kernel_rfl) (by kernel_rfl) (fun _ _ _ h => h) (by kernel_rfl) (fun W' hSW => ?_) (by assumption) ?_
          · clear hSW
            first | (go_simp; done) | exact rfl | (go_simp; rfl) | (go_simp; omega)
          try simp only [Act.put, List.setIfInBounds_toArray, List.set_cons_zero, List.set_cons_succ]
          refine wpAnyH_done (by kernel_rfl) ?_ _
          exact HT.out (fun n => ([.slice (some ⟨g1, 0, none⟩) 12 c1, vC, .slice (some ⟨g1, 0, none⟩) 12 c1, .int .i64 (cq : Int), .pointer (some ⟨g1, cq, none⟩), .int .u8 xb.toNat, .slice (some ⟨lb, 0, none⟩) 1 1, .slice (some ⟨g9, 0, none⟩) 13 c9, .tuple #[.agg #[.int .i64 0, .int .i64 0, .int .i64 0], .int .i64 71], .tuple #[.agg #[.int .i64 0, .int .i64 0, .int .i64 0], .int .i64 71], .agg #[.int .i64 0, .int .i64 0, .int .i64 0], .int .i64 71] : List Value).getD n undef) V10 hHeld
end Go.Proofs.YtpklgpdlkdlbbaaGreatDoor

namespace Go.Proofs.YtpklgpdlkdlbbaaGreatDoor.keyWrong
open Go Go.ChangeShapes Go.WideShapes Go.ChangeAt Go.RowKit Go.Proofs.YtpklgpdlkdlbbaaGreatDoor

set_option maxRecDepth 100000 in
theorem walk {H : Type} {enc : TypeId × Value → H} (W : World) (base : Nat) (args : Array Value) (ds gs : List (DataW H)) (before : List MemPlace)
    (hval0 : ∀ (j : Nat) t v, Tryz.f3.params[j]? = some t → args[j]? = some v → Value.okWide Tryz.prog W .any base t v)
    (hW : DataW.Whole enc Tryz.prog Tryz.f3.params.toList Rows.keyWrongSpec.vars false W args.toList ds gs before) (hL : laidMet Tryz.prog laidK7 W) (hS : W.ShapedOpen Tryz.prog) :
    Calls Tryz.prog 3 args W fun e W' => ∃ v, e = .returned v ∧ Rows.keyWrongSpec.post enc Tryz.prog Tryz.f3 false true false false W args v W' := by
  have hval : ∀ (j : Nat) t v, Tryz.f3.params[j]? = some t → args[j]? = some v → Value.okWide Tryz.prog W .any base t v := hval0
  have hW' := hW
  obtain ⟨p, q, hA0, hV, rfl, hfz, hnd⟩ := hW'
  have hA : DataW.TrodAll enc Tryz.prog W 0 (fun _ => true) true Tryz.f3.params.toList args.toList ds p := hA0
  rw [Tryz.params3] at hA hval
  obtain ⟨v0, vs0, d0, ds0, p0, q0, hargs, rfl, rfl, h0, r0⟩ := trodAll_cons hA
  obtain ⟨v1, vs1, d1, ds1, p1, q1, rfl, rfl, rfl, h1, r1⟩ := trodAll_cons r0
  obtain ⟨v2, vs2, d2, ds2, p2, q2, rfl, rfl, rfl, h2, r2⟩ := trodAll_cons r1
  obtain ⟨v3, vs3, d3, ds3, p3, q3, rfl, rfl, rfl, h3, r3⟩ := trodAll_cons r2
  obtain ⟨rfl, rfl, rfl⟩ := trodAll_nil r3
  obtain rfl : args = #[v0, v1, v2, v3] := by cases args; simp_all
  obtain ⟨rfl, rfl⟩ := trodVars_none hV
  clear hA0 hval0
  simp only [List.append_nil] at hW
  have l0 : ∀ x ∈ p0, x.block < W.heap.size := fun x hx => hW.lt x (by simp [hx])
  have t0 := fun W' (hb : Below W.heap.size W W') => Below.trod laid_own (by kernel_rfl) (of_decide_eq_true (by kernel_rfl)) h0 hb l0
  have l1 : ∀ x ∈ p1, x.block < W.heap.size := fun x hx => hW.lt x (by simp [hx])
  have t1 := fun W' (hb : Below W.heap.size W W') => Below.trod laid_own (by kernel_rfl) (of_decide_eq_true (by kernel_rfl)) h1 hb l1
  have l2 : ∀ x ∈ p2, x.block < W.heap.size := fun x hx => hW.lt x (by simp [hx])
  have t2 := fun W' (hb : Below W.heap.size W W') => Below.trod laid_own (by kernel_rfl) (of_decide_eq_true (by kernel_rfl)) h2 hb l2
  have l3 : ∀ x ∈ p3, x.block < W.heap.size := fun x hx => hW.lt x (by simp [hx])
  have t3 := fun W' (hb : Below W.heap.size W W') => Below.trod laid_own (by kernel_rfl) (of_decide_eq_true (by kernel_rfl)) h3 hb l3
  obtain ⟨x0, rfl⟩ := num3_arg (hval 0 25 v0 rfl rfl) h0
  obtain ⟨z1, rfl, _, _, w1⟩ := open_int Tryz.underlying5 (hval 1 5 v1 rfl rfl) h1
  have hz1 : 0 ≤ z1 ∧ z1 < 256 := by have h := bounds_u8 w1; exact ⟨by omega, by omega⟩
  obtain ⟨t1n, ht1⟩ : ∃ t : Nat, z1 = (t : Int) := ⟨z1.toNat, by omega⟩
  subst ht1
  obtain ⟨z2, rfl, _, _, w2⟩ := open_int Tryz.underlying3 (hval 2 3 v2 rfl rfl) h2
  obtain ⟨z3, rfl, _, _, w3⟩ := open_int Tryz.underlying5 (hval 3 5 v3 rfl rfl) h3
  have hz3 : 0 ≤ z3 ∧ z3 < 256 := by have h := bounds_u8 w3; exact ⟨by omega, by omega⟩
  obtain ⟨t3n, ht3⟩ : ∃ t : Nat, z3 = (t : Int) := ⟨z3.toNat, by omega⟩
  subst ht3
  refine (KeyWrong_any x0 t1n z2 t3n W (laid7_of7 hL) (maxLen_some hS) (by omega) (by omega) (bounds_i64 w2)).mono fun e W' ⟨he, hg0⟩ => ?_
  have hg := hg0.below (Nat.le_refl _) (fun _ _ h => h)
  subst he
  exact ⟨_, rfl, post_belowK (pa := (p0 ++ (p1 ++ (p2 ++ (p3 ++ []))))) (pv := []) hW (fun _ _ _ => (trodAll_cons_mk (shut_bool Tryz.underlying4 _) trodAll_mk0)) (trodAll_cons_mk (t0 _ hg) (trodAll_cons_mk (t1 _ hg) (trodAll_cons_mk (t2 _ hg) (trodAll_cons_mk (t3 _ hg) trodAll_mk0)))) (fun _ _ => rfl) hg⟩

set_option maxRecDepth 100000 in
theorem lifted (os : Os) (started : os.Started) (H : Type) (enc : TypeId × Value → H) :
    ReturnsInHanded {} Tryz.checked os 3 .any (fun w args => (Rows.keyWrongSpec.pre enc Tryz.prog Tryz.f3 Rows.keyWrongRow.domain false w args ∧ laidMet Tryz.prog laidK7 w) ∧ sizedMet enc Tryz.prog Tryz.f3 (OpenSpec.ofChange Rows.keyWrongSpec) false w args)
      (Rows.keyWrongSpec.post enc Tryz.prog Tryz.f3 false true false false) := by
  refine returnsInHanded_of_calls (C := Tryz.checked) own_knob started (by kernel_rfl)
    (ChangeSpec.witness_at (enc := enc) (C := Tryz.checked) (os := os) (X := fun w _ => laidMet Tryz.prog laidK7 w) false (laidWorld7 os) #[.agg #[.int .u64 0, .int .u32 0, .int .u32 0], .int .u8 0, .int .i64 0, .int .u8 0] 8 rfl (by kernel_rfl) (by kernel_rfl) (by kernel_rfl) (by kernel_rfl) (by kernel_rfl) (laidWorld7_met os _)) ?_
  rintro w tape i - hS - ⟨_, _, _, fn, hfn, _, _, _, _, hval⟩ ⟨⟨⟨ds, gs, before, hw, _⟩, hL⟩, _⟩ -
  obtain rfl : fn = Tryz.f3 := Option.some.inj (hfn.symm.trans Tryz.func3)
  refine (walk (w.forCall tape i) w.heap.size i.args ds gs before hval (DataW.Whole.of_heap (w' := w.forCall tape i) (by rfl) hw) (hL.of_heap (by rfl)) hS).mono fun e W' h => ?_
  obtain ⟨v, rfl, hp⟩ := h
  exact ChangeSpec.post_blind hp

theorem over : Rows.keyWrongRow.holds Tryz.pinned (OpenSpec.ofChange Rows.keyWrongSpec) :=
  OpenClaim.holds_of_wide 3 Tryz.f3 rfl rfl rfl rfl rfl rfl rfl ⟨rfl, rfl, rfl, rfl, rfl⟩ rfl rfl rfl rfl rfl (by kernel_rfl) Tryz.func3 (by kernel_rfl)
    (of_decide_eq_true (by kernel_rfl)) (by unfold Func.isWrapper; first | (rw [if_pos (by decide +kernel)]; kernel_rfl) | (rw [if_neg (by decide +kernel)]; exact ⟨rfl, rfl⟩))
    (fun os started H enc _ => lifted os started H enc)

theorem proved : Rows.KeyWrongCardSaid :=
  Claim7.holds_tied_plain_at .later [] [.data, .data, .data, .data, .sentinel, .sentinel, .pinned] true _ true
    over (fun _ h => by cases h) (by kernel_rfl) (fun _ h => by cases h) keyWrong_row_tie rfl ⟨rfl, rfl⟩ (by kernel_rfl) rfl
    (fun f fn hf hfn => by
      obtain rfl : f = 3 := Option.some.inj ((show Tryz.prog.funcNamed "fermata/fermatalaw07.KeyWrong" = some 3 by kernel_rfl).symm.trans hf) |>.symm
      obtain rfl : fn = Tryz.f3 := (Option.some.inj (Tryz.func3.symm.trans hfn)).symm
      exact ⟨by kernel_rfl, fun j t ht => by
        rw [Tryz.params3] at ht
        have sS : Tryz.prog.wantsStandIn 25 = false := by kernel_rfl
        have si : Tryz.prog.wantsStandIn 3 = false := by kernel_rfl
        have su : Tryz.prog.wantsStandIn 5 = false := by kernel_rfl
        have hm : t ∈ [25, 5, 3, 5] := by
          have := Array.mem_of_getElem? ht
          simpa using this
        simp only [List.mem_cons, List.not_mem_nil, or_false] at hm
        rcases hm with rfl | rfl | rfl | rfl
        · exact sS
        · exact su
        · exact si
        · exact su⟩)
    (by kernel_rfl)
#print axioms proved
end Go.Proofs.YtpklgpdlkdlbbaaGreatDoor.keyWrong
