/- The pure statement behind the law FnExactDecodeInts: over numbers and lists the law answers true, at every input that the row's bounds let in. -/
import Derived.Test.YtgcidlnhgpjdpacPFnExactDecodeIntsx3
import Derived.Test.YtgcidlnhgpjdpacWSized
namespace Go.Proofs.Ytgcidlnhgpjdpac.Pure
open Go Go.RowKit Go.Proofs.Ytgcidlnhgpjdpac.PFnExactDecodeInts Go.Proofs.YtgcidlnhgpjdpacW.PrintWords Go.Proofs.YtgcidlnhgpjdpacW.PrintLast Go.Proofs.YtgcidlnhgpjdpacW.PrintMore
set_option linter.unusedVariables false
set_option linter.unusedSimpArgs false
set_option maxRecDepth 100000

theorem w64 {x : Int} (h0 : -9223372036854775808 ≤ x) (h1 : x ≤ 9223372036854775807) : wrap64 x = x := by unfold wrap64; omega
theorem wf64 {x : Int} (h : (Lit.int .i64 x).wf = true) : -9223372036854775808 ≤ x ∧ x ≤ 9223372036854775807 := by
  simp [Lit.wf, IntKind.min, IntKind.max, IntKind.signed, IntKind.bits] at h
  omega
theorem wf8 {x : Int} (h : (Lit.int .u8 x).wf = true) : 0 ≤ x ∧ x ≤ 255 := by
  simp [Lit.wf, IntKind.min, IntKind.max, IntKind.signed, IntKind.bits] at h
  omega
theorem ev_pos {α : Type} {c : Prop} [Decidable c] {g f : Nat → Option α} {r : α} (h : c) (k : Ev g r) : Ev (fun n => if c then g n else f n) r := by
  obtain ⟨K, hK⟩ := k
  exact ⟨K, fun n hn => (if_pos h).trans (hK n hn)⟩
theorem ev_neg {α : Type} {c : Prop} [Decidable c] {g f : Nat → Option α} {r : α} (h : ¬ c) (k : Ev f r) : Ev (fun n => if c then g n else f n) r := by
  obtain ⟨K, hK⟩ := k
  exact ⟨K, fun n hn => (if_neg h).trans (hK n hn)⟩
theorem ev_bind0 {α β : Type} {o : Option α} {f : Nat → α → Option β} {a : α} {r : β} (h : o = some a) (k : Ev (fun n => f n a) r) : Ev (fun n => o.bind (f n)) r := by
  subst h
  exact k
theorem ev_of {α : Type} {o : Option α} {r : α} (h : o = some r) : Ev (fun _ => o) r := ⟨0, fun _ _ => h⟩
theorem rd_at (xs : List Int) (i : Nat) (h : i < xs.length) : rd xs (i : Int) = xs[i] := by
  unfold rd
  rw [Int.toNat_natCast, List.getD_eq_getElem?_getD, List.getElem?_eq_getElem h]
  rfl
theorem set_take {out xs : List Int} {i : Nat} (h : out.take i = xs.take i) (hl : out.length = xs.length) (hi : i < xs.length) : (out.set ((i : Int)).toNat (rd xs i)).take (i + 1) = xs.take (i + 1) := by
  rw [rd_at xs i hi, Int.toNat_natCast, List.take_succ_eq_append_getElem hi, List.take_succ_eq_append_getElem (by rw [List.length_set]; omega)]
  rw [List.take_set_of_le (Nat.le_refl _), h]
  simp
def seqFrom (m : Int) (n : Nat) : List Int := (List.range n).map fun (j : Nat) => m + (j : Int)
theorem seqFrom_length (m : Int) (n : Nat) : (seqFrom m n).length = n := by simp [seqFrom]
theorem seqFrom_get (m : Int) (n i : Nat) (h : i < n) : (seqFrom m n)[i]'(by rw [seqFrom_length]; exact h) = m + (i : Int) := by simp [seqFrom]
theorem seq_set {x ys : List Int} {i : Nat} (h : x.take i = ys.take i) (hl : x.length = ys.length) (hi : i < ys.length) {v : Int} (hv : ys[i] = v) : (x.set ((i : Int)).toNat v).take (i + 1) = ys.take (i + 1) := by
  subst hv
  rw [Int.toNat_natCast, List.take_succ_eq_append_getElem hi, List.take_succ_eq_append_getElem (by rw [List.length_set]; omega)]
  rw [List.take_set_of_le (Nat.le_refl _), h]
  simp
theorem toByteS_l0 (xs : List Int) (hn : xs.length ≤ 281474976710656) : ∀ (d i : Nat) (out : List Int), i + d = xs.length → out.length = xs.length → out.take i = xs.take i → Ev (fun k => laws_toByteS.l0 k xs out (i : Int)) xs := by
  intro d
  induction d with
  | zero =>
    intro i out hd hl ht
    refine Ev.step (fun _ => laws_toByteS.l0.eq_2 ..) (ev_neg (by omega) (ev_of ?_))
    rw [List.take_of_length_le (by omega), List.take_of_length_le (by omega)] at ht
    rw [ht]
  | succ d ih =>
    intro i out hd hl ht
    refine Ev.step (fun _ => laws_toByteS.l0.eq_2 ..) (ev_pos (by omega) (ev_pos (by omega) (ev_pos (by omega) ?_)))
    rw [w64 (by omega) (by omega)]
    exact ih (i + 1) _ (by omega) (by rw [List.length_set]; exact hl) (set_take ht hl (by omega))
theorem toByteS_ev (xs : List Int) (hn : xs.length ≤ 281474976710656) : Ev (fun k => laws_toByteS.f k xs) xs := by
  unfold laws_toByteS.f
  refine ev_pos (by omega) (ev_pos (by omega) ?_)
  exact toByteS_l0 xs hn xs.length 0 _ (by omega) (by simp) (by simp)
theorem eqByteS_l0 (xs : List Int) (hn : xs.length ≤ 9223372036854775807) : ∀ (d i : Nat), i + d = xs.length → Ev (fun k => laws_eqByteS.l0 k xs xs (i : Int)) true := by
  intro d
  induction d with
  | zero =>
    intro i hd
    exact Ev.step (fun _ => laws_eqByteS.l0.eq_2 ..) (ev_neg (by omega) (Ev.now true))
  | succ d ih =>
    intro i hd
    refine Ev.step (fun _ => laws_eqByteS.l0.eq_2 ..) (ev_pos (by omega) (ev_pos (by omega) (ev_pos (by omega) (ev_pos rfl ?_))))
    rw [w64 (by omega) (by omega)]
    exact ih (i + 1) (by omega)
theorem eqByteS_same (xs : List Int) (hn : xs.length ≤ 9223372036854775807) : Ev (fun k => laws_eqByteS.f k xs xs) true := by
  unfold laws_eqByteS.f
  exact ev_pos rfl (eqByteS_l0 xs hn xs.length 0 (by omega))
theorem eqIntS_l0 (xs : List Int) (hn : xs.length ≤ 9223372036854775807) : ∀ (d i : Nat), i + d = xs.length → Ev (fun k => laws_eqIntS.l0 k xs xs (i : Int)) true := by
  intro d
  induction d with
  | zero =>
    intro i hd
    exact Ev.step (fun _ => laws_eqIntS.l0.eq_2 ..) (ev_neg (by omega) (Ev.now true))
  | succ d ih =>
    intro i hd
    refine Ev.step (fun _ => laws_eqIntS.l0.eq_2 ..) (ev_pos (by omega) (ev_pos (by omega) (ev_pos (by omega) (ev_pos rfl ?_))))
    rw [w64 (by omega) (by omega)]
    exact ih (i + 1) (by omega)
theorem eqIntS_same (xs : List Int) (hn : xs.length ≤ 9223372036854775807) : Ev (fun k => laws_eqIntS.f k xs xs) true := by
  unfold laws_eqIntS.f
  exact ev_pos rfl (eqIntS_l0 xs hn xs.length 0 (by omega))
def byteFrom (m : Int) (n : Nat) : List Int := (List.range n).map fun (j : Nat) => (m + (j : Int)) % 256
theorem byteFrom_length (m : Int) (n : Nat) : (byteFrom m n).length = n := by simp [byteFrom]
theorem byteFrom_get (m : Int) (n i : Nat) (h : i < n) : (byteFrom m n)[i]'(by rw [byteFrom_length]; exact h) = (m + (i : Int)) % 256 := by simp [byteFrom]
theorem markByteS_l0 : ∀ (d i : Nat) (m : Int) (x : List Int) (s : Int) (n : Nat), n = x.length → i + d = n → m = s + (i : Int) → 0 ≤ s → s + (n : Int) ≤ 4611686018427387904 → x.take i = (byteFrom s n).take i → Ev (fun k => laws_markByteS.l0 k x m (i : Int)) (s + (n : Int), byteFrom s n) := by
  intro d
  induction d with
  | zero =>
    intro i m x s n hn hd hm hs hb ht
    refine Ev.step (fun _ => laws_markByteS.l0.eq_2 ..) (ev_neg (by omega) (ev_of ?_))
    rw [List.take_of_length_le (by omega), List.take_of_length_le (by rw [byteFrom_length]; omega)] at ht
    rw [ht, show m = s + (n : Int) by omega]
  | succ d ih =>
    intro i m x s n hn hd hm hs hb ht
    refine Ev.step (fun _ => laws_markByteS.l0.eq_2 ..) (ev_pos (by omega) (ev_pos (by omega) ?_))
    rw [w64 (x := m + 1) (by omega) (by omega), w64 (x := (i : Int) + 1) (by omega) (by omega)]
    exact ih (i + 1) (m + 1) _ s n (by rw [List.length_set]; exact hn) (by omega) (by omega) hs hb (seq_set ht (by rw [byteFrom_length]; omega) (by rw [byteFrom_length]; omega) (by rw [byteFrom_get _ _ _ (by omega)]; omega))
theorem markByteS_ev (x : List Int) (s : Int) (hs : 0 ≤ s) (hb : s + (x.length : Int) ≤ 4611686018427387904) : Ev (fun k => laws_markByteS.f k x s) (s + (x.length : Int), byteFrom s x.length) := by
  unfold laws_markByteS.f
  exact markByteS_l0 x.length 0 s x s x.length rfl (by omega) (by omega) hs hb rfl
theorem markIntS_l0 : ∀ (d i : Nat) (m : Int) (x : List Int) (s : Int) (n : Nat), n = x.length → i + d = n → m = s + (i : Int) → 0 ≤ s → s + (n : Int) ≤ 4611686018427387904 → x.take i = (seqFrom s n).take i → Ev (fun k => laws_markIntS.l0 k x m (i : Int)) (s + (n : Int), seqFrom s n) := by
  intro d
  induction d with
  | zero =>
    intro i m x s n hn hd hm hs hb ht
    refine Ev.step (fun _ => laws_markIntS.l0.eq_2 ..) (ev_neg (by omega) (ev_of ?_))
    rw [List.take_of_length_le (by omega), List.take_of_length_le (by rw [seqFrom_length]; omega)] at ht
    rw [ht, show m = s + (n : Int) by omega]
  | succ d ih =>
    intro i m x s n hn hd hm hs hb ht
    refine Ev.step (fun _ => laws_markIntS.l0.eq_2 ..) (ev_pos (by omega) (ev_pos (by omega) ?_))
    rw [w64 (x := m + 1) (by omega) (by omega), w64 (x := (i : Int) + 1) (by omega) (by omega)]
    exact ih (i + 1) (m + 1) _ s n (by rw [List.length_set]; exact hn) (by omega) (by omega) hs hb (seq_set ht (by rw [seqFrom_length]; omega) (by rw [seqFrom_length]; omega) (by rw [seqFrom_get _ _ _ (by omega)]; omega))
theorem markIntS_ev (x : List Int) (s : Int) (hs : 0 ≤ s) (hb : s + (x.length : Int) ≤ 4611686018427387904) : Ev (fun k => laws_markIntS.f k x s) (s + (x.length : Int), seqFrom s x.length) := by
  unfold laws_markIntS.f
  exact markIntS_l0 x.length 0 s x s x.length rfl (by omega) (by omega) hs hb rfl
theorem heldIntS_l0 (s : Int) (n : Nat) (hs : 0 ≤ s) (hb : s + (n : Int) ≤ 4611686018427387904) : ∀ (d i : Nat) (m : Int), i + d = n → m = s + (i : Int) → Ev (fun k => laws_heldIntS.l0 k (seqFrom s n) m (i : Int)) (s + (n : Int)) := by
  intro d
  induction d with
  | zero =>
    intro i m hd hm
    refine Ev.step (fun _ => laws_heldIntS.l0.eq_2 ..) (ev_neg (by rw [seqFrom_length]; omega) (ev_of ?_))
    rw [show m = s + (n : Int) by omega]
  | succ d ih =>
    intro i m hd hm
    refine Ev.step (fun _ => laws_heldIntS.l0.eq_2 ..) (ev_pos (by rw [seqFrom_length]; omega) (ev_pos (by omega) (ev_pos ?_ ?_)))
    · rw [rd_at _ i (by rw [seqFrom_length]; omega), seqFrom_get _ _ _ (by omega)]
      omega
    · rw [w64 (x := m + 1) (by omega) (by omega), w64 (x := (i : Int) + 1) (by omega) (by omega)]
      exact ih (i + 1) (m + 1) (by omega) (by omega)
theorem heldIntS_ev (s : Int) (n : Nat) (hs : 0 ≤ s) (hb : s + (n : Int) ≤ 4611686018427387904) : Ev (fun k => laws_heldIntS.f k (seqFrom s n) s) (s + (n : Int)) := by
  unfold laws_heldIntS.f
  exact heldIntS_l0 s n hs hb n 0 s (by omega) (by omega)
theorem l1In_val (a b c : Int) : spec_l1In.f a b c = some (decide (b ≤ a ∧ a ≤ c)) := by
  unfold spec_l1In.f
  by_cases h : a ≥ b
  · rw [if_pos h]; simp [h]
  · rw [if_neg h]; simp [h]
theorem inRange_val (a b c : Int) : impl_InRange.f a b c = some (decide (b ≤ a ∧ a ≤ c)) := by
  unfold impl_InRange.f
  by_cases h : b ≤ a
  · rw [if_pos h]; simp [h]
  · rw [if_neg h]; simp [h]
theorem rd_byte (l : List Int) (hw : ∀ x ∈ l, (Lit.int .u8 x).wf = true) (i : Int) : 0 ≤ rd l i ∧ rd l i ≤ 255 := by
  unfold rd
  rw [List.getD_eq_getElem?_getD]
  cases h : l[i.toNat]? with
  | none => simp
  | some x => exact wf8 (hw x (List.mem_of_getElem? h))
theorem bits_or_comm (k : IntKind) (x y : Int) : Go.bits .or k x y = Go.bits .or k y x := by simp only [Go.bits, BitVec.or_comm]
theorem wraps_i64 (n : Int) (h0 : 0 ≤ n) (h1 : n < 2 ^ 63) : IntKind.i64.wrap n = n := by rw [IntKind.wrap_i64]; omega
theorem and127 (c : Int) (h0 : 0 ≤ c) (h1 : c ≤ 9223372036854775807) : Go.bits .and .i64 c 127 = c % 128 := Go.bits_mask .i64 63 (by decide) wraps_i64 7 (by decide) c h0 (by omega)
theorem at_val (a b : Int) : impl_at.f a b = some (decide (0 ≤ a ∧ a < b)) := by
  unfold impl_at.f
  by_cases h : a ≥ 0
  · rw [if_pos h]; simp [h]
  · rw [if_neg h]; simp [h]
def ruvLoop (l : List Int) (off : Int) : Nat → Nat → Int → Int × Int × Bool
  | 0, _, _ => (0, 0, false)
  | d + 1, i, n =>
    if off + (i : Int) ≥ (l.length : Int) then (0, 0, false)
    else if rd l (off + (i : Int)) < 128 then
      (if (0 < i ∧ rd l (off + (i : Int)) = 0) ∨ n + rd l (off + (i : Int)) % 128 * 2 ^ (7 * i) > 1000000000000 then (0, 0, false)
       else (n + rd l (off + (i : Int)) % 128 * 2 ^ (7 * i), off + (i : Int) + 1, true))
    else ruvLoop l off d (i + 1) (n + rd l (off + (i : Int)) % 128 * 2 ^ (7 * i))
def ruv (l : List Int) (off : Int) : Int × Int × Bool := if 0 ≤ off ∧ off < (l.length : Int) then ruvLoop l off 6 0 0 else (0, 0, false)
theorem ruv_out (l : List Int) (off : Int) (d i : Nat) (n : Int) (h1 : off + (i : Int) ≥ (l.length : Int)) : ruvLoop l off (d + 1) i n = (0, 0, false) := by
  rw [ruvLoop, if_pos h1]
theorem ruv_bad (l : List Int) (off : Int) (d i : Nat) (n : Int) (h1 : ¬ off + (i : Int) ≥ (l.length : Int)) (h2 : rd l (off + (i : Int)) < 128) (h3 : (0 < i ∧ rd l (off + (i : Int)) = 0) ∨ n + rd l (off + (i : Int)) % 128 * 2 ^ (7 * i) > 1000000000000) :
    ruvLoop l off (d + 1) i n = (0, 0, false) := by
  rw [ruvLoop, if_neg h1, if_pos h2, if_pos h3]
theorem ruv_ok (l : List Int) (off : Int) (d i : Nat) (n : Int) (h1 : ¬ off + (i : Int) ≥ (l.length : Int)) (h2 : rd l (off + (i : Int)) < 128) (h3 : ¬ ((0 < i ∧ rd l (off + (i : Int)) = 0) ∨ n + rd l (off + (i : Int)) % 128 * 2 ^ (7 * i) > 1000000000000)) :
    ruvLoop l off (d + 1) i n = (n + rd l (off + (i : Int)) % 128 * 2 ^ (7 * i), off + (i : Int) + 1, true) := by
  rw [ruvLoop, if_neg h1, if_pos h2, if_neg h3]
theorem ruv_go (l : List Int) (off : Int) (d i : Nat) (n : Int) (h1 : ¬ off + (i : Int) ≥ (l.length : Int)) (h2 : ¬ rd l (off + (i : Int)) < 128) :
    ruvLoop l off (d + 1) i n = ruvLoop l off d (i + 1) (n + rd l (off + (i : Int)) % 128 * 2 ^ (7 * i)) := by
  rw [ruvLoop, if_neg h1, if_neg h2]
theorem or_step (n c : Int) (i : Nat) (hi : i < 6) (hn0 : 0 ≤ n) (hn1 : n < 2 ^ (7 * i)) (hc0 : 0 ≤ c) (hc1 : c ≤ 255) :
    Go.bits .or .i64 n (shl .i64 (Go.bits .and .i64 (wrap64 c) 127) (wrap64 (7 * (i : Int)))) = n + c % 128 * 2 ^ (7 * i) ∧ n + c % 128 * 2 ^ (7 * i) < 2 ^ (7 * (i + 1)) := by
  have e1 : wrap64 c = c := w64 (by omega) (by omega)
  have e2 : wrap64 (7 * (i : Int)) = 7 * (i : Int) := w64 (by omega) (by omega)
  rw [e1, e2, and127 c hc0 (by omega)]
  have h : i = 0 ∨ i = 1 ∨ i = 2 ∨ i = 3 ∨ i = 4 ∨ i = 5 := by omega
  have key : ∀ (j : Nat) (P : Int), P = 2 ^ j → j ≤ 35 → n < P → shl .i64 (c % 128) (j : Int) = c % 128 * P → Go.bits .or .i64 n (shl .i64 (c % 128) (j : Int)) = n + c % 128 * P := by
    intro j P hP hj hnP hs
    rw [hs, bits_or_comm, Int.add_comm]
    subst hP
    have hle : (2 : Int) ^ j ≤ 2 ^ 35 := by exact_mod_cast Nat.pow_le_pow_right (by decide) hj
    have hpos : (0 : Int) < 2 ^ j := by exact_mod_cast Nat.two_pow_pos j
    have hm : c % 128 * 2 ^ j ≤ 127 * 2 ^ j := Int.mul_le_mul_of_nonneg_right (by omega) (by omega)
    exact Go.bits_join .i64 63 (by decide) wraps_i64 j _ n (Int.mul_nonneg (by omega) (by omega)) (Int.mul_emod_left _ _) (by omega) hn0 hnP (by omega)
  have hs : ∀ (j : Nat) (P : Int), P = 2 ^ j → j ≤ 35 → shl .i64 (c % 128) (j : Int) = c % 128 * P := by
    intro j P hP hj
    unfold shl
    rw [Int.toNat_natCast, show min j IntKind.i64.bits = j from Nat.min_eq_left (by simp [IntKind.bits]; omega)]
    subst hP
    have hle : (2 : Int) ^ j ≤ 2 ^ 35 := by exact_mod_cast Nat.pow_le_pow_right (by decide) hj
    have hpos : (0 : Int) < 2 ^ j := by exact_mod_cast Nat.two_pow_pos j
    have hm : c % 128 * 2 ^ j ≤ 127 * 2 ^ j := Int.mul_le_mul_of_nonneg_right (by omega) (by omega)
    exact wraps_i64 _ (Int.mul_nonneg (by omega) (by omega)) (by omega)
  have e3 : (7 * (i : Int)) = ((7 * i : Nat) : Int) := by omega
  rw [e3]
  refine ⟨key (7 * i) _ rfl (by omega) hn1 (hs (7 * i) _ rfl (by omega)), ?_⟩
  have e4 : (2 : Int) ^ (7 * (i + 1)) = 2 ^ (7 * i) * 128 := by rw [Nat.mul_add, Nat.mul_one, Int.pow_add]; rfl
  have hpos : (0 : Int) < 2 ^ (7 * i) := by exact_mod_cast Nat.two_pow_pos _
  have hm : c % 128 * 2 ^ (7 * i) ≤ 127 * 2 ^ (7 * i) := Int.mul_le_mul_of_nonneg_right (by omega) (by omega)
  rw [e4]
  omega
theorem impl_ReadUvarint_l0 (l : List Int) (hl : l.length ≤ 1099511627776) (hw : ∀ x ∈ l, (Lit.int .u8 x).wf = true) (off : Int) (ho : 0 ≤ off) (ho1 : off < (l.length : Int)) :
    ∀ (d i : Nat) (n : Int), i + d = 6 → 0 ≤ n → n < 2 ^ (7 * i) → Ev (fun k => impl_ReadUvarint.l0 k l off n (i : Int)) (ruvLoop l off d i n) := by
  intro d
  induction d with
  | zero =>
    intro i n hd hn0 hn1
    exact Ev.step (fun _ => impl_ReadUvarint.l0.eq_2 ..) (ev_neg (by omega) (Ev.now _))
  | succ d ih =>
    intro i n hd hn0 hn1
    have hb := rd_byte l hw (off + (i : Int))
    obtain ⟨e1, e2⟩ := or_step n (rd l (off + (i : Int))) i (by omega) hn0 hn1 hb.1 hb.2
    have hpos : (0 : Int) < 2 ^ (7 * i) := by exact_mod_cast Nat.two_pow_pos _
    have hnn : 0 ≤ rd l (off + (i : Int)) % 128 * 2 ^ (7 * i) := Int.mul_nonneg (by omega) (by omega)
    have ew : wrap64 (off + (i : Int)) = off + (i : Int) := w64 (by omega) (by omega)
    refine Ev.step (fun _ => impl_ReadUvarint.l0.eq_2 ..) (ev_pos (by omega) ?_)
    rw [ew, e1]
    by_cases h1 : off + (i : Int) ≥ (l.length : Int)
    · rw [ruv_out l off d i n h1]
      exact ev_pos h1 (Ev.now _)
    have e7 : wrap64 (7 * (i : Int)) = 7 * (i : Int) := w64 (by omega) (by omega)
    have c0 : 0 ≤ off + (i : Int) := by omega
    have c1 : off + (i : Int) < (l.length : Int) := by omega
    have c2 : 0 ≤ wrap64 (7 * (i : Int)) := by rw [e7]; omega
    have e8 : wrap64 (rd l (off + (i : Int))) = rd l (off + (i : Int)) := w64 (by omega) (by omega)
    have e9 : wrap64 (off + (i : Int) + 1) = off + (i : Int) + 1 := w64 (by omega) (by omega)
    refine ev_neg h1 (ev_pos c0 (ev_pos c1 (ev_pos c2 ?_)))
    rw [e8, e9]
    by_cases h2 : rd l (off + (i : Int)) < 128
    · refine ev_pos h2 ?_
      by_cases h3 : 0 < i
      · refine ev_pos (by omega) ?_
        by_cases h4 : rd l (off + (i : Int)) = 0
        · rw [ruv_bad l off d i n h1 h2 (.inl ⟨h3, h4⟩)]
          exact ev_pos h4 (Ev.now _)
        · refine ev_neg h4 ?_
          by_cases h5 : n + rd l (off + (i : Int)) % 128 * 2 ^ (7 * i) > 1000000000000
          · rw [ruv_bad l off d i n h1 h2 (.inr h5)]
            exact ev_pos h5 (Ev.now _)
          · rw [ruv_ok l off d i n h1 h2 (fun h => h.elim (fun h => h4 h.2) h5)]
            exact ev_neg h5 (Ev.now _)
      · refine ev_neg (by omega) ?_
        by_cases h5 : n + rd l (off + (i : Int)) % 128 * 2 ^ (7 * i) > 1000000000000
        · rw [ruv_bad l off d i n h1 h2 (.inr h5)]
          exact ev_pos h5 (Ev.now _)
        · rw [ruv_ok l off d i n h1 h2 (fun h => h.elim (fun h => h3 h.1) h5)]
          exact ev_neg h5 (Ev.now _)
    · rw [ruv_go l off d i n h1 h2]
      refine ev_neg h2 ?_
      rw [w64 (by omega) (by omega)]
      exact ih (i + 1) _ (by omega) (by omega) e2
theorem impl_ReadUvarint_ev (l : List Int) (hl : l.length ≤ 1099511627776) (hw : ∀ x ∈ l, (Lit.int .u8 x).wf = true) (off : Int) : Ev (fun k => impl_ReadUvarint.f k l off) (ruv l off) := by
  unfold impl_ReadUvarint.f ruv
  refine ev_bind0 (at_val _ _) ?_
  by_cases h : 0 ≤ off ∧ off < (l.length : Int)
  · rw [if_pos h]
    refine ev_pos (by simp [h]) ?_
    exact impl_ReadUvarint_l0 l hl hw off h.1 h.2 6 0 0 (by omega) (by omega) (by decide)
  · rw [if_neg h]
    exact ev_neg (by simp only [h, decide_false, Bool.false_eq_true, not_false_eq_true]) (Ev.now _)
theorem spec_ReadUvarint_l0 (l : List Int) (hl : l.length ≤ 1099511627776) (hw : ∀ x ∈ l, (Lit.int .u8 x).wf = true) (off : Int) (ho : 0 ≤ off) (ho1 : off < (l.length : Int)) :
    ∀ (d i : Nat) (n : Int), i + d = 6 → 0 ≤ n → n < 2 ^ (7 * i) → Ev (fun k => spec_ReadUvarint.l0 k l off n (i : Int)) (ruvLoop l off d i n) := by
  intro d
  induction d with
  | zero =>
    intro i n hd hn0 hn1
    exact Ev.step (fun _ => spec_ReadUvarint.l0.eq_2 ..) (ev_neg (by omega) (Ev.now _))
  | succ d ih =>
    intro i n hd hn0 hn1
    have hb := rd_byte l hw (off + (i : Int))
    obtain ⟨e1, e2⟩ := or_step n (rd l (off + (i : Int))) i (by omega) hn0 hn1 hb.1 hb.2
    have hpos : (0 : Int) < 2 ^ (7 * i) := by exact_mod_cast Nat.two_pow_pos _
    have hnn : 0 ≤ rd l (off + (i : Int)) % 128 * 2 ^ (7 * i) := Int.mul_nonneg (by omega) (by omega)
    have ew : wrap64 (off + (i : Int)) = off + (i : Int) := w64 (by omega) (by omega)
    have e6 : wrap64 ((l.length : Int) - (i : Int)) = (l.length : Int) - (i : Int) := w64 (by omega) (by omega)
    refine Ev.step (fun _ => spec_ReadUvarint.l0.eq_2 ..) (ev_pos (by omega) (ev_neg (by omega) ?_))
    refine Ev.step (fun _ => spec_ReadUvarint.j1.eq_2 ..) ?_
    rw [ew, e1, e6]
    by_cases h1 : off + (i : Int) ≥ (l.length : Int)
    · rw [ruv_out l off d i n h1]
      exact ev_pos (decide_eq_true (by omega)) (Ev.now _)
    have e7 : wrap64 (7 * (i : Int)) = 7 * (i : Int) := w64 (by omega) (by omega)
    have c0 : 0 ≤ off + (i : Int) := by omega
    have c1 : off + (i : Int) < (l.length : Int) := by omega
    have c2 : 0 ≤ wrap64 (7 * (i : Int)) := by rw [e7]; omega
    have e8 : wrap64 (rd l (off + (i : Int))) = rd l (off + (i : Int)) := w64 (by omega) (by omega)
    have e9 : wrap64 (off + (i : Int) + 1) = off + (i : Int) + 1 := w64 (by omega) (by omega)
    have h1' : ¬ (off ≥ (l.length : Int) - (i : Int)) := fun h => h1 (by omega)
    refine ev_neg (by simp only [decide_eq_true_eq]; exact h1') (ev_pos c0 (ev_pos c1 (ev_pos c2 ?_)))
    rw [e8, e9]
    by_cases h2 : rd l (off + (i : Int)) < 128
    · refine ev_pos h2 ?_
      by_cases h4 : rd l (off + (i : Int)) = 0
      · refine ev_pos h4 ?_
        by_cases h3 : 0 < i
        · rw [ruv_bad l off d i n h1 h2 (.inl ⟨h3, h4⟩)]
          exact ev_pos (by omega) (Ev.now _)
        · refine ev_neg (by omega) ?_
          by_cases h5 : n + rd l (off + (i : Int)) % 128 * 2 ^ (7 * i) > 1000000000000
          · rw [ruv_bad l off d i n h1 h2 (.inr h5)]
            exact ev_pos h5 (Ev.now _)
          · rw [ruv_ok l off d i n h1 h2 (fun h => h.elim (fun h => h3 h.1) h5)]
            exact ev_neg h5 (Ev.now _)
      · refine ev_neg h4 ?_
        by_cases h5 : n + rd l (off + (i : Int)) % 128 * 2 ^ (7 * i) > 1000000000000
        · rw [ruv_bad l off d i n h1 h2 (.inr h5)]
          exact ev_pos h5 (Ev.now _)
        · rw [ruv_ok l off d i n h1 h2 (fun h => h.elim (fun h => h4 h.2) h5)]
          exact ev_neg h5 (Ev.now _)
    · rw [ruv_go l off d i n h1 h2]
      refine ev_neg h2 ?_
      rw [w64 (by omega) (by omega)]
      exact ih (i + 1) _ (by omega) (by omega) e2
theorem spec_ReadUvarint_ev (l : List Int) (hl : l.length ≤ 1099511627776) (hw : ∀ x ∈ l, (Lit.int .u8 x).wf = true) (off : Int) : Ev (fun k => spec_ReadUvarint.f k l off) (ruv l off) := by
  unfold spec_ReadUvarint.f ruv
  by_cases h : 0 ≤ off ∧ off < (l.length : Int)
  · rw [if_pos h]
    exact spec_ReadUvarint_l0 l hl hw off h.1 h.2 6 0 0 (by omega) (by omega) (by decide)
  · rw [if_neg h]
    refine Ev.step (fun _ => spec_ReadUvarint.l0.eq_2 ..) (ev_pos (by omega) ?_)
    by_cases h0 : off < 0
    · exact ev_pos h0 (Ev.step (fun _ => spec_ReadUvarint.j1.eq_2 ..) (ev_pos rfl (Ev.now _)))
    · refine ev_neg h0 (Ev.step (fun _ => spec_ReadUvarint.j1.eq_2 ..) (ev_pos ?_ (Ev.now _)))
      rw [w64 (by omega) (by omega)]
      exact decide_eq_true (by omega)
def decLoop (l : List Int) : Nat → Int → List Int → List Int × Int × Bool
  | 0, off, out => (out, off, true)
  | d + 1, off, out => if (ruv l off).2.2 = true then decLoop l d (ruv l off).2.1 (out ++ [(ruv l off).1]) else ([], 0, false)
def decInts (l : List Int) (off n : Int) : List Int × Int × Bool := if (0 ≤ n ∧ n ≤ 100) ∧ 0 ≤ off ∧ off ≤ (l.length : Int) then decLoop l n.toNat off [] else ([], 0, false)
theorem decLoop_len (l : List Int) : ∀ (d : Nat) (off : Int) (out : List Int), (decLoop l d off out).1.length ≤ out.length + d
  | 0, off, out => by simp [decLoop]
  | d + 1, off, out => by
    unfold decLoop
    split
    · have := decLoop_len l d (ruv l off).2.1 (out ++ [(ruv l off).1])
      rw [List.length_append, List.length_singleton] at this
      omega
    · simp
theorem decInts_len (l : List Int) (off n : Int) : (decInts l off n).1.length ≤ 100 := by
  unfold decInts
  split
  · have := decLoop_len l n.toNat off []
    rw [List.length_nil] at this
    omega
  · simp
theorem decLoop_yes (l : List Int) (d : Nat) (off : Int) (out : List Int) (h : (ruv l off).2.2 = true) : decLoop l (d + 1) off out = decLoop l d (ruv l off).2.1 (out ++ [(ruv l off).1]) := by rw [decLoop, if_pos h]
theorem decLoop_no (l : List Int) (d : Nat) (off : Int) (out : List Int) (h : ¬ (ruv l off).2.2 = true) : decLoop l (d + 1) off out = ([], 0, false) := by rw [decLoop, if_neg h]
theorem decInts_yes (l : List Int) (off n : Int) (h : (0 ≤ n ∧ n ≤ 100) ∧ 0 ≤ off ∧ off ≤ (l.length : Int)) : decInts l off n = decLoop l n.toNat off [] := by unfold decInts; rw [if_pos h]
theorem decInts_no (l : List Int) (off n : Int) (h : ¬ ((0 ≤ n ∧ n ≤ 100) ∧ 0 ≤ off ∧ off ≤ (l.length : Int))) : decInts l off n = ([], 0, false) := by unfold decInts; rw [if_neg h]
theorem spec_DecodeInts_l0 (l : List Int) (hl : l.length ≤ 1099511627776) (hw : ∀ x ∈ l, (Lit.int .u8 x).wf = true) (n : Nat) (hn : n ≤ 100) : ∀ (d i : Nat) (off : Int) (out : List Int), i + d = n → out.length = i → Ev (fun k => spec_DecodeInts.l0 k l off (n : Int) out (i : Int)) (decLoop l d off out) := by
  intro d
  induction d with
  | zero =>
    intro i off out hd ho
    exact Ev.step (fun _ => spec_DecodeInts.l0.eq_2 ..) (ev_neg (by omega) (Ev.now _))
  | succ d ih =>
    intro i off out hd ho
    refine Ev.step (fun _ => spec_DecodeInts.l0.eq_2 ..) (ev_pos (by omega) (Ev.bind (spec_ReadUvarint_ev l hl hw off) ?_))
    by_cases h : (ruv l off).2.2 = true
    · rw [decLoop_yes l d off out h]
      refine ev_pos h (ev_pos (by omega) ?_)
      rw [w64 (x := (i : Int) + 1) (by omega) (by omega)]
      exact ih (i + 1) _ _ (by omega) (by rw [List.length_append, List.length_singleton]; omega)
    · rw [decLoop_no l d off out h]
      exact ev_neg h (Ev.now _)
theorem spec_DecodeInts_ev (l : List Int) (hl : l.length ≤ 1099511627776) (hw : ∀ x ∈ l, (Lit.int .u8 x).wf = true) (off n : Int) : Ev (fun k => spec_DecodeInts.f k l off n) (decInts l off n) := by
  unfold spec_DecodeInts.f
  refine ev_bind0 rfl (ev_bind0 (l1In_val _ _ _) ?_)
  by_cases h : 0 ≤ n ∧ n ≤ 100
  · refine ev_pos (decide_eq_true h) (ev_bind0 (l1In_val _ _ _) (Ev.step (fun _ => spec_DecodeInts.j0.eq_2 ..) ?_))
    by_cases h2 : 0 ≤ off ∧ off ≤ (l.length : Int)
    · rw [decInts_yes l off n ⟨h, h2⟩]
      refine ev_neg (by rw [decide_eq_true h2]; decide) ?_
      have e := spec_DecodeInts_l0 l hl hw n.toNat (by omega) n.toNat 0 off [] (by omega) rfl
      rw [Int.toNat_of_nonneg h.1] at e
      exact e
    · rw [decInts_no l off n (fun hh => h2 hh.2)]
      exact ev_pos (by rw [decide_eq_false h2]; rfl) (Ev.now _)
  · rw [decInts_no l off n (fun hh => h hh.1)]
    exact ev_neg (by simp only [decide_eq_true_eq]; exact h) (Ev.step (fun _ => spec_DecodeInts.j0.eq_2 ..) (ev_pos rfl (Ev.now _)))
theorem impl_DecodeInts_l0 (l : List Int) (hl : l.length ≤ 1099511627776) (hw : ∀ x ∈ l, (Lit.int .u8 x).wf = true) (n : Nat) (hn : n ≤ 100) : ∀ (d i : Nat) (off : Int) (out : List Int), i + d = n → out.length = i → Ev (fun k => impl_DecodeInts.l0 k l off out (n : Int) (i : Int)) (decLoop l d off out) := by
  intro d
  induction d with
  | zero =>
    intro i off out hd ho
    exact Ev.step (fun _ => impl_DecodeInts.l0.eq_2 ..) (ev_neg (by omega) (Ev.now _))
  | succ d ih =>
    intro i off out hd ho
    refine Ev.step (fun _ => impl_DecodeInts.l0.eq_2 ..) (ev_pos (by omega) (Ev.bind (impl_ReadUvarint_ev l hl hw off) ?_))
    by_cases h : (ruv l off).2.2 = true
    · rw [decLoop_yes l d off out h]
      refine ev_pos h (ev_pos (by omega) ?_)
      rw [w64 (x := (i : Int) + 1) (by omega) (by omega)]
      exact ih (i + 1) _ _ (by omega) (by rw [List.length_append, List.length_singleton]; omega)
    · rw [decLoop_no l d off out h]
      exact ev_neg h (Ev.now _)
theorem impl_DecodeInts_ev (l : List Int) (hl : l.length ≤ 1099511627776) (hw : ∀ x ∈ l, (Lit.int .u8 x).wf = true) (off n : Int) : Ev (fun k => impl_DecodeInts.f k l off n) (decInts l off n) := by
  unfold impl_DecodeInts.f
  refine ev_bind0 (inRange_val _ _ _) ?_
  by_cases h : 0 ≤ n ∧ n ≤ 100
  · refine ev_pos (decide_eq_true h) (ev_bind0 (inRange_val _ _ _) (Ev.step (fun _ => impl_DecodeInts.j0.eq_2 ..) ?_))
    by_cases h2 : 0 ≤ off ∧ off ≤ (l.length : Int)
    · rw [decInts_yes l off n ⟨h, h2⟩]
      refine ev_neg (by rw [decide_eq_true h2]; decide) ?_
      have e := impl_DecodeInts_l0 l hl hw n.toNat (by omega) n.toNat 0 off [] (by omega) rfl
      rw [Int.toNat_of_nonneg h.1] at e
      exact e
    · rw [decInts_no l off n (fun hh => h2 hh.2)]
      exact ev_pos (by rw [decide_eq_false h2]; rfl) (Ev.now _)
  · rw [decInts_no l off n (fun hh => h hh.1)]
    exact ev_neg (by simp only [decide_eq_true_eq]; exact h) (Ev.step (fun _ => impl_DecodeInts.j0.eq_2 ..) (ev_pos rfl (Ev.now _)))
theorem FnExactDecodeInts : laws_FnExactDecodeInts.Pure := by
  intro l off n hl hs hw _ _
  refine Ev.rounds (g := fun k => laws_FnExactDecodeInts.f k l off n) ?_
  unfold laws_FnExactDecodeInts.f
  by_cases hb : (l.length : Int) > 1048576
  · exact ev_pos hb (Ev.now true)
  refine ev_neg hb ?_
  have ha := decInts_len l off n
  have hs := spec_DecodeInts_ev l (by omega) hw off n
  have hi := impl_DecodeInts_ev l (by omega) hw off n
  refine Ev.bind (toByteS_ev l (by omega)) (Ev.bind hs ?_)
  refine Ev.bind (toByteS_ev l (by omega)) (Ev.bind hi ?_)
  refine Ev.bind (eqIntS_same _ (by omega)) (ev_pos rfl (ev_pos rfl ?_))
  refine Ev.step (fun _ => laws_FnExactDecodeInts.j0.eq_2 ..) (ev_neg (by simp) ?_)
  refine Ev.bind (toByteS_ev l (by omega)) ?_
  refine Ev.bind (eqByteS_same l (by omega)) (ev_pos rfl ?_)
  refine Ev.bind (markByteS_ev l 1 (by omega) (by omega)) (ev_neg (by simp only; omega) ?_)
  refine Ev.bind (eqIntS_same _ (by omega)) (ev_pos rfl (ev_pos rfl ?_))
  refine Ev.step (fun _ => laws_FnExactDecodeInts.j1.eq_2 ..) (ev_neg (by simp) ?_)
  refine Ev.bind (markIntS_ev _ 1 (by omega) (by omega)) ?_
  refine Ev.bind (heldIntS_ev 1 _ (by omega) (by omega)) (ev_neg (by omega) (ev_pos rfl ?_))
  refine Ev.bind (toByteS_ev l (by omega)) (Ev.bind hi ?_)
  refine Ev.bind (eqIntS_same _ (by omega)) (ev_pos rfl (ev_pos rfl ?_))
  refine Ev.step (fun _ => laws_FnExactDecodeInts.j2.eq_2 ..) (ev_neg (by simp) ?_)
  exact Ev.bind (heldIntS_ev 1 _ (by omega) (by omega)) (ev_neg (by omega) (ev_pos rfl (Ev.now true)))

end Go.Proofs.Ytgcidlnhgpjdpac.Pure

namespace Go.Proofs.Ytgcidlnhgpjdpac.PrintWords
open Go.ChangeShapes Go.WideShapes
theorem sized_ints {H : Type} {enc : TypeId × Value → H} {P : Program} {W : World} {base : Nat} {spare : Nat → Bool} {held : Bool} {t e : TypeId} {k : IntKind} {a : Option Addr} {len cap : Nat} {d : DataW H} {ps : List MemPlace} {ts : List TypeId} {ds : List (DataW H)} {j : Nat}
    (hsz : (DataW.weightsEach P ts ds).all (· ≤ reachBytes) = true) (ht : ts[j]? = some t) (hd : ds[j]? = some d) (hu : P.underlying t = some (.slice e)) (he : P.underlying e = some (.int k)) (hc : P.cellsOf e = 1) {B : Nat} (hB : P.bytesOf e = B)
    (h : DataW.Trod enc P W base spare held t (.slice a len cap) d ps) : len * B ≤ 140737488351232 :=
  Go.Proofs.YtgcidlnhgpjdpacW.PrintWords.sized_ints hsz ht hd hu he hc hB h
end Go.Proofs.Ytgcidlnhgpjdpac.PrintWords
