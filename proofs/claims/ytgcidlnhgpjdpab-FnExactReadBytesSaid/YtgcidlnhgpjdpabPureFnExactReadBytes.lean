/- The pure statement behind the law FnExactReadBytes: over numbers and lists the law answers true, at every input that the row's bounds let in. -/
import Derived.Test.YtgcidlnhgpjdpabQFnExactReadBytesx3
import Derived.Test.YtgcidlnhgpjdpabQFnExactReadBytesg
namespace Go.Proofs.Ytgcidlnhgpjdpab.Pure
open Go Go.RowKit Go.Proofs.Ytgcidlnhgpjdpab.QFnExactReadBytes Go.Proofs.YtgcidlnhgpjdpabW.PrintWords Go.Proofs.YtgcidlnhgpjdpabW.PrintLast Go.Proofs.YtgcidlnhgpjdpabW.PrintMore
set_option linter.unusedVariables false
set_option linter.unusedSimpArgs false
set_option maxRecDepth 100000

theorem w64 {x : Int} (h0 : -9223372036854775808 ≤ x) (h1 : x ≤ 9223372036854775807) : wrap64 x = x := by unfold wrap64; omega
theorem wf64 {x : Int} (h : (Lit.int .i64 x).wf = true) : -9223372036854775808 ≤ x ∧ x ≤ 9223372036854775807 := by
  simp [Lit.wf, IntKind.min, IntKind.max, IntKind.signed, IntKind.bits] at h
  omega
theorem wf8 {x : Int} (h : (Lit.int .u8 x).wf = true) : 0 ≤ x ∧ x ≤ 255 := by
  simp [Lit.wf, IntKind.min, IntKind.max, IntKind.signed, IntKind.bits] at h
  omega
theorem ev_pos {α : Type} {c : Prop} [Decidable c] {g f : Nat → Option α} {r : α} (h : c) (k : Ev g r) : Ev (fun n => if c then g n else f n) r := by
  obtain ⟨K, hK⟩ := k
  exact ⟨K, fun n hn => (if_pos h).trans (hK n hn)⟩
theorem ev_neg {α : Type} {c : Prop} [Decidable c] {g f : Nat → Option α} {r : α} (h : ¬ c) (k : Ev f r) : Ev (fun n => if c then g n else f n) r := by
  obtain ⟨K, hK⟩ := k
  exact ⟨K, fun n hn => (if_neg h).trans (hK n hn)⟩
theorem ev_bind0 {α β : Type} {o : Option α} {f : Nat → α → Option β} {a : α} {r : β} (h : o = some a) (k : Ev (fun n => f n a) r) : Ev (fun n => o.bind (f n)) r := by
  subst h
  exact k
theorem ev_of {α : Type} {o : Option α} {r : α} (h : o = some r) : Ev (fun _ => o) r := ⟨0, fun _ _ => h⟩
theorem rd_at (xs : List Int) (i : Nat) (h : i < xs.length) : rd xs (i : Int) = xs[i] := by
  unfold rd
  rw [Int.toNat_natCast, List.getD_eq_getElem?_getD, List.getElem?_eq_getElem h]
  rfl
theorem set_take {out xs : List Int} {i : Nat} (h : out.take i = xs.take i) (hl : out.length = xs.length) (hi : i < xs.length) : (out.set ((i : Int)).toNat (rd xs i)).take (i + 1) = xs.take (i + 1) := by
  rw [rd_at xs i hi, Int.toNat_natCast, List.take_succ_eq_append_getElem hi, List.take_succ_eq_append_getElem (by rw [List.length_set]; omega)]
  rw [List.take_set_of_le (Nat.le_refl _), h]
  simp
def seqFrom (m : Int) (n : Nat) : List Int := (List.range n).map fun (j : Nat) => m + (j : Int)
theorem seqFrom_length (m : Int) (n : Nat) : (seqFrom m n).length = n := by simp [seqFrom]
theorem seqFrom_get (m : Int) (n i : Nat) (h : i < n) : (seqFrom m n)[i]'(by rw [seqFrom_length]; exact h) = m + (i : Int) := by simp [seqFrom]
theorem seq_set {x ys : List Int} {i : Nat} (h : x.take i = ys.take i) (hl : x.length = ys.length) (hi : i < ys.length) {v : Int} (hv : ys[i] = v) : (x.set ((i : Int)).toNat v).take (i + 1) = ys.take (i + 1) := by
  subst hv
  rw [Int.toNat_natCast, List.take_succ_eq_append_getElem hi, List.take_succ_eq_append_getElem (by rw [List.length_set]; omega)]
  rw [List.take_set_of_le (Nat.le_refl _), h]
  simp
theorem toByteS_l0 (xs : List Int) (hn : xs.length ≤ 281474976710656) : ∀ (d i : Nat) (out : List Int), i + d = xs.length → out.length = xs.length → out.take i = xs.take i → Ev (fun k => laws_toByteS.l0 k xs out (i : Int)) xs := by
  intro d
  induction d with
  | zero =>
    intro i out hd hl ht
    refine Ev.step (fun _ => laws_toByteS.l0.eq_2 ..) (ev_neg (by omega) (ev_of ?_))
    rw [List.take_of_length_le (by omega), List.take_of_length_le (by omega)] at ht
    rw [ht]
  | succ d ih =>
    intro i out hd hl ht
    refine Ev.step (fun _ => laws_toByteS.l0.eq_2 ..) (ev_pos (by omega) (ev_pos (by omega) (ev_pos (by omega) ?_)))
    rw [w64 (by omega) (by omega)]
    exact ih (i + 1) _ (by omega) (by rw [List.length_set]; exact hl) (set_take ht hl (by omega))
theorem toByteS_ev (xs : List Int) (hn : xs.length ≤ 281474976710656) : Ev (fun k => laws_toByteS.f k xs) xs := by
  unfold laws_toByteS.f
  refine ev_pos (by omega) (ev_pos (by omega) ?_)
  exact toByteS_l0 xs hn xs.length 0 _ (by omega) (by simp) (by simp)
theorem eqByteS_l0 (xs : List Int) (hn : xs.length ≤ 9223372036854775807) : ∀ (d i : Nat), i + d = xs.length → Ev (fun k => laws_eqByteS.l0 k xs xs (i : Int)) true := by
  intro d
  induction d with
  | zero =>
    intro i hd
    exact Ev.step (fun _ => laws_eqByteS.l0.eq_2 ..) (ev_neg (by omega) (Ev.now true))
  | succ d ih =>
    intro i hd
    refine Ev.step (fun _ => laws_eqByteS.l0.eq_2 ..) (ev_pos (by omega) (ev_pos (by omega) (ev_pos (by omega) (ev_pos rfl ?_))))
    rw [w64 (by omega) (by omega)]
    exact ih (i + 1) (by omega)
theorem eqByteS_same (xs : List Int) (hn : xs.length ≤ 9223372036854775807) : Ev (fun k => laws_eqByteS.f k xs xs) true := by
  unfold laws_eqByteS.f
  exact ev_pos rfl (eqByteS_l0 xs hn xs.length 0 (by omega))
def byteFrom (m : Int) (n : Nat) : List Int := (List.range n).map fun (j : Nat) => (m + (j : Int)) % 256
theorem byteFrom_length (m : Int) (n : Nat) : (byteFrom m n).length = n := by simp [byteFrom]
theorem byteFrom_get (m : Int) (n i : Nat) (h : i < n) : (byteFrom m n)[i]'(by rw [byteFrom_length]; exact h) = (m + (i : Int)) % 256 := by simp [byteFrom]
theorem markByteS_l0 : ∀ (d i : Nat) (m : Int) (x : List Int) (s : Int) (n : Nat), n = x.length → i + d = n → m = s + (i : Int) → 0 ≤ s → s + (n : Int) ≤ 4611686018427387904 → x.take i = (byteFrom s n).take i → Ev (fun k => laws_markByteS.l0 k x m (i : Int)) (s + (n : Int), byteFrom s n) := by
  intro d
  induction d with
  | zero =>
    intro i m x s n hn hd hm hs hb ht
    refine Ev.step (fun _ => laws_markByteS.l0.eq_2 ..) (ev_neg (by omega) (ev_of ?_))
    rw [List.take_of_length_le (by omega), List.take_of_length_le (by rw [byteFrom_length]; omega)] at ht
    rw [ht, show m = s + (n : Int) by omega]
  | succ d ih =>
    intro i m x s n hn hd hm hs hb ht
    refine Ev.step (fun _ => laws_markByteS.l0.eq_2 ..) (ev_pos (by omega) (ev_pos (by omega) ?_))
    rw [w64 (x := m + 1) (by omega) (by omega), w64 (x := (i : Int) + 1) (by omega) (by omega)]
    exact ih (i + 1) (m + 1) _ s n (by rw [List.length_set]; exact hn) (by omega) (by omega) hs hb (seq_set ht (by rw [byteFrom_length]; omega) (by rw [byteFrom_length]; omega) (by rw [byteFrom_get _ _ _ (by omega)]; omega))
theorem markByteS_ev (x : List Int) (s : Int) (hs : 0 ≤ s) (hb : s + (x.length : Int) ≤ 4611686018427387904) : Ev (fun k => laws_markByteS.f k x s) (s + (x.length : Int), byteFrom s x.length) := by
  unfold laws_markByteS.f
  exact markByteS_l0 x.length 0 s x s x.length rfl (by omega) (by omega) hs hb rfl
theorem heldByteS_l0 (s : Int) (n : Nat) (hs : 0 ≤ s) (hb : s + (n : Int) ≤ 4611686018427387904) : ∀ (d i : Nat) (m : Int), i + d = n → m = s + (i : Int) → Ev (fun k => laws_heldByteS.l0 k (byteFrom s n) m (i : Int)) (s + (n : Int)) := by
  intro d
  induction d with
  | zero =>
    intro i m hd hm
    refine Ev.step (fun _ => laws_heldByteS.l0.eq_2 ..) (ev_neg (by rw [byteFrom_length]; omega) (ev_of ?_))
    rw [show m = s + (n : Int) by omega]
  | succ d ih =>
    intro i m hd hm
    refine Ev.step (fun _ => laws_heldByteS.l0.eq_2 ..) (ev_pos (by rw [byteFrom_length]; omega) (ev_pos (by omega) (ev_pos ?_ ?_)))
    · rw [rd_at _ i (by rw [byteFrom_length]; omega), byteFrom_get _ _ _ (by omega)]
      omega
    · rw [w64 (x := m + 1) (by omega) (by omega), w64 (x := (i : Int) + 1) (by omega) (by omega)]
      exact ih (i + 1) (m + 1) (by omega) (by omega)
theorem heldByteS_ev (s : Int) (n : Nat) (hs : 0 ≤ s) (hb : s + (n : Int) ≤ 4611686018427387904) : Ev (fun k => laws_heldByteS.f k (byteFrom s n) s) (s + (n : Int)) := by
  unfold laws_heldByteS.f
  exact heldByteS_l0 s n hs hb n 0 s (by omega) (by omega)
theorem rd_byte (l : List Int) (hw : ∀ x ∈ l, (Lit.int .u8 x).wf = true) (i : Int) : 0 ≤ rd l i ∧ rd l i ≤ 255 := by
  unfold rd
  rw [List.getD_eq_getElem?_getD]
  cases h : l[i.toNat]? with
  | none => simp
  | some x => exact wf8 (hw x (List.mem_of_getElem? h))
theorem bits_or_comm (k : IntKind) (x y : Int) : Go.bits .or k x y = Go.bits .or k y x := by simp only [Go.bits, BitVec.or_comm]
theorem wraps_i64 (n : Int) (h0 : 0 ≤ n) (h1 : n < 2 ^ 63) : IntKind.i64.wrap n = n := by rw [IntKind.wrap_i64]; omega
theorem and127 (c : Int) (h0 : 0 ≤ c) (h1 : c ≤ 9223372036854775807) : Go.bits .and .i64 c 127 = c % 128 := Go.bits_mask .i64 63 (by decide) wraps_i64 7 (by decide) c h0 (by omega)
theorem at_val (a b : Int) : impl_at.f a b = some (decide (0 ≤ a ∧ a < b)) := by
  unfold impl_at.f
  by_cases h : a ≥ 0
  · rw [if_pos h]; simp [h]
  · rw [if_neg h]; simp [h]
def ruvLoop (l : List Int) (off : Int) : Nat → Nat → Int → Int × Int × Bool
  | 0, _, _ => (0, 0, false)
  | d + 1, i, n =>
    if off + (i : Int) ≥ (l.length : Int) then (0, 0, false)
    else if rd l (off + (i : Int)) < 128 then
      (if (0 < i ∧ rd l (off + (i : Int)) = 0) ∨ n + rd l (off + (i : Int)) % 128 * 2 ^ (7 * i) > 1000000000000 then (0, 0, false)
       else (n + rd l (off + (i : Int)) % 128 * 2 ^ (7 * i), off + (i : Int) + 1, true))
    else ruvLoop l off d (i + 1) (n + rd l (off + (i : Int)) % 128 * 2 ^ (7 * i))
def ruv (l : List Int) (off : Int) : Int × Int × Bool := if 0 ≤ off ∧ off < (l.length : Int) then ruvLoop l off 6 0 0 else (0, 0, false)
theorem ruv_out (l : List Int) (off : Int) (d i : Nat) (n : Int) (h1 : off + (i : Int) ≥ (l.length : Int)) : ruvLoop l off (d + 1) i n = (0, 0, false) := by
  rw [ruvLoop, if_pos h1]
theorem ruv_bad (l : List Int) (off : Int) (d i : Nat) (n : Int) (h1 : ¬ off + (i : Int) ≥ (l.length : Int)) (h2 : rd l (off + (i : Int)) < 128) (h3 : (0 < i ∧ rd l (off + (i : Int)) = 0) ∨ n + rd l (off + (i : Int)) % 128 * 2 ^ (7 * i) > 1000000000000) :
    ruvLoop l off (d + 1) i n = (0, 0, false) := by
  rw [ruvLoop, if_neg h1, if_pos h2, if_pos h3]
theorem ruv_ok (l : List Int) (off : Int) (d i : Nat) (n : Int) (h1 : ¬ off + (i : Int) ≥ (l.length : Int)) (h2 : rd l (off + (i : Int)) < 128) (h3 : ¬ ((0 < i ∧ rd l (off + (i : Int)) = 0) ∨ n + rd l (off + (i : Int)) % 128 * 2 ^ (7 * i) > 1000000000000)) :
    ruvLoop l off (d + 1) i n = (n + rd l (off + (i : Int)) % 128 * 2 ^ (7 * i), off + (i : Int) + 1, true) := by
  rw [ruvLoop, if_neg h1, if_pos h2, if_neg h3]
theorem ruv_go (l : List Int) (off : Int) (d i : Nat) (n : Int) (h1 : ¬ off + (i : Int) ≥ (l.length : Int)) (h2 : ¬ rd l (off + (i : Int)) < 128) :
    ruvLoop l off (d + 1) i n = ruvLoop l off d (i + 1) (n + rd l (off + (i : Int)) % 128 * 2 ^ (7 * i)) := by
  rw [ruvLoop, if_neg h1, if_neg h2]
theorem or_step (n c : Int) (i : Nat) (hi : i < 6) (hn0 : 0 ≤ n) (hn1 : n < 2 ^ (7 * i)) (hc0 : 0 ≤ c) (hc1 : c ≤ 255) :
    Go.bits .or .i64 n (shl .i64 (Go.bits .and .i64 (wrap64 c) 127) (wrap64 (7 * (i : Int)))) = n + c % 128 * 2 ^ (7 * i) ∧ n + c % 128 * 2 ^ (7 * i) < 2 ^ (7 * (i + 1)) := by
  have e1 : wrap64 c = c := w64 (by omega) (by omega)
  have e2 : wrap64 (7 * (i : Int)) = 7 * (i : Int) := w64 (by omega) (by omega)
  rw [e1, e2, and127 c hc0 (by omega)]
  have h : i = 0 ∨ i = 1 ∨ i = 2 ∨ i = 3 ∨ i = 4 ∨ i = 5 := by omega
  have key : ∀ (j : Nat) (P : Int), P = 2 ^ j → j ≤ 35 → n < P → shl .i64 (c % 128) (j : Int) = c % 128 * P → Go.bits .or .i64 n (shl .i64 (c % 128) (j : Int)) = n + c % 128 * P := by
    intro j P hP hj hnP hs
    rw [hs, bits_or_comm, Int.add_comm]
    subst hP
    have hle : (2 : Int) ^ j ≤ 2 ^ 35 := by exact_mod_cast Nat.pow_le_pow_right (by decide) hj
    have hpos : (0 : Int) < 2 ^ j := by exact_mod_cast Nat.two_pow_pos j
    have hm : c % 128 * 2 ^ j ≤ 127 * 2 ^ j := Int.mul_le_mul_of_nonneg_right (by omega) (by omega)
    exact Go.bits_join .i64 63 (by decide) wraps_i64 j _ n (Int.mul_nonneg (by omega) (by omega)) (Int.mul_emod_left _ _) (by omega) hn0 hnP (by omega)
  have hs : ∀ (j : Nat) (P : Int), P = 2 ^ j → j ≤ 35 → shl .i64 (c % 128) (j : Int) = c % 128 * P := by
    intro j P hP hj
    unfold shl
    rw [Int.toNat_natCast, show min j IntKind.i64.bits = j from Nat.min_eq_left (by simp [IntKind.bits]; omega)]
    subst hP
    have hle : (2 : Int) ^ j ≤ 2 ^ 35 := by exact_mod_cast Nat.pow_le_pow_right (by decide) hj
    have hpos : (0 : Int) < 2 ^ j := by exact_mod_cast Nat.two_pow_pos j
    have hm : c % 128 * 2 ^ j ≤ 127 * 2 ^ j := Int.mul_le_mul_of_nonneg_right (by omega) (by omega)
    exact wraps_i64 _ (Int.mul_nonneg (by omega) (by omega)) (by omega)
  have e3 : (7 * (i : Int)) = ((7 * i : Nat) : Int) := by omega
  rw [e3]
  refine ⟨key (7 * i) _ rfl (by omega) hn1 (hs (7 * i) _ rfl (by omega)), ?_⟩
  have e4 : (2 : Int) ^ (7 * (i + 1)) = 2 ^ (7 * i) * 128 := by rw [Nat.mul_add, Nat.mul_one, Int.pow_add]; rfl
  have hpos : (0 : Int) < 2 ^ (7 * i) := by exact_mod_cast Nat.two_pow_pos _
  have hm : c % 128 * 2 ^ (7 * i) ≤ 127 * 2 ^ (7 * i) := Int.mul_le_mul_of_nonneg_right (by omega) (by omega)
  rw [e4]
  omega
theorem impl_ReadUvarint_l0 (l : List Int) (hl : l.length ≤ 1099511627776) (hw : ∀ x ∈ l, (Lit.int .u8 x).wf = true) (off : Int) (ho : 0 ≤ off) (ho1 : off < (l.length : Int)) :
    ∀ (d i : Nat) (n : Int), i + d = 6 → 0 ≤ n → n < 2 ^ (7 * i) → Ev (fun k => impl_ReadUvarint.l0 k l off n (i : Int)) (ruvLoop l off d i n) := by
  intro d
  induction d with
  | zero =>
    intro i n hd hn0 hn1
    exact Ev.step (fun _ => impl_ReadUvarint.l0.eq_2 ..) (ev_neg (by omega) (Ev.now _))
  | succ d ih =>
    intro i n hd hn0 hn1
    have hb := rd_byte l hw (off + (i : Int))
    obtain ⟨e1, e2⟩ := or_step n (rd l (off + (i : Int))) i (by omega) hn0 hn1 hb.1 hb.2
    have hpos : (0 : Int) < 2 ^ (7 * i) := by exact_mod_cast Nat.two_pow_pos _
    have hnn : 0 ≤ rd l (off + (i : Int)) % 128 * 2 ^ (7 * i) := Int.mul_nonneg (by omega) (by omega)
    have ew : wrap64 (off + (i : Int)) = off + (i : Int) := w64 (by omega) (by omega)
    refine Ev.step (fun _ => impl_ReadUvarint.l0.eq_2 ..) (ev_pos (by omega) ?_)
    rw [ew, e1]
    by_cases h1 : off + (i : Int) ≥ (l.length : Int)
    · rw [ruv_out l off d i n h1]
      exact ev_pos h1 (Ev.now _)
    have e7 : wrap64 (7 * (i : Int)) = 7 * (i : Int) := w64 (by omega) (by omega)
    have c0 : 0 ≤ off + (i : Int) := by omega
    have c1 : off + (i : Int) < (l.length : Int) := by omega
    have c2 : 0 ≤ wrap64 (7 * (i : Int)) := by rw [e7]; omega
    have e8 : wrap64 (rd l (off + (i : Int))) = rd l (off + (i : Int)) := w64 (by omega) (by omega)
    have e9 : wrap64 (off + (i : Int) + 1) = off + (i : Int) + 1 := w64 (by omega) (by omega)
    refine ev_neg h1 (ev_pos c0 (ev_pos c1 (ev_pos c2 ?_)))
    rw [e8, e9]
    by_cases h2 : rd l (off + (i : Int)) < 128
    · refine ev_pos h2 ?_
      by_cases h3 : 0 < i
      · refine ev_pos (by omega) ?_
        by_cases h4 : rd l (off + (i : Int)) = 0
        · rw [ruv_bad l off d i n h1 h2 (.inl ⟨h3, h4⟩)]
          exact ev_pos h4 (Ev.now _)
        · refine ev_neg h4 ?_
          by_cases h5 : n + rd l (off + (i : Int)) % 128 * 2 ^ (7 * i) > 1000000000000
          · rw [ruv_bad l off d i n h1 h2 (.inr h5)]
            exact ev_pos h5 (Ev.now _)
          · rw [ruv_ok l off d i n h1 h2 (fun h => h.elim (fun h => h4 h.2) h5)]
            exact ev_neg h5 (Ev.now _)
      · refine ev_neg (by omega) ?_
        by_cases h5 : n + rd l (off + (i : Int)) % 128 * 2 ^ (7 * i) > 1000000000000
        · rw [ruv_bad l off d i n h1 h2 (.inr h5)]
          exact ev_pos h5 (Ev.now _)
        · rw [ruv_ok l off d i n h1 h2 (fun h => h.elim (fun h => h3 h.1) h5)]
          exact ev_neg h5 (Ev.now _)
    · rw [ruv_go l off d i n h1 h2]
      refine ev_neg h2 ?_
      rw [w64 (by omega) (by omega)]
      exact ih (i + 1) _ (by omega) (by omega) e2
theorem impl_ReadUvarint_ev (l : List Int) (hl : l.length ≤ 1099511627776) (hw : ∀ x ∈ l, (Lit.int .u8 x).wf = true) (off : Int) : Ev (fun k => impl_ReadUvarint.f k l off) (ruv l off) := by
  unfold impl_ReadUvarint.f ruv
  refine ev_bind0 (at_val _ _) ?_
  by_cases h : 0 ≤ off ∧ off < (l.length : Int)
  · rw [if_pos h]
    refine ev_pos (by simp [h]) ?_
    exact impl_ReadUvarint_l0 l hl hw off h.1 h.2 6 0 0 (by omega) (by omega) (by decide)
  · rw [if_neg h]
    exact ev_neg (by simp only [h, decide_false, Bool.false_eq_true, not_false_eq_true]) (Ev.now _)
theorem spec_ReadUvarint_l0 (l : List Int) (hl : l.length ≤ 1099511627776) (hw : ∀ x ∈ l, (Lit.int .u8 x).wf = true) (off : Int) (ho : 0 ≤ off) (ho1 : off < (l.length : Int)) :
    ∀ (d i : Nat) (n : Int), i + d = 6 → 0 ≤ n → n < 2 ^ (7 * i) → Ev (fun k => spec_ReadUvarint.l0 k l off n (i : Int)) (ruvLoop l off d i n) := by
  intro d
  induction d with
  | zero =>
    intro i n hd hn0 hn1
    exact Ev.step (fun _ => spec_ReadUvarint.l0.eq_2 ..) (ev_neg (by omega) (Ev.now _))
  | succ d ih =>
    intro i n hd hn0 hn1
    have hb := rd_byte l hw (off + (i : Int))
    obtain ⟨e1, e2⟩ := or_step n (rd l (off + (i : Int))) i (by omega) hn0 hn1 hb.1 hb.2
    have hpos : (0 : Int) < 2 ^ (7 * i) := by exact_mod_cast Nat.two_pow_pos _
    have hnn : 0 ≤ rd l (off + (i : Int)) % 128 * 2 ^ (7 * i) := Int.mul_nonneg (by omega) (by omega)
    have ew : wrap64 (off + (i : Int)) = off + (i : Int) := w64 (by omega) (by omega)
    have e6 : wrap64 ((l.length : Int) - (i : Int)) = (l.length : Int) - (i : Int) := w64 (by omega) (by omega)
    refine Ev.step (fun _ => spec_ReadUvarint.l0.eq_2 ..) (ev_pos (by omega) (ev_neg (by omega) ?_))
    refine Ev.step (fun _ => spec_ReadUvarint.j1.eq_2 ..) ?_
    rw [ew, e1, e6]
    by_cases h1 : off + (i : Int) ≥ (l.length : Int)
    · rw [ruv_out l off d i n h1]
      exact ev_pos (decide_eq_true (by omega)) (Ev.now _)
    have e7 : wrap64 (7 * (i : Int)) = 7 * (i : Int) := w64 (by omega) (by omega)
    have c0 : 0 ≤ off + (i : Int) := by omega
    have c1 : off + (i : Int) < (l.length : Int) := by omega
    have c2 : 0 ≤ wrap64 (7 * (i : Int)) := by rw [e7]; omega
    have e8 : wrap64 (rd l (off + (i : Int))) = rd l (off + (i : Int)) := w64 (by omega) (by omega)
    have e9 : wrap64 (off + (i : Int) + 1) = off + (i : Int) + 1 := w64 (by omega) (by omega)
    have h1' : ¬ (off ≥ (l.length : Int) - (i : Int)) := fun h => h1 (by omega)
    refine ev_neg (by simp only [decide_eq_true_eq]; exact h1') (ev_pos c0 (ev_pos c1 (ev_pos c2 ?_)))
    rw [e8, e9]
    by_cases h2 : rd l (off + (i : Int)) < 128
    · refine ev_pos h2 ?_
      by_cases h4 : rd l (off + (i : Int)) = 0
      · refine ev_pos h4 ?_
        by_cases h3 : 0 < i
        · rw [ruv_bad l off d i n h1 h2 (.inl ⟨h3, h4⟩)]
          exact ev_pos (by omega) (Ev.now _)
        · refine ev_neg (by omega) ?_
          by_cases h5 : n + rd l (off + (i : Int)) % 128 * 2 ^ (7 * i) > 1000000000000
          · rw [ruv_bad l off d i n h1 h2 (.inr h5)]
            exact ev_pos h5 (Ev.now _)
          · rw [ruv_ok l off d i n h1 h2 (fun h => h.elim (fun h => h3 h.1) h5)]
            exact ev_neg h5 (Ev.now _)
      · refine ev_neg h4 ?_
        by_cases h5 : n + rd l (off + (i : Int)) % 128 * 2 ^ (7 * i) > 1000000000000
        · rw [ruv_bad l off d i n h1 h2 (.inr h5)]
          exact ev_pos h5 (Ev.now _)
        · rw [ruv_ok l off d i n h1 h2 (fun h => h.elim (fun h => h4 h.2) h5)]
          exact ev_neg h5 (Ev.now _)
    · rw [ruv_go l off d i n h1 h2]
      refine ev_neg h2 ?_
      rw [w64 (by omega) (by omega)]
      exact ih (i + 1) _ (by omega) (by omega) e2
theorem spec_ReadUvarint_ev (l : List Int) (hl : l.length ≤ 1099511627776) (hw : ∀ x ∈ l, (Lit.int .u8 x).wf = true) (off : Int) : Ev (fun k => spec_ReadUvarint.f k l off) (ruv l off) := by
  unfold spec_ReadUvarint.f ruv
  by_cases h : 0 ≤ off ∧ off < (l.length : Int)
  · rw [if_pos h]
    exact spec_ReadUvarint_l0 l hl hw off h.1 h.2 6 0 0 (by omega) (by omega) (by decide)
  · rw [if_neg h]
    refine Ev.step (fun _ => spec_ReadUvarint.l0.eq_2 ..) (ev_pos (by omega) ?_)
    by_cases h0 : off < 0
    · exact ev_pos h0 (Ev.step (fun _ => spec_ReadUvarint.j1.eq_2 ..) (ev_pos rfl (Ev.now _)))
    · refine ev_neg h0 (Ev.step (fun _ => spec_ReadUvarint.j1.eq_2 ..) (ev_pos ?_ (Ev.now _)))
      rw [w64 (by omega) (by omega)]
      exact decide_eq_true (by omega)
def uvN (n : Nat) : List Int := if n > 127 then (((n % 128 + 128 : Nat)) : Int) :: uvN (n / 128) else [(n : Int)]
theorem uvN_small (n : Nat) (h : n ≤ 127) : uvN n = [(n : Int)] := by rw [uvN, if_neg (by omega)]
theorem uvN_big (n : Nat) (h : n > 127) : uvN n = (((n % 128 + 128 : Nat)) : Int) :: uvN (n / 128) := by rw [uvN, if_pos h]
theorem uvN_len : ∀ (k n : Nat), n < 128 ^ (k + 1) → (uvN n).length ≤ k + 1 := by
  intro k
  induction k with
  | zero =>
    intro n h
    rw [uvN_small n (by omega)]
    simp
  | succ k ih =>
    intro n h
    by_cases hn : n > 127
    · have e : 128 ^ (k + 1 + 1) = 128 ^ (k + 1) * 128 := Nat.pow_succ ..
      have := ih (n / 128) (by rw [Nat.div_lt_iff_lt_mul (by decide)]; omega)
      rw [uvN_big n hn, List.length_cons]
      omega
    · rw [uvN_small n (by omega)]
      simp
theorem uvN_len6 (n : Nat) (h : n ≤ 1000000000000) : (uvN n).length ≤ 6 := uvN_len 5 n (by omega)
theorem uvN_pos (n : Nat) : 0 < (uvN n).length := by
  rw [uvN]
  split <;> simp
theorem uvN_byte : ∀ (m n : Nat), n ≤ m → ∀ x ∈ uvN n, 0 ≤ x ∧ x ≤ 255 := by
  intro m
  induction m with
  | zero =>
    intro n h x hx
    rw [uvN_small n (by omega)] at hx
    have := List.mem_singleton.1 hx
    omega
  | succ m ih =>
    intro n h x hx
    by_cases hn : n > 127
    · rw [uvN_big n hn] at hx
      rcases List.mem_cons.1 hx with rfl | hx
      · omega
      · exact ih (n / 128) (by omega) x hx
    · rw [uvN_small n (by omega)] at hx
      have := List.mem_singleton.1 hx
      omega
theorem wf8_mk {x : Int} (h0 : 0 ≤ x) (h1 : x ≤ 255) : (Lit.int .u8 x).wf = true := by
  simp [Lit.wf, IntKind.min, IntKind.max, IntKind.signed, IntKind.bits]
  omega
def appendUv (b : List Int) (n : Int) : List Int := if 0 ≤ n ∧ n ≤ 1000000000000 then b ++ uvN n.toNat else b
theorem appendUv_len (b : List Int) (n : Int) : b.length ≤ (appendUv b n).length ∧ (appendUv b n).length ≤ b.length + 6 := by
  unfold appendUv
  split
  · have := uvN_len6 n.toNat (by omega)
    rw [List.length_append]
    omega
  · omega
theorem appendUv_wf (b : List Int) (n : Int) (hb : ∀ x ∈ b, (Lit.int .u8 x).wf = true) : ∀ x ∈ appendUv b n, (Lit.int .u8 x).wf = true := by
  intro x hx
  unfold appendUv at hx
  split at hx
  · rcases List.mem_append.1 hx with h | h
    · exact hb x h
    · have := uvN_byte _ _ (Nat.le_refl _) x h
      exact wf8_mk this.1 this.2
  · exact hb x hx
theorem uv_byte (n : Nat) (h : n ≤ 1000000000000) : (Go.bits .or .i64 (Go.bits .and .i64 (n : Int) 127) 128) % 256 = ((n % 128 + 128 : Nat) : Int) := by
  rw [and127 (n : Int) (by omega) (by omega), bits_or_comm]
  have e : Go.bits .or .i64 128 ((n : Int) % 128) = 128 + (n : Int) % 128 := Go.bits_join .i64 63 (by decide) wraps_i64 7 128 _ (by decide) (by decide) (by decide) (by omega) (by omega) (by omega)
  rw [e]
  omega
theorem ruvLoop_inv (l : List Int) (off : Int) (ho : 0 ≤ off) (hw : ∀ x ∈ l, (Lit.int .u8 x).wf = true) : ∀ (d i : Nat) (acc m after : Int), i + d = 6 → ruvLoop l off d i acc = (m, after, true) →
    ∃ q : Nat, m = acc + (q : Int) * 2 ^ (7 * i) ∧ (0 < i → 0 < q) ∧ after = off + (i : Int) + ((uvN q).length : Int) ∧ after ≤ (l.length : Int) ∧ (l.drop (off.toNat + i)).take (uvN q).length = uvN q ∧ m ≤ 1000000000000 := by
  intro d
  induction d with
  | zero =>
    intro i acc m after hd h
    simp [ruvLoop] at h
  | succ d ih =>
    intro i acc m after hd h
    have hb := rd_byte l hw (off + (i : Int))
    by_cases h1 : off + (i : Int) ≥ (l.length : Int)
    · rw [ruv_out l off d i acc h1] at h
      simp at h
    have hlt : off.toNat + i < l.length := by omega
    have hrd : rd l (off + (i : Int)) = l[off.toNat + i]'hlt := by
      rw [show off + (i : Int) = ((off.toNat + i : Nat) : Int) by omega, rd_at l _ hlt]
    obtain ⟨c, hc⟩ : ∃ c : Nat, rd l (off + (i : Int)) = (c : Int) := ⟨(rd l (off + (i : Int))).toNat, by omega⟩
    by_cases h2 : rd l (off + (i : Int)) < 128
    · by_cases h3 : (0 < i ∧ rd l (off + (i : Int)) = 0) ∨ acc + rd l (off + (i : Int)) % 128 * 2 ^ (7 * i) > 1000000000000
      · rw [ruv_bad l off d i acc h1 h2 h3] at h
        simp at h
      · rw [ruv_ok l off d i acc h1 h2 h3] at h
        simp only [Prod.mk.injEq, and_true] at h
        obtain ⟨hm, ha⟩ := h
        have h31 : ¬ (0 < i ∧ rd l (off + (i : Int)) = 0) := fun hh => h3 (.inl hh)
        have h32 : ¬ acc + rd l (off + (i : Int)) % 128 * 2 ^ (7 * i) > 1000000000000 := fun hh => h3 (.inr hh)
        have e : rd l (off + (i : Int)) % 128 = (c : Int) := by omega
        rw [e] at hm h32
        have hu : uvN c = [(c : Int)] := uvN_small c (by omega)
        refine ⟨c, hm.symm, fun hi => by omega, ?_, ?_, ?_, by omega⟩
        · rw [hu, ← ha]; simp only [List.length_singleton]; omega
        · omega
        · rw [hu, List.drop_eq_getElem_cons hlt, List.length_singleton, List.take_succ_cons, List.take_zero, ← hrd, hc]
    · rw [ruv_go l off d i acc h1 h2] at h
      obtain ⟨q, hm, hq, ha, hle, ht, h12⟩ := ih (i + 1) _ m after (by omega) h
      have hq' := hq (by omega)
      have hP : (2 : Int) ^ (7 * (i + 1)) = 2 ^ (7 * i) * 128 := by rw [Nat.mul_add, Nat.mul_one, Int.pow_add]; rfl
      have e : rd l (off + (i : Int)) % 128 = ((c % 128 : Nat) : Int) := by omega
      have hbig : c % 128 + 128 * q > 127 := by omega
      have hd1 : (c % 128 + 128 * q) % 128 = c % 128 := by omega
      have hd2 : (c % 128 + 128 * q) / 128 = q := by omega
      have hu : uvN (c % 128 + 128 * q) = (c : Int) :: uvN q := by
        rw [uvN_big _ hbig, hd1, hd2, show c % 128 + 128 = c by omega]
      refine ⟨c % 128 + 128 * q, ?_, fun _ => by omega, ?_, hle, ?_, h12⟩
      · rw [hm, hP, e]
        have e2 : ((c % 128 + 128 * q : Nat) : Int) = ((c % 128 : Nat) : Int) + 128 * (q : Int) := by omega
        rw [e2, Int.add_mul, Int.mul_comm (2 ^ (7 * i)) 128, ← Int.mul_assoc, Int.mul_comm (q : Int) 128, Int.add_assoc]
      · rw [ha, hu, List.length_cons]
        omega
      · rw [hu, List.drop_eq_getElem_cons hlt, List.length_cons, List.take_succ_cons, ← hrd, hc]
        rw [show off.toNat + i + 1 = off.toNat + (i + 1) by omega, ht]
theorem ruv_inv (l : List Int) (off m after : Int) (hw : ∀ x ∈ l, (Lit.int .u8 x).wf = true) (h : ruv l off = (m, after, true)) :
    0 ≤ off ∧ off < (l.length : Int) ∧ ∃ q : Nat, m = (q : Int) ∧ q ≤ 1000000000000 ∧ after = off + ((uvN q).length : Int) ∧ after ≤ (l.length : Int) ∧ (l.drop off.toNat).take (uvN q).length = uvN q := by
  unfold ruv at h
  by_cases hc : 0 ≤ off ∧ off < (l.length : Int)
  · rw [if_pos hc] at h
    obtain ⟨q, hm, _, ha, hle, ht, h12⟩ := ruvLoop_inv l off hc.1 hw 6 0 0 m after rfl h
    have e0 : (2 : Int) ^ (7 * 0) = 1 := rfl
    rw [e0, Int.mul_one, Int.zero_add] at hm
    exact ⟨hc.1, hc.2, q, hm, by omega, by rw [ha]; simp, hle, ht⟩
  · rw [if_neg hc] at h
    simp at h
theorem ruvLoop_fail (l : List Int) (off : Int) : ∀ (d i : Nat) (acc : Int), (ruvLoop l off d i acc).2.2 = false → ruvLoop l off d i acc = (0, 0, false) := by
  intro d
  induction d with
  | zero => intro i acc _; rfl
  | succ d ih =>
    intro i acc h
    by_cases h1 : off + (i : Int) ≥ (l.length : Int)
    · exact ruv_out l off d i acc h1
    by_cases h2 : rd l (off + (i : Int)) < 128
    · by_cases h3 : (0 < i ∧ rd l (off + (i : Int)) = 0) ∨ acc + rd l (off + (i : Int)) % 128 * 2 ^ (7 * i) > 1000000000000
      · exact ruv_bad l off d i acc h1 h2 h3
      · rw [ruv_ok l off d i acc h1 h2 h3] at h
        simp at h
    · rw [ruv_go l off d i acc h1 h2] at h ⊢
      exact ih _ _ h
theorem ruv_fail (l : List Int) (off : Int) (h : (ruv l off).2.2 = false) : ruv l off = (0, 0, false) := by
  unfold ruv at h ⊢
  split
  · rename_i hc
    rw [if_pos hc] at h
    exact ruvLoop_fail l off 6 0 0 h
  · rfl
theorem ruvLoop_enc (l : List Int) (off : Int) (ho : 0 ≤ off) : ∀ (d i m : Nat) (acc : Int) (rest : List Int), i + d = 6 → (uvN m).length ≤ d → l.drop (off.toNat + i) = uvN m ++ rest → (0 < i → 0 < m) → acc + (m : Int) * 2 ^ (7 * i) ≤ 1000000000000 →
    ruvLoop l off d i acc = (acc + (m : Int) * 2 ^ (7 * i), off + (i : Int) + ((uvN m).length : Int), true) := by
  intro d
  induction d with
  | zero =>
    intro i m acc rest hd hl hdr hi hacc
    have := uvN_pos m
    omega
  | succ d ih =>
    intro i m acc rest hd hl hdr hi hacc
    have hne : 0 < (l.drop (off.toNat + i)).length := by rw [hdr, List.length_append]; have := uvN_pos m; omega
    have hlt : off.toNat + i < l.length := by rw [List.length_drop] at hne; omega
    have h1 : ¬ off + (i : Int) ≥ (l.length : Int) := by omega
    have hrd : rd l (off + (i : Int)) = l[off.toNat + i]'hlt := by
      rw [show off + (i : Int) = ((off.toNat + i : Nat) : Int) by omega, rd_at l _ hlt]
    rw [List.drop_eq_getElem_cons hlt] at hdr
    by_cases hm : m > 127
    · rw [uvN_big m hm, List.cons_append, List.cons.injEq] at hdr
      obtain ⟨h2, h3⟩ := hdr
      rw [h2] at hrd
      have e : rd l (off + (i : Int)) % 128 = ((m % 128 : Nat) : Int) := by omega
      have hP : (2 : Int) ^ (7 * (i + 1)) = 2 ^ (7 * i) * 128 := by rw [Nat.mul_add, Nat.mul_one, Int.pow_add]; rfl
      have hsum : acc + ((m % 128 : Nat) : Int) * 2 ^ (7 * i) + ((m / 128 : Nat) : Int) * 2 ^ (7 * (i + 1)) = acc + (m : Int) * 2 ^ (7 * i) := by
        rw [hP, Int.mul_comm (2 ^ (7 * i)) 128, ← Int.mul_assoc, Int.add_assoc, ← Int.add_mul]
        rw [show ((m % 128 : Nat) : Int) + ((m / 128 : Nat) : Int) * 128 = (m : Int) by omega]
      rw [ruv_go l off d i acc h1 (by omega), e]
      have hu : (uvN m).length = (uvN (m / 128)).length + 1 := by rw [uvN_big m hm, List.length_cons]
      rw [ih (i + 1) (m / 128) _ rest (by omega) (by omega) (by rw [← h3]; rfl) (fun _ => by omega) (by rw [hsum]; exact hacc), hsum, hu]
      simp only [Prod.mk.injEq, and_true, true_and]
      omega
    · rw [uvN_small m (by omega), List.singleton_append, List.cons.injEq] at hdr
      rw [hdr.1] at hrd
      have e : rd l (off + (i : Int)) % 128 = (m : Int) := by omega
      rw [ruv_ok l off d i acc h1 (by omega) (by rw [e]; intro hh; rcases hh with hh | hh; (· have := hi hh.1; omega); (· omega)), e, uvN_small m (by omega)]
      rfl
theorem ruv_enc (b rest : List Int) (m : Nat) (hm : m ≤ 1000000000000) : ruv (b ++ (uvN m ++ rest)) (b.length : Int) = ((m : Int), (b.length : Int) + ((uvN m).length : Int), true) := by
  have hpos := uvN_pos m
  unfold ruv
  rw [if_pos (by rw [List.length_append, List.length_append]; omega)]
  have e0 : (2 : Int) ^ (7 * 0) = 1 := rfl
  have h := ruvLoop_enc (b ++ (uvN m ++ rest)) (b.length : Int) (by omega) 6 0 m 0 rest rfl (uvN_len6 m hm) (by rw [Int.toNat_natCast, Nat.add_zero, List.drop_left]) (fun h => by omega) (by rw [e0]; omega)
  rw [e0, Int.mul_one, Int.zero_add] at h
  rw [h]
  simp
def rdb (l : List Int) (off most : Int) : List Int × Int × Bool :=
  if (ruv l off).2.2 = true ∧ (ruv l off).1 ≤ most ∧ (ruv l off).1 ≤ (l.length : Int) - (ruv l off).2.1 then
    ((l.take ((ruv l off).2.1 + (ruv l off).1).toNat).drop (ruv l off).2.1.toNat, (ruv l off).2.1 + (ruv l off).1, true) else ([], 0, false)
theorem rdb_no (l : List Int) (off most : Int) (h : ¬ ((ruv l off).2.2 = true ∧ (ruv l off).1 ≤ most ∧ (ruv l off).1 ≤ (l.length : Int) - (ruv l off).2.1)) : rdb l off most = ([], 0, false) := by
  unfold rdb
  rw [if_neg h]
theorem rdb_yes (l : List Int) (off most : Int) (h : (ruv l off).2.2 = true ∧ (ruv l off).1 ≤ most ∧ (ruv l off).1 ≤ (l.length : Int) - (ruv l off).2.1) :
    rdb l off most = ((l.take ((ruv l off).2.1 + (ruv l off).1).toNat).drop (ruv l off).2.1.toNat, (ruv l off).2.1 + (ruv l off).1, true) := by
  unfold rdb
  rw [if_pos h]
theorem rdb_len (l : List Int) (off most : Int) : (rdb l off most).1.length ≤ l.length := by
  unfold rdb
  split
  · simp only [List.length_drop, List.length_take]; omega
  · simp
theorem spec_ReadBytes_ev (l : List Int) (hl : l.length ≤ 1099511627776) (hw : ∀ x ∈ l, (Lit.int .u8 x).wf = true) (off most : Int) : Ev (fun k => spec_ReadBytes.f k l off most) (rdb l off most) := by
  unfold spec_ReadBytes.f
  refine Ev.bind (spec_ReadUvarint_ev l hl hw off) ?_
  by_cases hk : (ruv l off).2.2 = true
  · obtain ⟨m, after, e⟩ : ∃ m after, ruv l off = (m, after, true) := ⟨(ruv l off).1, (ruv l off).2.1, by rw [← hk]⟩
    obtain ⟨h0, h1, q, hm, hq, ha, hle, _⟩ := ruv_inv l off m after hw e
    have ew : wrap64 ((l.length : Int) - after) = (l.length : Int) - after := w64 (by omega) (by omega)
    have ew2 : wrap64 (after + m) = after + m := w64 (by omega) (by omega)
    by_cases c1 : m > most
    · rw [rdb_no l off most (by rw [e]; intro h; have : m ≤ most := h.2.1; omega), e]
      refine ev_pos rfl ?_
      simp only [ew, ew2]
      exact ev_pos c1 (Ev.now _)
    by_cases c2 : m > (l.length : Int) - after
    · rw [rdb_no l off most (by rw [e]; intro h; have : m ≤ (l.length : Int) - after := h.2.2; omega), e]
      refine ev_pos rfl ?_
      simp only [ew, ew2]
      exact ev_neg c1 (ev_pos c2 (Ev.now _))
    rw [rdb_yes l off most (by rw [e]; exact ⟨rfl, show m ≤ most by omega, show m ≤ (l.length : Int) - after by omega⟩), e]
    refine ev_pos rfl ?_
    simp only [ew, ew2]
    refine ev_neg c1 (ev_neg c2 (ev_bind0 rfl (ev_pos (by omega) (ev_pos (by omega) (ev_pos (by omega) (ev_pos ?_ (Ev.now _)))))))
    simp only [List.length_nil, List.length_drop, List.length_take]
    omega
  · rw [rdb_no l off most (fun h => hk h.1)]
    exact ev_neg hk (Ev.now _)
theorem clone_byte (b : List Int) (hb : b.length ≤ 100000000000000) : slices_Clone_byte_byte.f b = some b := by
  unfold slices_Clone_byte_byte.f
  rw [Option.bind_some, if_pos (by simp only [List.length_nil]; omega), List.nil_append]
theorem impl_ReadBytes_ev (l : List Int) (hl : l.length ≤ 1099511627776) (hw : ∀ x ∈ l, (Lit.int .u8 x).wf = true) (off most : Int) : Ev (fun k => impl_ReadBytes.f k l off most) (rdb l off most) := by
  unfold impl_ReadBytes.f
  refine Ev.bind (impl_ReadUvarint_ev l hl hw off) ?_
  by_cases hk : (ruv l off).2.2 = true
  · obtain ⟨m, after, e⟩ : ∃ m after, ruv l off = (m, after, true) := ⟨(ruv l off).1, (ruv l off).2.1, by rw [← hk]⟩
    obtain ⟨h0, h1, q, hm, hq, ha, hle, _⟩ := ruv_inv l off m after hw e
    have ew : wrap64 ((l.length : Int) - after) = (l.length : Int) - after := w64 (by omega) (by omega)
    have ew2 : wrap64 (after + m) = after + m := w64 (by omega) (by omega)
    by_cases c1 : m > most
    · rw [rdb_no l off most (by rw [e]; intro h; have : m ≤ most := h.2.1; omega), e]
      refine ev_pos rfl ?_
      simp only [ew, ew2]
      exact ev_pos c1 (Ev.now _)
    by_cases c2 : m > (l.length : Int) - after
    · rw [rdb_no l off most (by rw [e]; intro h; have : m ≤ (l.length : Int) - after := h.2.2; omega), e]
      refine ev_pos rfl ?_
      simp only [ew, ew2]
      exact ev_neg c1 (ev_pos c2 (Ev.now _))
    rw [rdb_yes l off most (by rw [e]; exact ⟨rfl, show m ≤ most by omega, show m ≤ (l.length : Int) - after by omega⟩), e]
    refine ev_pos rfl ?_
    simp only [ew, ew2]
    refine ev_neg c1 (ev_neg c2 (ev_pos (by omega) (ev_pos (by omega) (ev_pos (by omega) (ev_bind0 (clone_byte _ ?_) (Ev.now _))))))
    simp only [List.length_drop, List.length_take]
    omega
  · rw [rdb_no l off most (fun h => hk h.1)]
    exact ev_neg hk (Ev.now _)
theorem FnExactReadBytes : ∀ (x0 : List Int) (x1 : Int) (x2 : Int), (x0.length ≤ 9223372036854775807 ∧ ∀ y ∈ x0, (Lit.int .u8 y).wf = true) → ((Lit.int .i64 x1).wf = true) → ((Lit.int .i64 x2).wf = true) → ∃ k, laws_FnExactReadBytes.f k x0 x1 x2 = some true := by
  intro l off most hl _ _
  obtain ⟨hl, hw⟩ := hl
  refine Ev.rounds (g := fun k => laws_FnExactReadBytes.f k l off most) ?_
  unfold laws_FnExactReadBytes.f
  by_cases hb : (l.length : Int) > 1048576
  · exact ev_pos hb (Ev.now true)
  refine ev_neg hb ?_
  have ha := rdb_len l off most
  have hs := spec_ReadBytes_ev l (by omega) hw off most
  have hi := impl_ReadBytes_ev l (by omega) hw off most
  refine Ev.bind (toByteS_ev l (by omega)) (Ev.bind hs ?_)
  refine Ev.bind (toByteS_ev l (by omega)) (Ev.bind hi ?_)
  refine Ev.bind (eqByteS_same _ (by omega)) (ev_pos rfl (ev_pos rfl ?_))
  refine Ev.step (fun _ => laws_FnExactReadBytes.j0.eq_2 ..) (ev_neg (by simp) ?_)
  refine Ev.bind (toByteS_ev l (by omega)) ?_
  refine Ev.bind (eqByteS_same l (by omega)) (ev_pos rfl ?_)
  refine Ev.bind (markByteS_ev l 1 (by omega) (by omega)) (ev_neg (by simp only; omega) ?_)
  refine Ev.bind (eqByteS_same _ (by omega)) (ev_pos rfl (ev_pos rfl ?_))
  refine Ev.step (fun _ => laws_FnExactReadBytes.j1.eq_2 ..) (ev_neg (by simp) ?_)
  refine Ev.bind (markByteS_ev _ 1 (by omega) (by omega)) ?_
  refine Ev.bind (heldByteS_ev 1 _ (by omega) (by omega)) (ev_neg (by omega) (ev_pos rfl ?_))
  refine Ev.bind (toByteS_ev l (by omega)) (Ev.bind hi ?_)
  refine Ev.bind (eqByteS_same _ (by omega)) (ev_pos rfl (ev_pos rfl ?_))
  refine Ev.step (fun _ => laws_FnExactReadBytes.j2.eq_2 ..) (ev_neg (by simp) ?_)
  exact Ev.bind (heldByteS_ev 1 _ (by omega) (by omega)) (ev_neg (by omega) (ev_pos rfl (Ev.now true)))

end Go.Proofs.Ytgcidlnhgpjdpab.Pure
