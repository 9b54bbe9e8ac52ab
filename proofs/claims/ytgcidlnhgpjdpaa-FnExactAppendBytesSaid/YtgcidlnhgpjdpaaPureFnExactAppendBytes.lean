/- The pure statement behind the law FnExactAppendBytes: over numbers and lists the law answers true, at every input that the row's bounds let in. -/
import Derived.Test.YtgcidlnhgpjdpaaQFnExactAppendBytesx2
import Derived.Test.YtgcidlnhgpjdpaaQFnExactAppendBytesg
namespace Go.Proofs.Ytgcidlnhgpjdpaa.Pure
open Go Go.RowKit Go.Proofs.Ytgcidlnhgpjdpaa.QFnExactAppendBytes Go.Proofs.YtgcidlnhgpjdpaaW.PrintWords Go.Proofs.YtgcidlnhgpjdpaaW.PrintLast Go.Proofs.YtgcidlnhgpjdpaaW.PrintMore
set_option linter.unusedVariables false
set_option linter.unusedSimpArgs false
set_option maxRecDepth 100000

theorem w64 {x : Int} (h0 : -9223372036854775808 ≤ x) (h1 : x ≤ 9223372036854775807) : wrap64 x = x := by unfold wrap64; omega
theorem wf64 {x : Int} (h : (Lit.int .i64 x).wf = true) : -9223372036854775808 ≤ x ∧ x ≤ 9223372036854775807 := by
  simp [Lit.wf, IntKind.min, IntKind.max, IntKind.signed, IntKind.bits] at h
  omega
theorem wf8 {x : Int} (h : (Lit.int .u8 x).wf = true) : 0 ≤ x ∧ x ≤ 255 := by
  simp [Lit.wf, IntKind.min, IntKind.max, IntKind.signed, IntKind.bits] at h
  omega
theorem ev_pos {α : Type} {c : Prop} [Decidable c] {g f : Nat → Option α} {r : α} (h : c) (k : Ev g r) : Ev (fun n => if c then g n else f n) r := by
  obtain ⟨K, hK⟩ := k
  exact ⟨K, fun n hn => (if_pos h).trans (hK n hn)⟩
theorem ev_neg {α : Type} {c : Prop} [Decidable c] {g f : Nat → Option α} {r : α} (h : ¬ c) (k : Ev f r) : Ev (fun n => if c then g n else f n) r := by
  obtain ⟨K, hK⟩ := k
  exact ⟨K, fun n hn => (if_neg h).trans (hK n hn)⟩
theorem ev_bind0 {α β : Type} {o : Option α} {f : Nat → α → Option β} {a : α} {r : β} (h : o = some a) (k : Ev (fun n => f n a) r) : Ev (fun n => o.bind (f n)) r := by
  subst h
  exact k
theorem ev_of {α : Type} {o : Option α} {r : α} (h : o = some r) : Ev (fun _ => o) r := ⟨0, fun _ _ => h⟩
theorem rd_at (xs : List Int) (i : Nat) (h : i < xs.length) : rd xs (i : Int) = xs[i] := by
  unfold rd
  rw [Int.toNat_natCast, List.getD_eq_getElem?_getD, List.getElem?_eq_getElem h]
  rfl
theorem set_take {out xs : List Int} {i : Nat} (h : out.take i = xs.take i) (hl : out.length = xs.length) (hi : i < xs.length) : (out.set ((i : Int)).toNat (rd xs i)).take (i + 1) = xs.take (i + 1) := by
  rw [rd_at xs i hi, Int.toNat_natCast, List.take_succ_eq_append_getElem hi, List.take_succ_eq_append_getElem (by rw [List.length_set]; omega)]
  rw [List.take_set_of_le (Nat.le_refl _), h]
  simp
def seqFrom (m : Int) (n : Nat) : List Int := (List.range n).map fun (j : Nat) => m + (j : Int)
theorem seqFrom_length (m : Int) (n : Nat) : (seqFrom m n).length = n := by simp [seqFrom]
theorem seqFrom_get (m : Int) (n i : Nat) (h : i < n) : (seqFrom m n)[i]'(by rw [seqFrom_length]; exact h) = m + (i : Int) := by simp [seqFrom]
theorem seq_set {x ys : List Int} {i : Nat} (h : x.take i = ys.take i) (hl : x.length = ys.length) (hi : i < ys.length) {v : Int} (hv : ys[i] = v) : (x.set ((i : Int)).toNat v).take (i + 1) = ys.take (i + 1) := by
  subst hv
  rw [Int.toNat_natCast, List.take_succ_eq_append_getElem hi, List.take_succ_eq_append_getElem (by rw [List.length_set]; omega)]
  rw [List.take_set_of_le (Nat.le_refl _), h]
  simp
theorem toByteS_l0 (xs : List Int) (hn : xs.length ≤ 281474976710656) : ∀ (d i : Nat) (out : List Int), i + d = xs.length → out.length = xs.length → out.take i = xs.take i → Ev (fun k => laws_toByteS.l0 k xs out (i : Int)) xs := by
  intro d
  induction d with
  | zero =>
    intro i out hd hl ht
    refine Ev.step (fun _ => laws_toByteS.l0.eq_2 ..) (ev_neg (by omega) (ev_of ?_))
    rw [List.take_of_length_le (by omega), List.take_of_length_le (by omega)] at ht
    rw [ht]
  | succ d ih =>
    intro i out hd hl ht
    refine Ev.step (fun _ => laws_toByteS.l0.eq_2 ..) (ev_pos (by omega) (ev_pos (by omega) (ev_pos (by omega) ?_)))
    rw [w64 (by omega) (by omega)]
    exact ih (i + 1) _ (by omega) (by rw [List.length_set]; exact hl) (set_take ht hl (by omega))
theorem toByteS_ev (xs : List Int) (hn : xs.length ≤ 281474976710656) : Ev (fun k => laws_toByteS.f k xs) xs := by
  unfold laws_toByteS.f
  refine ev_pos (by omega) (ev_pos (by omega) ?_)
  exact toByteS_l0 xs hn xs.length 0 _ (by omega) (by simp) (by simp)
theorem eqByteS_l0 (xs : List Int) (hn : xs.length ≤ 9223372036854775807) : ∀ (d i : Nat), i + d = xs.length → Ev (fun k => laws_eqByteS.l0 k xs xs (i : Int)) true := by
  intro d
  induction d with
  | zero =>
    intro i hd
    exact Ev.step (fun _ => laws_eqByteS.l0.eq_2 ..) (ev_neg (by omega) (Ev.now true))
  | succ d ih =>
    intro i hd
    refine Ev.step (fun _ => laws_eqByteS.l0.eq_2 ..) (ev_pos (by omega) (ev_pos (by omega) (ev_pos (by omega) (ev_pos rfl ?_))))
    rw [w64 (by omega) (by omega)]
    exact ih (i + 1) (by omega)
theorem eqByteS_same (xs : List Int) (hn : xs.length ≤ 9223372036854775807) : Ev (fun k => laws_eqByteS.f k xs xs) true := by
  unfold laws_eqByteS.f
  exact ev_pos rfl (eqByteS_l0 xs hn xs.length 0 (by omega))
def byteFrom (m : Int) (n : Nat) : List Int := (List.range n).map fun (j : Nat) => (m + (j : Int)) % 256
theorem byteFrom_length (m : Int) (n : Nat) : (byteFrom m n).length = n := by simp [byteFrom]
theorem byteFrom_get (m : Int) (n i : Nat) (h : i < n) : (byteFrom m n)[i]'(by rw [byteFrom_length]; exact h) = (m + (i : Int)) % 256 := by simp [byteFrom]
theorem markByteS_l0 : ∀ (d i : Nat) (m : Int) (x : List Int) (s : Int) (n : Nat), n = x.length → i + d = n → m = s + (i : Int) → 0 ≤ s → s + (n : Int) ≤ 4611686018427387904 → x.take i = (byteFrom s n).take i → Ev (fun k => laws_markByteS.l0 k x m (i : Int)) (s + (n : Int), byteFrom s n) := by
  intro d
  induction d with
  | zero =>
    intro i m x s n hn hd hm hs hb ht
    refine Ev.step (fun _ => laws_markByteS.l0.eq_2 ..) (ev_neg (by omega) (ev_of ?_))
    rw [List.take_of_length_le (by omega), List.take_of_length_le (by rw [byteFrom_length]; omega)] at ht
    rw [ht, show m = s + (n : Int) by omega]
  | succ d ih =>
    intro i m x s n hn hd hm hs hb ht
    refine Ev.step (fun _ => laws_markByteS.l0.eq_2 ..) (ev_pos (by omega) (ev_pos (by omega) ?_))
    rw [w64 (x := m + 1) (by omega) (by omega), w64 (x := (i : Int) + 1) (by omega) (by omega)]
    exact ih (i + 1) (m + 1) _ s n (by rw [List.length_set]; exact hn) (by omega) (by omega) hs hb (seq_set ht (by rw [byteFrom_length]; omega) (by rw [byteFrom_length]; omega) (by rw [byteFrom_get _ _ _ (by omega)]; omega))
theorem markByteS_ev (x : List Int) (s : Int) (hs : 0 ≤ s) (hb : s + (x.length : Int) ≤ 4611686018427387904) : Ev (fun k => laws_markByteS.f k x s) (s + (x.length : Int), byteFrom s x.length) := by
  unfold laws_markByteS.f
  exact markByteS_l0 x.length 0 s x s x.length rfl (by omega) (by omega) hs hb rfl
theorem heldByteS_l0 (s : Int) (n : Nat) (hs : 0 ≤ s) (hb : s + (n : Int) ≤ 4611686018427387904) : ∀ (d i : Nat) (m : Int), i + d = n → m = s + (i : Int) → Ev (fun k => laws_heldByteS.l0 k (byteFrom s n) m (i : Int)) (s + (n : Int)) := by
  intro d
  induction d with
  | zero =>
    intro i m hd hm
    refine Ev.step (fun _ => laws_heldByteS.l0.eq_2 ..) (ev_neg (by rw [byteFrom_length]; omega) (ev_of ?_))
    rw [show m = s + (n : Int) by omega]
  | succ d ih =>
    intro i m hd hm
    refine Ev.step (fun _ => laws_heldByteS.l0.eq_2 ..) (ev_pos (by rw [byteFrom_length]; omega) (ev_pos (by omega) (ev_pos ?_ ?_)))
    · rw [rd_at _ i (by rw [byteFrom_length]; omega), byteFrom_get _ _ _ (by omega)]
      omega
    · rw [w64 (x := m + 1) (by omega) (by omega), w64 (x := (i : Int) + 1) (by omega) (by omega)]
      exact ih (i + 1) (m + 1) (by omega) (by omega)
theorem heldByteS_ev (s : Int) (n : Nat) (hs : 0 ≤ s) (hb : s + (n : Int) ≤ 4611686018427387904) : Ev (fun k => laws_heldByteS.f k (byteFrom s n) s) (s + (n : Int)) := by
  unfold laws_heldByteS.f
  exact heldByteS_l0 s n hs hb n 0 s (by omega) (by omega)
theorem l1In_val (a b c : Int) : spec_l1In.f a b c = some (decide (b ≤ a ∧ a ≤ c)) := by
  unfold spec_l1In.f
  by_cases h : a ≥ b
  · rw [if_pos h]; simp [h]
  · rw [if_neg h]; simp [h]
theorem inRange_val (a b c : Int) : impl_InRange.f a b c = some (decide (b ≤ a ∧ a ≤ c)) := by
  unfold impl_InRange.f
  by_cases h : b ≤ a
  · rw [if_pos h]; simp [h]
  · rw [if_neg h]; simp [h]
theorem bits_or_comm (k : IntKind) (x y : Int) : Go.bits .or k x y = Go.bits .or k y x := by simp only [Go.bits, BitVec.or_comm]
theorem wraps_i64 (n : Int) (h0 : 0 ≤ n) (h1 : n < 2 ^ 63) : IntKind.i64.wrap n = n := by rw [IntKind.wrap_i64]; omega
theorem and127 (c : Int) (h0 : 0 ≤ c) (h1 : c ≤ 9223372036854775807) : Go.bits .and .i64 c 127 = c % 128 := Go.bits_mask .i64 63 (by decide) wraps_i64 7 (by decide) c h0 (by omega)
def uvN (n : Nat) : List Int := if n > 127 then (((n % 128 + 128 : Nat)) : Int) :: uvN (n / 128) else [(n : Int)]
theorem uvN_small (n : Nat) (h : n ≤ 127) : uvN n = [(n : Int)] := by rw [uvN, if_neg (by omega)]
theorem uvN_big (n : Nat) (h : n > 127) : uvN n = (((n % 128 + 128 : Nat)) : Int) :: uvN (n / 128) := by rw [uvN, if_pos h]
theorem uvN_len : ∀ (k n : Nat), n < 128 ^ (k + 1) → (uvN n).length ≤ k + 1 := by
  intro k
  induction k with
  | zero =>
    intro n h
    rw [uvN_small n (by omega)]
    simp
  | succ k ih =>
    intro n h
    by_cases hn : n > 127
    · have e : 128 ^ (k + 1 + 1) = 128 ^ (k + 1) * 128 := Nat.pow_succ ..
      have := ih (n / 128) (by rw [Nat.div_lt_iff_lt_mul (by decide)]; omega)
      rw [uvN_big n hn, List.length_cons]
      omega
    · rw [uvN_small n (by omega)]
      simp
theorem uvN_len6 (n : Nat) (h : n ≤ 1000000000000) : (uvN n).length ≤ 6 := uvN_len 5 n (by omega)
theorem uvN_pos (n : Nat) : 0 < (uvN n).length := by
  rw [uvN]
  split <;> simp
theorem uvN_byte : ∀ (m n : Nat), n ≤ m → ∀ x ∈ uvN n, 0 ≤ x ∧ x ≤ 255 := by
  intro m
  induction m with
  | zero =>
    intro n h x hx
    rw [uvN_small n (by omega)] at hx
    have := List.mem_singleton.1 hx
    omega
  | succ m ih =>
    intro n h x hx
    by_cases hn : n > 127
    · rw [uvN_big n hn] at hx
      rcases List.mem_cons.1 hx with rfl | hx
      · omega
      · exact ih (n / 128) (by omega) x hx
    · rw [uvN_small n (by omega)] at hx
      have := List.mem_singleton.1 hx
      omega
theorem wf8_mk {x : Int} (h0 : 0 ≤ x) (h1 : x ≤ 255) : (Lit.int .u8 x).wf = true := by
  simp [Lit.wf, IntKind.min, IntKind.max, IntKind.signed, IntKind.bits]
  omega
def appendUv (b : List Int) (n : Int) : List Int := if 0 ≤ n ∧ n ≤ 1000000000000 then b ++ uvN n.toNat else b
theorem appendUv_len (b : List Int) (n : Int) : b.length ≤ (appendUv b n).length ∧ (appendUv b n).length ≤ b.length + 6 := by
  unfold appendUv
  split
  · have := uvN_len6 n.toNat (by omega)
    rw [List.length_append]
    omega
  · omega
theorem appendUv_wf (b : List Int) (n : Int) (hb : ∀ x ∈ b, (Lit.int .u8 x).wf = true) : ∀ x ∈ appendUv b n, (Lit.int .u8 x).wf = true := by
  intro x hx
  unfold appendUv at hx
  split at hx
  · rcases List.mem_append.1 hx with h | h
    · exact hb x h
    · have := uvN_byte _ _ (Nat.le_refl _) x h
      exact wf8_mk this.1 this.2
  · exact hb x hx
theorem uv_byte (n : Nat) (h : n ≤ 1000000000000) : (Go.bits .or .i64 (Go.bits .and .i64 (n : Int) 127) 128) % 256 = ((n % 128 + 128 : Nat) : Int) := by
  rw [and127 (n : Int) (by omega) (by omega), bits_or_comm]
  have e : Go.bits .or .i64 128 ((n : Int) % 128) = 128 + (n : Int) % 128 := Go.bits_join .i64 63 (by decide) wraps_i64 7 128 _ (by decide) (by decide) (by decide) (by omega) (by omega) (by omega)
  rw [e]
  omega
theorem spec_AppendUvarint_l0 : ∀ (m n : Nat) (b : List Int), n ≤ m → n ≤ 1000000000000 → b.length + n ≤ 100000000000000 → Ev (fun k => spec_AppendUvarint.l0 k (n : Int) b) (b ++ uvN n) := by
  intro m
  induction m with
  | zero =>
    intro n b h hn hb
    refine Ev.step (fun _ => spec_AppendUvarint.l0.eq_2 ..) (ev_neg (by omega) (ev_pos (by omega) (ev_of ?_)))
    rw [uvN_small n (by omega), show (n : Int) % 256 = (n : Int) by omega]
  | succ m ih =>
    intro n b h hn hb
    refine Ev.step (fun _ => spec_AppendUvarint.l0.eq_2 ..) ?_
    by_cases h1 : n > 127
    · refine ev_pos (by omega) (ev_pos (by omega) ?_)
      have e := ih (n / 128) (b ++ [((n % 128 + 128 : Nat) : Int)]) (by omega) (by omega) (by rw [List.length_append, List.length_singleton]; omega)
      rw [uv_byte n hn, show (n : Int) / 128 = ((n / 128 : Nat) : Int) by omega, uvN_big n h1]
      rw [List.append_assoc, List.singleton_append] at e
      exact e
    · refine ev_neg (by omega) (ev_pos (by omega) (ev_of ?_))
      rw [uvN_small n (by omega), show (n : Int) % 256 = (n : Int) by omega]
theorem spec_AppendUvarint_ev (b : List Int) (n : Int) (hb : b.length ≤ 1099511627776) : Ev (fun k => spec_AppendUvarint.f k b n) (appendUv b n) := by
  unfold spec_AppendUvarint.f appendUv
  refine ev_bind0 rfl (ev_pos (by simp only [List.length_nil]; omega) (ev_bind0 rfl (ev_bind0 (l1In_val _ _ _) ?_)))
  rw [List.nil_append]
  by_cases h : 0 ≤ n ∧ n ≤ 1000000000000
  · rw [if_pos h]
    refine ev_pos (decide_eq_true h) ?_
    have e := spec_AppendUvarint_l0 n.toNat n.toNat b (Nat.le_refl _) (by omega) (by omega)
    rw [Int.toNat_of_nonneg h.1] at e
    exact e
  · rw [if_neg h]
    exact ev_neg (by simp only [decide_eq_true_eq]; exact h) (Ev.now _)
theorem clone_byte (b : List Int) (hb : b.length ≤ 100000000000000) : slices_Clone_byte_byte.f b = some b := by
  unfold slices_Clone_byte_byte.f
  rw [Option.bind_some, if_pos (by simp only [List.length_nil]; omega), List.nil_append]
theorem impl_AppendUvarint_l0 : ∀ (m n : Nat) (b : List Int), n ≤ m → n ≤ 1000000000000 → b.length + n ≤ 100000000000000 → Ev (fun k => impl_AppendUvarint.l0 k (n : Int) b) (b ++ uvN n) := by
  intro m
  induction m with
  | zero =>
    intro n b h hn hb
    refine Ev.step (fun _ => impl_AppendUvarint.l0.eq_2 ..) (ev_neg (by omega) (ev_pos (by omega) (ev_of ?_)))
    rw [uvN_small n (by omega), show (n : Int) % 256 = (n : Int) by omega]
  | succ m ih =>
    intro n b h hn hb
    refine Ev.step (fun _ => impl_AppendUvarint.l0.eq_2 ..) ?_
    by_cases h1 : n > 127
    · refine ev_pos (by omega) (ev_pos (by omega) ?_)
      have e := ih (n / 128) (b ++ [((n % 128 + 128 : Nat) : Int)]) (by omega) (by omega) (by rw [List.length_append, List.length_singleton]; omega)
      rw [uv_byte n hn, show (n : Int) / 128 = ((n / 128 : Nat) : Int) by omega, uvN_big n h1]
      rw [List.append_assoc, List.singleton_append] at e
      exact e
    · refine ev_neg (by omega) (ev_pos (by omega) (ev_of ?_))
      rw [uvN_small n (by omega), show (n : Int) % 256 = (n : Int) by omega]
theorem impl_AppendUvarint_ev (b : List Int) (n : Int) (hb : b.length ≤ 1099511627776) : Ev (fun k => impl_AppendUvarint.f k b n) (appendUv b n) := by
  unfold impl_AppendUvarint.f appendUv
  refine ev_bind0 (clone_byte b (by omega)) (ev_bind0 (inRange_val _ _ _) ?_)
  by_cases h : 0 ≤ n ∧ n ≤ 1000000000000
  · rw [if_pos h]
    refine ev_pos (decide_eq_true h) ?_
    have e := impl_AppendUvarint_l0 n.toNat n.toNat b (Nat.le_refl _) (by omega) (by omega)
    rw [Int.toNat_of_nonneg h.1] at e
    exact e
  · rw [if_neg h]
    exact ev_neg (by simp only [decide_eq_true_eq]; exact h) (Ev.now _)
theorem spec_AppendBytes_ev (l m : List Int) (hl : l.length ≤ 1073741824) (hm : m.length ≤ 1073741824) : Ev (fun k => spec_AppendBytes.f k l m) (appendUv l (m.length : Int) ++ m) := by
  have ha := appendUv_len l (m.length : Int)
  unfold spec_AppendBytes.f
  exact Ev.bind (spec_AppendUvarint_ev l _ (by omega)) (ev_pos (by omega) (Ev.now _))
theorem impl_AppendBytes_ev (l m : List Int) (hl : l.length ≤ 1073741824) (hm : m.length ≤ 1073741824) : Ev (fun k => impl_AppendBytes.f k l m) (appendUv l (m.length : Int) ++ m) := by
  have ha := appendUv_len l (m.length : Int)
  unfold impl_AppendBytes.f
  exact Ev.bind (impl_AppendUvarint_ev l _ (by omega)) (ev_pos (by omega) (Ev.now _))
theorem FnExactAppendBytes : ∀ (x0 : List Int) (x1 : List Int), (x0.length ≤ 9223372036854775807 ∧ ∀ y ∈ x0, (Lit.int .u8 y).wf = true) → (x1.length ≤ 9223372036854775807 ∧ ∀ y ∈ x1, (Lit.int .u8 y).wf = true) → ∃ k, laws_FnExactAppendBytes.f k x0 x1 = some true := by
  intro l m hl hm
  obtain ⟨hl, hw⟩ := hl
  obtain ⟨hm, hw2⟩ := hm
  refine Ev.rounds (g := fun k => laws_FnExactAppendBytes.f k l m) ?_
  unfold laws_FnExactAppendBytes.f
  by_cases hb : (l.length : Int) > 1048576
  · exact ev_pos hb (Ev.now true)
  refine ev_neg hb ?_
  by_cases hb2 : (m.length : Int) > 1048576
  · exact ev_pos hb2 (Ev.now true)
  refine ev_neg hb2 ?_
  have ha := appendUv_len l (m.length : Int)
  have hlen : (appendUv l (m.length : Int) ++ m).length ≤ 2097160 := by rw [List.length_append]; omega
  have hi := impl_AppendBytes_ev l m (by omega) (by omega)
  refine Ev.bind (toByteS_ev l (by omega)) (Ev.bind (toByteS_ev m (by omega)) ?_)
  refine Ev.bind (spec_AppendBytes_ev l m (by omega) (by omega)) ?_
  refine Ev.bind (toByteS_ev l (by omega)) (Ev.bind (toByteS_ev m (by omega)) ?_)
  refine Ev.bind hi ?_
  refine Ev.bind (eqByteS_same _ (by omega)) (ev_pos rfl ?_)
  refine Ev.bind (toByteS_ev l (by omega)) ?_
  refine Ev.bind (eqByteS_same l (by omega)) (ev_pos rfl ?_)
  refine Ev.bind (toByteS_ev m (by omega)) ?_
  refine Ev.bind (eqByteS_same m (by omega)) (ev_pos rfl ?_)
  refine Ev.bind (markByteS_ev l 1 (by omega) (by omega)) ?_
  refine Ev.bind (markByteS_ev m _ (by simp only; omega) (by simp only; omega)) (ev_neg (by simp only; omega) ?_)
  refine Ev.bind (eqByteS_same _ (by omega)) ?_
  refine Ev.step (fun _ => laws_FnExactAppendBytes.j0.eq_2 ..) (ev_neg (by decide) ?_)
  refine Ev.bind (markByteS_ev _ 1 (by omega) (by omega)) ?_
  refine Ev.bind (heldByteS_ev 1 _ (by omega) (by omega)) (ev_neg (by omega) (ev_pos rfl ?_))
  refine Ev.bind (toByteS_ev l (by omega)) (Ev.bind (toByteS_ev m (by omega)) ?_)
  refine Ev.bind hi ?_
  refine Ev.bind (eqByteS_same _ (by omega)) (ev_pos rfl ?_)
  exact Ev.bind (heldByteS_ev 1 _ (by omega) (by omega)) (ev_neg (by omega) (ev_pos rfl (Ev.now true)))

end Go.Proofs.Ytgcidlnhgpjdpaa.Pure
