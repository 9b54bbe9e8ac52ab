/- The pure statement behind the law FnByteStrings: over numbers and lists the law answers true, at every input that the row's bounds let in. -/
import Derived.Test.YtgcidlnhgpjdpacQFnByteStringsx3
import Derived.Test.YtgcidlnhgpjdpacQFnByteStringsg
namespace Go.Proofs.Ytgcidlnhgpjdpac.Pure
open Go Go.RowKit Go.Proofs.Ytgcidlnhgpjdpac.QFnByteStrings Go.Proofs.YtgcidlnhgpjdpacW.PrintWords Go.Proofs.YtgcidlnhgpjdpacW.PrintLast Go.Proofs.YtgcidlnhgpjdpacW.PrintMore
set_option linter.unusedVariables false
set_option linter.unusedSimpArgs false
set_option maxRecDepth 100000

theorem w64 {x : Int} (h0 : -9223372036854775808 ≤ x) (h1 : x ≤ 9223372036854775807) : wrap64 x = x := by unfold wrap64; omega
theorem wf8 {x : Int} (h : (Lit.int .u8 x).wf = true) : 0 ≤ x ∧ x ≤ 255 := by
  simp [Lit.wf, IntKind.min, IntKind.max, IntKind.signed, IntKind.bits] at h
  omega
theorem ev_pos {α : Type} {c : Prop} [Decidable c] {g f : Nat → Option α} {r : α} (h : c) (k : Ev g r) : Ev (fun n => if c then g n else f n) r := by
  obtain ⟨K, hK⟩ := k
  exact ⟨K, fun n hn => (if_pos h).trans (hK n hn)⟩
theorem ev_neg {α : Type} {c : Prop} [Decidable c] {g f : Nat → Option α} {r : α} (h : ¬ c) (k : Ev f r) : Ev (fun n => if c then g n else f n) r := by
  obtain ⟨K, hK⟩ := k
  exact ⟨K, fun n hn => (if_neg h).trans (hK n hn)⟩
theorem ev_bind0 {α β : Type} {o : Option α} {f : Nat → α → Option β} {a : α} {r : β} (h : o = some a) (k : Ev (fun n => f n a) r) : Ev (fun n => o.bind (f n)) r := by
  subst h
  exact k
theorem ev_of {α : Type} {o : Option α} {r : α} (h : o = some r) : Ev (fun _ => o) r := ⟨0, fun _ _ => h⟩
theorem rd_at (xs : List Int) (i : Nat) (h : i < xs.length) : rd xs (i : Int) = xs[i] := by
  unfold rd
  rw [Int.toNat_natCast, List.getD_eq_getElem?_getD, List.getElem?_eq_getElem h]
  rfl
theorem inRange_val (a b c : Int) : impl_InRange.f a b c = some (decide (b ≤ a ∧ a ≤ c)) := by
  unfold impl_InRange.f
  by_cases h : b ≤ a
  · rw [if_pos h]; simp [h]
  · rw [if_neg h]; simp [h]
theorem rd_byte (l : List Int) (hw : ∀ x ∈ l, (Lit.int .u8 x).wf = true) (i : Int) : 0 ≤ rd l i ∧ rd l i ≤ 255 := by
  unfold rd
  rw [List.getD_eq_getElem?_getD]
  cases h : l[i.toNat]? with
  | none => simp
  | some x => exact wf8 (hw x (List.mem_of_getElem? h))
theorem bits_or_comm (k : IntKind) (x y : Int) : Go.bits .or k x y = Go.bits .or k y x := by simp only [Go.bits, BitVec.or_comm]
theorem wraps_i64 (n : Int) (h0 : 0 ≤ n) (h1 : n < 2 ^ 63) : IntKind.i64.wrap n = n := by rw [IntKind.wrap_i64]; omega
theorem and127 (c : Int) (h0 : 0 ≤ c) (h1 : c ≤ 9223372036854775807) : Go.bits .and .i64 c 127 = c % 128 := Go.bits_mask .i64 63 (by decide) wraps_i64 7 (by decide) c h0 (by omega)
theorem at_val (a b : Int) : impl_at.f a b = some (decide (0 ≤ a ∧ a < b)) := by
  unfold impl_at.f
  by_cases h : a ≥ 0
  · rw [if_pos h]; simp [h]
  · rw [if_neg h]; simp [h]
def ruvLoop (l : List Int) (off : Int) : Nat → Nat → Int → Int × Int × Bool
  | 0, _, _ => (0, 0, false)
  | d + 1, i, n =>
    if off + (i : Int) ≥ (l.length : Int) then (0, 0, false)
    else if rd l (off + (i : Int)) < 128 then
      (if (0 < i ∧ rd l (off + (i : Int)) = 0) ∨ n + rd l (off + (i : Int)) % 128 * 2 ^ (7 * i) > 1000000000000 then (0, 0, false)
       else (n + rd l (off + (i : Int)) % 128 * 2 ^ (7 * i), off + (i : Int) + 1, true))
    else ruvLoop l off d (i + 1) (n + rd l (off + (i : Int)) % 128 * 2 ^ (7 * i))
def ruv (l : List Int) (off : Int) : Int × Int × Bool := if 0 ≤ off ∧ off < (l.length : Int) then ruvLoop l off 6 0 0 else (0, 0, false)
theorem ruv_out (l : List Int) (off : Int) (d i : Nat) (n : Int) (h1 : off + (i : Int) ≥ (l.length : Int)) : ruvLoop l off (d + 1) i n = (0, 0, false) := by
  rw [ruvLoop, if_pos h1]
theorem ruv_bad (l : List Int) (off : Int) (d i : Nat) (n : Int) (h1 : ¬ off + (i : Int) ≥ (l.length : Int)) (h2 : rd l (off + (i : Int)) < 128) (h3 : (0 < i ∧ rd l (off + (i : Int)) = 0) ∨ n + rd l (off + (i : Int)) % 128 * 2 ^ (7 * i) > 1000000000000) :
    ruvLoop l off (d + 1) i n = (0, 0, false) := by
  rw [ruvLoop, if_neg h1, if_pos h2, if_pos h3]
theorem ruv_ok (l : List Int) (off : Int) (d i : Nat) (n : Int) (h1 : ¬ off + (i : Int) ≥ (l.length : Int)) (h2 : rd l (off + (i : Int)) < 128) (h3 : ¬ ((0 < i ∧ rd l (off + (i : Int)) = 0) ∨ n + rd l (off + (i : Int)) % 128 * 2 ^ (7 * i) > 1000000000000)) :
    ruvLoop l off (d + 1) i n = (n + rd l (off + (i : Int)) % 128 * 2 ^ (7 * i), off + (i : Int) + 1, true) := by
  rw [ruvLoop, if_neg h1, if_pos h2, if_neg h3]
theorem ruv_go (l : List Int) (off : Int) (d i : Nat) (n : Int) (h1 : ¬ off + (i : Int) ≥ (l.length : Int)) (h2 : ¬ rd l (off + (i : Int)) < 128) :
    ruvLoop l off (d + 1) i n = ruvLoop l off d (i + 1) (n + rd l (off + (i : Int)) % 128 * 2 ^ (7 * i)) := by
  rw [ruvLoop, if_neg h1, if_neg h2]
theorem or_step (n c : Int) (i : Nat) (hi : i < 6) (hn0 : 0 ≤ n) (hn1 : n < 2 ^ (7 * i)) (hc0 : 0 ≤ c) (hc1 : c ≤ 255) :
    Go.bits .or .i64 n (shl .i64 (Go.bits .and .i64 (wrap64 c) 127) (wrap64 (7 * (i : Int)))) = n + c % 128 * 2 ^ (7 * i) ∧ n + c % 128 * 2 ^ (7 * i) < 2 ^ (7 * (i + 1)) := by
  have e1 : wrap64 c = c := w64 (by omega) (by omega)
  have e2 : wrap64 (7 * (i : Int)) = 7 * (i : Int) := w64 (by omega) (by omega)
  rw [e1, e2, and127 c hc0 (by omega)]
  have h : i = 0 ∨ i = 1 ∨ i = 2 ∨ i = 3 ∨ i = 4 ∨ i = 5 := by omega
  have key : ∀ (j : Nat) (P : Int), P = 2 ^ j → j ≤ 35 → n < P → shl .i64 (c % 128) (j : Int) = c % 128 * P → Go.bits .or .i64 n (shl .i64 (c % 128) (j : Int)) = n + c % 128 * P := by
    intro j P hP hj hnP hs
    rw [hs, bits_or_comm, Int.add_comm]
    subst hP
    have hle : (2 : Int) ^ j ≤ 2 ^ 35 := by exact_mod_cast Nat.pow_le_pow_right (by decide) hj
    have hpos : (0 : Int) < 2 ^ j := by exact_mod_cast Nat.two_pow_pos j
    have hm : c % 128 * 2 ^ j ≤ 127 * 2 ^ j := Int.mul_le_mul_of_nonneg_right (by omega) (by omega)
    exact Go.bits_join .i64 63 (by decide) wraps_i64 j _ n (Int.mul_nonneg (by omega) (by omega)) (Int.mul_emod_left _ _) (by omega) hn0 hnP (by omega)
  have hs : ∀ (j : Nat) (P : Int), P = 2 ^ j → j ≤ 35 → shl .i64 (c % 128) (j : Int) = c % 128 * P := by
    intro j P hP hj
    unfold shl
    rw [Int.toNat_natCast, show min j IntKind.i64.bits = j from Nat.min_eq_left (by simp [IntKind.bits]; omega)]
    subst hP
    have hle : (2 : Int) ^ j ≤ 2 ^ 35 := by exact_mod_cast Nat.pow_le_pow_right (by decide) hj
    have hpos : (0 : Int) < 2 ^ j := by exact_mod_cast Nat.two_pow_pos j
    have hm : c % 128 * 2 ^ j ≤ 127 * 2 ^ j := Int.mul_le_mul_of_nonneg_right (by omega) (by omega)
    exact wraps_i64 _ (Int.mul_nonneg (by omega) (by omega)) (by omega)
  have e3 : (7 * (i : Int)) = ((7 * i : Nat) : Int) := by omega
  rw [e3]
  refine ⟨key (7 * i) _ rfl (by omega) hn1 (hs (7 * i) _ rfl (by omega)), ?_⟩
  have e4 : (2 : Int) ^ (7 * (i + 1)) = 2 ^ (7 * i) * 128 := by rw [Nat.mul_add, Nat.mul_one, Int.pow_add]; rfl
  have hpos : (0 : Int) < 2 ^ (7 * i) := by exact_mod_cast Nat.two_pow_pos _
  have hm : c % 128 * 2 ^ (7 * i) ≤ 127 * 2 ^ (7 * i) := Int.mul_le_mul_of_nonneg_right (by omega) (by omega)
  rw [e4]
  omega
theorem impl_ReadUvarint_l0 (l : List Int) (hl : l.length ≤ 1099511627776) (hw : ∀ x ∈ l, (Lit.int .u8 x).wf = true) (off : Int) (ho : 0 ≤ off) (ho1 : off < (l.length : Int)) :
    ∀ (d i : Nat) (n : Int), i + d = 6 → 0 ≤ n → n < 2 ^ (7 * i) → Ev (fun k => impl_ReadUvarint.l0 k l off n (i : Int)) (ruvLoop l off d i n) := by
  intro d
  induction d with
  | zero =>
    intro i n hd hn0 hn1
    exact Ev.step (fun _ => impl_ReadUvarint.l0.eq_2 ..) (ev_neg (by omega) (Ev.now _))
  | succ d ih =>
    intro i n hd hn0 hn1
    have hb := rd_byte l hw (off + (i : Int))
    obtain ⟨e1, e2⟩ := or_step n (rd l (off + (i : Int))) i (by omega) hn0 hn1 hb.1 hb.2
    have hpos : (0 : Int) < 2 ^ (7 * i) := by exact_mod_cast Nat.two_pow_pos _
    have hnn : 0 ≤ rd l (off + (i : Int)) % 128 * 2 ^ (7 * i) := Int.mul_nonneg (by omega) (by omega)
    have ew : wrap64 (off + (i : Int)) = off + (i : Int) := w64 (by omega) (by omega)
    refine Ev.step (fun _ => impl_ReadUvarint.l0.eq_2 ..) (ev_pos (by omega) ?_)
    rw [ew, e1]
    by_cases h1 : off + (i : Int) ≥ (l.length : Int)
    · rw [ruv_out l off d i n h1]
      exact ev_pos h1 (Ev.now _)
    have e7 : wrap64 (7 * (i : Int)) = 7 * (i : Int) := w64 (by omega) (by omega)
    have c0 : 0 ≤ off + (i : Int) := by omega
    have c1 : off + (i : Int) < (l.length : Int) := by omega
    have c2 : 0 ≤ wrap64 (7 * (i : Int)) := by rw [e7]; omega
    have e8 : wrap64 (rd l (off + (i : Int))) = rd l (off + (i : Int)) := w64 (by omega) (by omega)
    have e9 : wrap64 (off + (i : Int) + 1) = off + (i : Int) + 1 := w64 (by omega) (by omega)
    refine ev_neg h1 (ev_pos c0 (ev_pos c1 (ev_pos c2 ?_)))
    rw [e8, e9]
    by_cases h2 : rd l (off + (i : Int)) < 128
    · refine ev_pos h2 ?_
      by_cases h3 : 0 < i
      · refine ev_pos (by omega) ?_
        by_cases h4 : rd l (off + (i : Int)) = 0
        · rw [ruv_bad l off d i n h1 h2 (.inl ⟨h3, h4⟩)]
          exact ev_pos h4 (Ev.now _)
        · refine ev_neg h4 ?_
          by_cases h5 : n + rd l (off + (i : Int)) % 128 * 2 ^ (7 * i) > 1000000000000
          · rw [ruv_bad l off d i n h1 h2 (.inr h5)]
            exact ev_pos h5 (Ev.now _)
          · rw [ruv_ok l off d i n h1 h2 (fun h => h.elim (fun h => h4 h.2) h5)]
            exact ev_neg h5 (Ev.now _)
      · refine ev_neg (by omega) ?_
        by_cases h5 : n + rd l (off + (i : Int)) % 128 * 2 ^ (7 * i) > 1000000000000
        · rw [ruv_bad l off d i n h1 h2 (.inr h5)]
          exact ev_pos h5 (Ev.now _)
        · rw [ruv_ok l off d i n h1 h2 (fun h => h.elim (fun h => h3 h.1) h5)]
          exact ev_neg h5 (Ev.now _)
    · rw [ruv_go l off d i n h1 h2]
      refine ev_neg h2 ?_
      rw [w64 (by omega) (by omega)]
      exact ih (i + 1) _ (by omega) (by omega) e2
theorem impl_ReadUvarint_ev (l : List Int) (hl : l.length ≤ 1099511627776) (hw : ∀ x ∈ l, (Lit.int .u8 x).wf = true) (off : Int) : Ev (fun k => impl_ReadUvarint.f k l off) (ruv l off) := by
  unfold impl_ReadUvarint.f ruv
  refine ev_bind0 (at_val _ _) ?_
  by_cases h : 0 ≤ off ∧ off < (l.length : Int)
  · rw [if_pos h]
    refine ev_pos (by simp [h]) ?_
    exact impl_ReadUvarint_l0 l hl hw off h.1 h.2 6 0 0 (by omega) (by omega) (by decide)
  · rw [if_neg h]
    exact ev_neg (by simp only [h, decide_false, Bool.false_eq_true, not_false_eq_true]) (Ev.now _)
theorem wf8_mk {x : Int} (h0 : 0 ≤ x) (h1 : x ≤ 255) : (Lit.int .u8 x).wf = true := by
  simp [Lit.wf, IntKind.min, IntKind.max, IntKind.signed, IntKind.bits]
  omega
def uvN (n : Nat) : List Int := if n > 127 then (((n % 128 + 128 : Nat)) : Int) :: uvN (n / 128) else [(n : Int)]
theorem uvN_small (n : Nat) (h : n ≤ 127) : uvN n = [(n : Int)] := by rw [uvN, if_neg (by omega)]
theorem uvN_big (n : Nat) (h : n > 127) : uvN n = (((n % 128 + 128 : Nat)) : Int) :: uvN (n / 128) := by rw [uvN, if_pos h]
theorem uvN_len : ∀ (k n : Nat), n < 128 ^ (k + 1) → (uvN n).length ≤ k + 1 := by
  intro k
  induction k with
  | zero =>
    intro n h
    rw [uvN_small n (by omega)]
    simp
  | succ k ih =>
    intro n h
    by_cases hn : n > 127
    · have e : 128 ^ (k + 1 + 1) = 128 ^ (k + 1) * 128 := Nat.pow_succ ..
      have := ih (n / 128) (by rw [Nat.div_lt_iff_lt_mul (by decide)]; omega)
      rw [uvN_big n hn, List.length_cons]
      omega
    · rw [uvN_small n (by omega)]
      simp
theorem uvN_len6 (n : Nat) (h : n ≤ 1000000000000) : (uvN n).length ≤ 6 := uvN_len 5 n (by omega)
theorem uvN_pos (n : Nat) : 0 < (uvN n).length := by
  rw [uvN]
  split <;> simp
theorem uvN_byte : ∀ (m n : Nat), n ≤ m → ∀ x ∈ uvN n, 0 ≤ x ∧ x ≤ 255 := by
  intro m
  induction m with
  | zero =>
    intro n h x hx
    rw [uvN_small n (by omega)] at hx
    have := List.mem_singleton.1 hx
    omega
  | succ m ih =>
    intro n h x hx
    by_cases hn : n > 127
    · rw [uvN_big n hn] at hx
      rcases List.mem_cons.1 hx with rfl | hx
      · omega
      · exact ih (n / 128) (by omega) x hx
    · rw [uvN_small n (by omega)] at hx
      have := List.mem_singleton.1 hx
      omega
def appendUv (b : List Int) (n : Int) : List Int := if 0 ≤ n ∧ n ≤ 1000000000000 then b ++ uvN n.toNat else b
theorem appendUv_len (b : List Int) (n : Int) : b.length ≤ (appendUv b n).length ∧ (appendUv b n).length ≤ b.length + 6 := by
  unfold appendUv
  split
  · have := uvN_len6 n.toNat (by omega)
    rw [List.length_append]
    omega
  · omega
theorem uv_byte (n : Nat) (h : n ≤ 1000000000000) : (Go.bits .or .i64 (Go.bits .and .i64 (n : Int) 127) 128) % 256 = ((n % 128 + 128 : Nat) : Int) := by
  rw [and127 (n : Int) (by omega) (by omega), bits_or_comm]
  have e : Go.bits .or .i64 128 ((n : Int) % 128) = 128 + (n : Int) % 128 := Go.bits_join .i64 63 (by decide) wraps_i64 7 128 _ (by decide) (by decide) (by decide) (by omega) (by omega) (by omega)
  rw [e]
  omega
theorem clone_byte (b : List Int) (hb : b.length ≤ 100000000000000) : slices_Clone_byte_byte.f b = some b := by
  unfold slices_Clone_byte_byte.f
  rw [Option.bind_some, if_pos (by simp only [List.length_nil]; omega), List.nil_append]
theorem impl_AppendUvarint_l0 : ∀ (m n : Nat) (b : List Int), n ≤ m → n ≤ 1000000000000 → b.length + n ≤ 100000000000000 → Ev (fun k => impl_AppendUvarint.l0 k (n : Int) b) (b ++ uvN n) := by
  intro m
  induction m with
  | zero =>
    intro n b h hn hb
    refine Ev.step (fun _ => impl_AppendUvarint.l0.eq_2 ..) (ev_neg (by omega) (ev_pos (by omega) (ev_of ?_)))
    rw [uvN_small n (by omega), show (n : Int) % 256 = (n : Int) by omega]
  | succ m ih =>
    intro n b h hn hb
    refine Ev.step (fun _ => impl_AppendUvarint.l0.eq_2 ..) ?_
    by_cases h1 : n > 127
    · refine ev_pos (by omega) (ev_pos (by omega) ?_)
      have e := ih (n / 128) (b ++ [((n % 128 + 128 : Nat) : Int)]) (by omega) (by omega) (by rw [List.length_append, List.length_singleton]; omega)
      rw [uv_byte n hn, show (n : Int) / 128 = ((n / 128 : Nat) : Int) by omega, uvN_big n h1]
      rw [List.append_assoc, List.singleton_append] at e
      exact e
    · refine ev_neg (by omega) (ev_pos (by omega) (ev_of ?_))
      rw [uvN_small n (by omega), show (n : Int) % 256 = (n : Int) by omega]
theorem impl_AppendUvarint_ev (b : List Int) (n : Int) (hb : b.length ≤ 1099511627776) : Ev (fun k => impl_AppendUvarint.f k b n) (appendUv b n) := by
  unfold impl_AppendUvarint.f appendUv
  refine ev_bind0 (clone_byte b (by omega)) (ev_bind0 (inRange_val _ _ _) ?_)
  by_cases h : 0 ≤ n ∧ n ≤ 1000000000000
  · rw [if_pos h]
    refine ev_pos (decide_eq_true h) ?_
    have e := impl_AppendUvarint_l0 n.toNat n.toNat b (Nat.le_refl _) (by omega) (by omega)
    rw [Int.toNat_of_nonneg h.1] at e
    exact e
  · rw [if_neg h]
    exact ev_neg (by simp only [decide_eq_true_eq]; exact h) (Ev.now _)
theorem ruvLoop_inv (l : List Int) (off : Int) (ho : 0 ≤ off) (hw : ∀ x ∈ l, (Lit.int .u8 x).wf = true) : ∀ (d i : Nat) (acc m after : Int), i + d = 6 → ruvLoop l off d i acc = (m, after, true) →
    ∃ q : Nat, m = acc + (q : Int) * 2 ^ (7 * i) ∧ (0 < i → 0 < q) ∧ after = off + (i : Int) + ((uvN q).length : Int) ∧ after ≤ (l.length : Int) ∧ (l.drop (off.toNat + i)).take (uvN q).length = uvN q ∧ m ≤ 1000000000000 := by
  intro d
  induction d with
  | zero =>
    intro i acc m after hd h
    simp [ruvLoop] at h
  | succ d ih =>
    intro i acc m after hd h
    have hb := rd_byte l hw (off + (i : Int))
    by_cases h1 : off + (i : Int) ≥ (l.length : Int)
    · rw [ruv_out l off d i acc h1] at h
      simp at h
    have hlt : off.toNat + i < l.length := by omega
    have hrd : rd l (off + (i : Int)) = l[off.toNat + i]'hlt := by
      rw [show off + (i : Int) = ((off.toNat + i : Nat) : Int) by omega, rd_at l _ hlt]
    obtain ⟨c, hc⟩ : ∃ c : Nat, rd l (off + (i : Int)) = (c : Int) := ⟨(rd l (off + (i : Int))).toNat, by omega⟩
    by_cases h2 : rd l (off + (i : Int)) < 128
    · by_cases h3 : (0 < i ∧ rd l (off + (i : Int)) = 0) ∨ acc + rd l (off + (i : Int)) % 128 * 2 ^ (7 * i) > 1000000000000
      · rw [ruv_bad l off d i acc h1 h2 h3] at h
        simp at h
      · rw [ruv_ok l off d i acc h1 h2 h3] at h
        simp only [Prod.mk.injEq, and_true] at h
        obtain ⟨hm, ha⟩ := h
        have h31 : ¬ (0 < i ∧ rd l (off + (i : Int)) = 0) := fun hh => h3 (.inl hh)
        have h32 : ¬ acc + rd l (off + (i : Int)) % 128 * 2 ^ (7 * i) > 1000000000000 := fun hh => h3 (.inr hh)
        have e : rd l (off + (i : Int)) % 128 = (c : Int) := by omega
        rw [e] at hm h32
        have hu : uvN c = [(c : Int)] := uvN_small c (by omega)
        refine ⟨c, hm.symm, fun hi => by omega, ?_, ?_, ?_, by omega⟩
        · rw [hu, ← ha]; simp only [List.length_singleton]; omega
        · omega
        · rw [hu, List.drop_eq_getElem_cons hlt, List.length_singleton, List.take_succ_cons, List.take_zero, ← hrd, hc]
    · rw [ruv_go l off d i acc h1 h2] at h
      obtain ⟨q, hm, hq, ha, hle, ht, h12⟩ := ih (i + 1) _ m after (by omega) h
      have hq' := hq (by omega)
      have hP : (2 : Int) ^ (7 * (i + 1)) = 2 ^ (7 * i) * 128 := by rw [Nat.mul_add, Nat.mul_one, Int.pow_add]; rfl
      have e : rd l (off + (i : Int)) % 128 = ((c % 128 : Nat) : Int) := by omega
      have hbig : c % 128 + 128 * q > 127 := by omega
      have hd1 : (c % 128 + 128 * q) % 128 = c % 128 := by omega
      have hd2 : (c % 128 + 128 * q) / 128 = q := by omega
      have hu : uvN (c % 128 + 128 * q) = (c : Int) :: uvN q := by
        rw [uvN_big _ hbig, hd1, hd2, show c % 128 + 128 = c by omega]
      refine ⟨c % 128 + 128 * q, ?_, fun _ => by omega, ?_, hle, ?_, h12⟩
      · rw [hm, hP, e]
        have e2 : ((c % 128 + 128 * q : Nat) : Int) = ((c % 128 : Nat) : Int) + 128 * (q : Int) := by omega
        rw [e2, Int.add_mul, Int.mul_comm (2 ^ (7 * i)) 128, ← Int.mul_assoc, Int.mul_comm (q : Int) 128, Int.add_assoc]
      · rw [ha, hu, List.length_cons]
        omega
      · rw [hu, List.drop_eq_getElem_cons hlt, List.length_cons, List.take_succ_cons, ← hrd, hc]
        rw [show off.toNat + i + 1 = off.toNat + (i + 1) by omega, ht]
theorem ruv_inv (l : List Int) (off m after : Int) (hw : ∀ x ∈ l, (Lit.int .u8 x).wf = true) (h : ruv l off = (m, after, true)) :
    0 ≤ off ∧ off < (l.length : Int) ∧ ∃ q : Nat, m = (q : Int) ∧ q ≤ 1000000000000 ∧ after = off + ((uvN q).length : Int) ∧ after ≤ (l.length : Int) ∧ (l.drop off.toNat).take (uvN q).length = uvN q := by
  unfold ruv at h
  by_cases hc : 0 ≤ off ∧ off < (l.length : Int)
  · rw [if_pos hc] at h
    obtain ⟨q, hm, _, ha, hle, ht, h12⟩ := ruvLoop_inv l off hc.1 hw 6 0 0 m after rfl h
    have e0 : (2 : Int) ^ (7 * 0) = 1 := rfl
    rw [e0, Int.mul_one, Int.zero_add] at hm
    exact ⟨hc.1, hc.2, q, hm, by omega, by rw [ha]; simp, hle, ht⟩
  · rw [if_neg hc] at h
    simp at h
theorem ruvLoop_enc (l : List Int) (off : Int) (ho : 0 ≤ off) : ∀ (d i m : Nat) (acc : Int) (rest : List Int), i + d = 6 → (uvN m).length ≤ d → l.drop (off.toNat + i) = uvN m ++ rest → (0 < i → 0 < m) → acc + (m : Int) * 2 ^ (7 * i) ≤ 1000000000000 →
    ruvLoop l off d i acc = (acc + (m : Int) * 2 ^ (7 * i), off + (i : Int) + ((uvN m).length : Int), true) := by
  intro d
  induction d with
  | zero =>
    intro i m acc rest hd hl hdr hi hacc
    have := uvN_pos m
    omega
  | succ d ih =>
    intro i m acc rest hd hl hdr hi hacc
    have hne : 0 < (l.drop (off.toNat + i)).length := by rw [hdr, List.length_append]; have := uvN_pos m; omega
    have hlt : off.toNat + i < l.length := by rw [List.length_drop] at hne; omega
    have h1 : ¬ off + (i : Int) ≥ (l.length : Int) := by omega
    have hrd : rd l (off + (i : Int)) = l[off.toNat + i]'hlt := by
      rw [show off + (i : Int) = ((off.toNat + i : Nat) : Int) by omega, rd_at l _ hlt]
    rw [List.drop_eq_getElem_cons hlt] at hdr
    by_cases hm : m > 127
    · rw [uvN_big m hm, List.cons_append, List.cons.injEq] at hdr
      obtain ⟨h2, h3⟩ := hdr
      rw [h2] at hrd
      have e : rd l (off + (i : Int)) % 128 = ((m % 128 : Nat) : Int) := by omega
      have hP : (2 : Int) ^ (7 * (i + 1)) = 2 ^ (7 * i) * 128 := by rw [Nat.mul_add, Nat.mul_one, Int.pow_add]; rfl
      have hsum : acc + ((m % 128 : Nat) : Int) * 2 ^ (7 * i) + ((m / 128 : Nat) : Int) * 2 ^ (7 * (i + 1)) = acc + (m : Int) * 2 ^ (7 * i) := by
        rw [hP, Int.mul_comm (2 ^ (7 * i)) 128, ← Int.mul_assoc, Int.add_assoc, ← Int.add_mul]
        rw [show ((m % 128 : Nat) : Int) + ((m / 128 : Nat) : Int) * 128 = (m : Int) by omega]
      rw [ruv_go l off d i acc h1 (by omega), e]
      have hu : (uvN m).length = (uvN (m / 128)).length + 1 := by rw [uvN_big m hm, List.length_cons]
      rw [ih (i + 1) (m / 128) _ rest (by omega) (by omega) (by rw [← h3]; rfl) (fun _ => by omega) (by rw [hsum]; exact hacc), hsum, hu]
      simp only [Prod.mk.injEq, and_true, true_and]
      omega
    · rw [uvN_small m (by omega), List.singleton_append, List.cons.injEq] at hdr
      rw [hdr.1] at hrd
      have e : rd l (off + (i : Int)) % 128 = (m : Int) := by omega
      rw [ruv_ok l off d i acc h1 (by omega) (by rw [e]; intro hh; rcases hh with hh | hh; (· have := hi hh.1; omega); (· omega)), e, uvN_small m (by omega)]
      rfl
theorem ruv_enc (b rest : List Int) (m : Nat) (hm : m ≤ 1000000000000) : ruv (b ++ (uvN m ++ rest)) (b.length : Int) = ((m : Int), (b.length : Int) + ((uvN m).length : Int), true) := by
  have hpos := uvN_pos m
  unfold ruv
  rw [if_pos (by rw [List.length_append, List.length_append]; omega)]
  have e0 : (2 : Int) ^ (7 * 0) = 1 := rfl
  have h := ruvLoop_enc (b ++ (uvN m ++ rest)) (b.length : Int) (by omega) 6 0 m 0 rest rfl (uvN_len6 m hm) (by rw [Int.toNat_natCast, Nat.add_zero, List.drop_left]) (fun h => by omega) (by rw [e0]; omega)
  rw [e0, Int.mul_one, Int.zero_add] at h
  rw [h]
  simp
def rdb (l : List Int) (off most : Int) : List Int × Int × Bool :=
  if (ruv l off).2.2 = true ∧ (ruv l off).1 ≤ most ∧ (ruv l off).1 ≤ (l.length : Int) - (ruv l off).2.1 then
    ((l.take ((ruv l off).2.1 + (ruv l off).1).toNat).drop (ruv l off).2.1.toNat, (ruv l off).2.1 + (ruv l off).1, true) else ([], 0, false)
theorem rdb_no (l : List Int) (off most : Int) (h : ¬ ((ruv l off).2.2 = true ∧ (ruv l off).1 ≤ most ∧ (ruv l off).1 ≤ (l.length : Int) - (ruv l off).2.1)) : rdb l off most = ([], 0, false) := by
  unfold rdb
  rw [if_neg h]
theorem rdb_yes (l : List Int) (off most : Int) (h : (ruv l off).2.2 = true ∧ (ruv l off).1 ≤ most ∧ (ruv l off).1 ≤ (l.length : Int) - (ruv l off).2.1) :
    rdb l off most = ((l.take ((ruv l off).2.1 + (ruv l off).1).toNat).drop (ruv l off).2.1.toNat, (ruv l off).2.1 + (ruv l off).1, true) := by
  unfold rdb
  rw [if_pos h]
theorem impl_ReadBytes_ev (l : List Int) (hl : l.length ≤ 1099511627776) (hw : ∀ x ∈ l, (Lit.int .u8 x).wf = true) (off most : Int) : Ev (fun k => impl_ReadBytes.f k l off most) (rdb l off most) := by
  unfold impl_ReadBytes.f
  refine Ev.bind (impl_ReadUvarint_ev l hl hw off) ?_
  by_cases hk : (ruv l off).2.2 = true
  · obtain ⟨m, after, e⟩ : ∃ m after, ruv l off = (m, after, true) := ⟨(ruv l off).1, (ruv l off).2.1, by rw [← hk]⟩
    obtain ⟨h0, h1, q, hm, hq, ha, hle, _⟩ := ruv_inv l off m after hw e
    have ew : wrap64 ((l.length : Int) - after) = (l.length : Int) - after := w64 (by omega) (by omega)
    have ew2 : wrap64 (after + m) = after + m := w64 (by omega) (by omega)
    by_cases c1 : m > most
    · rw [rdb_no l off most (by rw [e]; intro h; have : m ≤ most := h.2.1; omega), e]
      refine ev_pos rfl ?_
      simp only [ew, ew2]
      exact ev_pos c1 (Ev.now _)
    by_cases c2 : m > (l.length : Int) - after
    · rw [rdb_no l off most (by rw [e]; intro h; have : m ≤ (l.length : Int) - after := h.2.2; omega), e]
      refine ev_pos rfl ?_
      simp only [ew, ew2]
      exact ev_neg c1 (ev_pos c2 (Ev.now _))
    rw [rdb_yes l off most (by rw [e]; exact ⟨rfl, show m ≤ most by omega, show m ≤ (l.length : Int) - after by omega⟩), e]
    refine ev_pos rfl ?_
    simp only [ew, ew2]
    refine ev_neg c1 (ev_neg c2 (ev_pos (by omega) (ev_pos (by omega) (ev_pos (by omega) (ev_bind0 (clone_byte _ ?_) (Ev.now _))))))
    simp only [List.length_drop, List.length_take]
    omega
  · rw [rdb_no l off most (fun h => hk h.1)]
    exact ev_neg hk (Ev.now _)
def encInts (l : List Int) (b : List Int) : List Int := l.foldl appendUv b
theorem encInts_len : ∀ (l b : List Int), (encInts l b).length ≤ b.length + 6 * l.length
  | [], b => by simp [encInts]
  | n :: l, b => by
    have h1 := appendUv_len b n
    have h2 := encInts_len l (appendUv b n)
    unfold encInts at h2 ⊢
    rw [List.foldl_cons, List.length_cons]
    omega
theorem impl_EncodeInts_l0 (xs : List Int) (hn : xs.length ≤ 1073741824) : ∀ (d i : Nat) (b : List Int), i + d = xs.length → b.length ≤ 6 * i → Ev (fun k => impl_EncodeInts.l0 k b xs (xs.length : Int) (i : Int)) (encInts (xs.drop i) b) := by
  intro d
  induction d with
  | zero =>
    intro i b hd hb
    refine Ev.step (fun _ => impl_EncodeInts.l0.eq_2 ..) (ev_neg (by omega) (ev_of ?_))
    rw [List.drop_eq_nil_of_le (by omega)]
    rfl
  | succ d ih =>
    intro i b hd hb
    have hlt : i < xs.length := by omega
    refine Ev.step (fun _ => impl_EncodeInts.l0.eq_2 ..) (ev_pos (by omega) (ev_pos (by omega) (ev_pos (by omega) (Ev.bind (impl_AppendUvarint_ev b _ (by omega)) ?_))))
    have ha := appendUv_len b (xs[i]'hlt)
    rw [rd_at xs i hlt, List.drop_eq_getElem_cons hlt, w64 (x := (i : Int) + 1) (by omega) (by omega)]
    exact ih (i + 1) _ (by omega) (by omega)
theorem impl_EncodeInts_ev (xs : List Int) (hn : xs.length ≤ 1073741824) : Ev (fun k => impl_EncodeInts.f k xs) (encInts xs []) := by
  unfold impl_EncodeInts.f
  exact impl_EncodeInts_l0 xs hn xs.length 0 [] (by omega) (by simp)
def decLoop (l : List Int) : Nat → Int → List Int → List Int × Int × Bool
  | 0, off, out => (out, off, true)
  | d + 1, off, out => if (ruv l off).2.2 = true then decLoop l d (ruv l off).2.1 (out ++ [(ruv l off).1]) else ([], 0, false)
def decInts (l : List Int) (off n : Int) : List Int × Int × Bool := if (0 ≤ n ∧ n ≤ 100) ∧ 0 ≤ off ∧ off ≤ (l.length : Int) then decLoop l n.toNat off [] else ([], 0, false)
theorem decLoop_yes (l : List Int) (d : Nat) (off : Int) (out : List Int) (h : (ruv l off).2.2 = true) : decLoop l (d + 1) off out = decLoop l d (ruv l off).2.1 (out ++ [(ruv l off).1]) := by rw [decLoop, if_pos h]
theorem decLoop_no (l : List Int) (d : Nat) (off : Int) (out : List Int) (h : ¬ (ruv l off).2.2 = true) : decLoop l (d + 1) off out = ([], 0, false) := by rw [decLoop, if_neg h]
theorem decInts_yes (l : List Int) (off n : Int) (h : (0 ≤ n ∧ n ≤ 100) ∧ 0 ≤ off ∧ off ≤ (l.length : Int)) : decInts l off n = decLoop l n.toNat off [] := by unfold decInts; rw [if_pos h]
theorem decInts_no (l : List Int) (off n : Int) (h : ¬ ((0 ≤ n ∧ n ≤ 100) ∧ 0 ≤ off ∧ off ≤ (l.length : Int))) : decInts l off n = ([], 0, false) := by unfold decInts; rw [if_neg h]
theorem impl_DecodeInts_l0 (l : List Int) (hl : l.length ≤ 1099511627776) (hw : ∀ x ∈ l, (Lit.int .u8 x).wf = true) (n : Nat) (hn : n ≤ 100) : ∀ (d i : Nat) (off : Int) (out : List Int), i + d = n → out.length = i → Ev (fun k => impl_DecodeInts.l0 k l off out (n : Int) (i : Int)) (decLoop l d off out) := by
  intro d
  induction d with
  | zero =>
    intro i off out hd ho
    exact Ev.step (fun _ => impl_DecodeInts.l0.eq_2 ..) (ev_neg (by omega) (Ev.now _))
  | succ d ih =>
    intro i off out hd ho
    refine Ev.step (fun _ => impl_DecodeInts.l0.eq_2 ..) (ev_pos (by omega) (Ev.bind (impl_ReadUvarint_ev l hl hw off) ?_))
    by_cases h : (ruv l off).2.2 = true
    · rw [decLoop_yes l d off out h]
      refine ev_pos h (ev_pos (by omega) ?_)
      rw [w64 (x := (i : Int) + 1) (by omega) (by omega)]
      exact ih (i + 1) _ _ (by omega) (by rw [List.length_append, List.length_singleton]; omega)
    · rw [decLoop_no l d off out h]
      exact ev_neg h (Ev.now _)
theorem impl_DecodeInts_ev (l : List Int) (hl : l.length ≤ 1099511627776) (hw : ∀ x ∈ l, (Lit.int .u8 x).wf = true) (off n : Int) : Ev (fun k => impl_DecodeInts.f k l off n) (decInts l off n) := by
  unfold impl_DecodeInts.f
  refine ev_bind0 (inRange_val _ _ _) ?_
  by_cases h : 0 ≤ n ∧ n ≤ 100
  · refine ev_pos (decide_eq_true h) (ev_bind0 (inRange_val _ _ _) (Ev.step (fun _ => impl_DecodeInts.j0.eq_2 ..) ?_))
    by_cases h2 : 0 ≤ off ∧ off ≤ (l.length : Int)
    · rw [decInts_yes l off n ⟨h, h2⟩]
      refine ev_neg (by rw [decide_eq_true h2]; decide) ?_
      have e := impl_DecodeInts_l0 l hl hw n.toNat (by omega) n.toNat 0 off [] (by omega) rfl
      rw [Int.toNat_of_nonneg h.1] at e
      exact e
    · rw [decInts_no l off n (fun hh => h2 hh.2)]
      exact ev_pos (by rw [decide_eq_false h2]; rfl) (Ev.now _)
  · rw [decInts_no l off n (fun hh => h hh.1)]
    exact ev_neg (by simp only [decide_eq_true_eq]; exact h) (Ev.step (fun _ => impl_DecodeInts.j0.eq_2 ..) (ev_pos rfl (Ev.now _)))
theorem impl_AppendBytes_ev (l m : List Int) (hl : l.length ≤ 1073741824) (hm : m.length ≤ 1073741824) : Ev (fun k => impl_AppendBytes.f k l m) (appendUv l (m.length : Int) ++ m) := by
  have ha := appendUv_len l (m.length : Int)
  unfold impl_AppendBytes.f
  exact Ev.bind (impl_AppendUvarint_ev l _ (by omega)) (ev_pos (by omega) (Ev.now _))
theorem big_val (l : List Int) : laws_big.f l = some (decide ((l.length : Int) > 1048576)) := rfl
theorem l1New_l0 (l : List Int) (hl : l.length ≤ 1099511627776) : ∀ (d i : Nat) (h : Int), i + d = l.length → ∃ h', Ev (fun k => spec_l1New.l0 k l h (i : Int)) (l, 0, h') := by
  intro d
  induction d with
  | zero =>
    intro i h hd
    exact ⟨h, Ev.step (fun _ => spec_l1New.l0.eq_2 ..) (ev_neg (by omega) (Ev.now _))⟩
  | succ d ih =>
    intro i h hd
    by_cases h4 : (i : Int) < 4000
    · obtain ⟨h', e⟩ := ih (i + 1) _ (by omega)
      refine ⟨h', Ev.step (fun _ => spec_l1New.l0.eq_2 ..) (ev_pos (by omega) (ev_pos h4 (ev_pos (by omega) ?_)))⟩
      rw [w64 (x := (i : Int) + 1) (by omega) (by omega)]
      exact e
    · exact ⟨h, Ev.step (fun _ => spec_l1New.l0.eq_2 ..) (ev_pos (by omega) (ev_neg h4 (Ev.now _)))⟩
theorem l1New_ev (l : List Int) (hl : l.length ≤ 1099511627776) : ∃ h, Ev (fun k => spec_l1New.f k l) (l, 0, h) := by
  unfold spec_l1New.f
  exact l1New_l0 l hl l.length 0 _ (by omega)
theorem and255 (y : Int) : 0 ≤ Go.bits .and .i64 y 255 ∧ Go.bits .and .i64 y 255 ≤ 255 := by
  have h : (BitVec.ofInt 64 y &&& BitVec.ofInt 64 255).toNat ≤ 255 := by
    rw [BitVec.toNat_and]
    exact Nat.le_trans Nat.and_le_right (by decide)
  have e : Go.bits .and .i64 y 255 = IntKind.i64.wrap ((BitVec.ofInt 64 y &&& BitVec.ofInt 64 255).toNat : Int) := rfl
  rw [e, IntKind.wrap_i64]
  omega
theorem l1Byte_some (b : List Int) (hb : b.length ≤ 1099511627776) (i h : Int) (h0 : 0 ≤ i) (h1 : i ≤ 1099511627776) : ∃ x i' h', spec_l1Byte.f b i h = some (x, i', h') ∧ 0 ≤ x ∧ x ≤ 255 ∧ 0 ≤ i' ∧ i' ≤ 1099511627776 := by
  unfold spec_l1Byte.f
  by_cases c : i < (b.length : Int)
  · rw [if_pos c, if_pos h0, w64 (x := i + 1) (by omega) (by omega)]
    exact ⟨_, _, _, rfl, (and255 _).1, (and255 _).2, by omega, by omega⟩
  · rw [if_neg c]
    exact ⟨_, _, _, rfl, (and255 _).1, (and255 _).2, h0, h1⟩
theorem l1Below_some (b : List Int) (hb : b.length ≤ 1099511627776) (i h n : Int) (h0 : 0 ≤ i) (h1 : i ≤ 1099511627776) : ∃ x i' h', spec_l1Below.f b i h n = some (x, i', h') ∧ 0 ≤ x ∧ (0 < n → x < n) ∧ (n ≤ 0 → x = 0) ∧ 0 ≤ i' ∧ i' ≤ 1099511627776 := by
  unfold spec_l1Below.f
  by_cases c : n ≤ 0
  · rw [if_pos c]
    exact ⟨_, _, _, rfl, by omega, fun h => by omega, fun _ => rfl, h0, h1⟩
  rw [if_neg c]
  by_cases c2 : n ≤ 256
  · rw [if_pos c2]
    obtain ⟨x, i', h', e, hx0, hx1, hi0, hi1⟩ := l1Byte_some b hb i h h0 h1
    rw [e, Option.bind_some, if_neg (by omega)]
    refine ⟨_, _, _, rfl, ?_, fun _ => ?_, fun h => by omega, hi0, hi1⟩
    · rw [Int.tmod_eq_emod_of_nonneg hx0]; exact Int.emod_nonneg _ (by omega)
    · rw [Int.tmod_eq_emod_of_nonneg hx0]; exact Int.emod_lt_of_pos _ (by omega)
  · rw [if_neg c2]
    obtain ⟨x, i', h', e, hx0, hx1, hi0, hi1⟩ := l1Byte_some b hb i h h0 h1
    rw [e, Option.bind_some]
    obtain ⟨y, i2, h2, e2, hy0, hy1, hi20, hi21⟩ := l1Byte_some b hb i' h' hi0 hi1
    rw [e2, Option.bind_some]
    obtain ⟨z, i3, h3, e3, hz0, hz1, hi30, hi31⟩ := l1Byte_some b hb i2 h2 hi20 hi21
    rw [e3, Option.bind_some, if_neg (by omega)]
    have ew : wrap64 ((wrap64 ((wrap64 (x * 65536)) + (wrap64 (y * 256)))) + z) = x * 65536 + y * 256 + z := by
      rw [w64 (x := x * 65536) (by omega) (by omega), w64 (x := y * 256) (by omega) (by omega), w64 (x := x * 65536 + y * 256) (by omega) (by omega), w64 (by omega) (by omega)]
    refine ⟨_, _, _, rfl, ?_, fun _ => ?_, fun h => by omega, hi30, hi31⟩
    · rw [ew, Int.tmod_eq_emod_of_nonneg (by omega)]; exact Int.emod_nonneg _ (by omega)
    · rw [ew, Int.tmod_eq_emod_of_nonneg (by omega)]; exact Int.emod_lt_of_pos _ (by omega)
theorem l1Bytes_l0 (b : List Int) (hb : b.length ≤ 1099511627776) (n : Nat) (hn : n ≤ 1099511627776) : ∀ (d j : Nat) (out : List Int) (i h : Int), j + d = n → out.length = j → (∀ x ∈ out, (Lit.int .u8 x).wf = true) → 0 ≤ i → i ≤ 1099511627776 →
    ∃ (r : List Int) (i' h' : Int), Ev (fun k => spec_l1Bytes.l0 k (n : Int) out (j : Int) b i h) (r, i', h') ∧ r.length = n ∧ (∀ x ∈ r, (Lit.int .u8 x).wf = true) ∧ 0 ≤ i' ∧ i' ≤ 1099511627776 := by
  intro d
  induction d with
  | zero =>
    intro j out i h hd ho hw h0 h1
    exact ⟨out, i, h, Ev.step (fun _ => spec_l1Bytes.l0.eq_2 ..) (ev_neg (by omega) (Ev.now _)), by omega, hw, h0, h1⟩
  | succ d ih =>
    intro j out i h hd ho hw h0 h1
    obtain ⟨x, i', h', e, hx0, hx1, hi0, hi1⟩ := l1Byte_some b hb i h h0 h1
    obtain ⟨r, i2, h2, er, hr, hrw, hi20, hi21⟩ := ih (j + 1) (out ++ [x % 256]) i' h' (by omega) (by rw [List.length_append, List.length_singleton]; omega) (fun y hy => by
      rcases List.mem_append.1 hy with hy | hy
      · exact hw y hy
      · have := List.mem_singleton.1 hy
        exact wf8_mk (by omega) (by omega)) hi0 hi1
    refine ⟨r, i2, h2, Ev.step (fun _ => spec_l1Bytes.l0.eq_2 ..) (ev_pos (by omega) (ev_bind0 e (ev_pos (by omega) ?_))), hr, hrw, hi20, hi21⟩
    rw [w64 (x := (j : Int) + 1) (by omega) (by omega)]
    exact er
theorem l1Bytes_ev (b : List Int) (hb : b.length ≤ 1099511627776) (i h n : Int) (hn0 : 0 ≤ n) (hn : n ≤ 1099511627776) (h0 : 0 ≤ i) (h1 : i ≤ 1099511627776) :
    ∃ (r : List Int) (i' h' : Int), Ev (fun k => spec_l1Bytes.f k b i h n) (r, i', h') ∧ (r.length : Int) = n ∧ (∀ x ∈ r, (Lit.int .u8 x).wf = true) ∧ 0 ≤ i' ∧ i' ≤ 1099511627776 := by
  obtain ⟨r, i', h', e, hr, hw, hi0, hi1⟩ := l1Bytes_l0 b hb n.toNat (by omega) n.toNat 0 [] i h (by omega) rfl (fun x hx => by simp at hx) h0 h1
  rw [Int.toNat_of_nonneg hn0] at e
  exact ⟨r, i', h', e, by omega, hw, hi0, hi1⟩
theorem sameBytes_l0 (xs : List Int) (hn : xs.length ≤ 9223372036854775807) : ∀ (d i : Nat), i + d = xs.length → Ev (fun k => laws_sameBytes.l0 k xs xs (i : Int)) true := by
  intro d
  induction d with
  | zero =>
    intro i hd
    exact Ev.step (fun _ => laws_sameBytes.l0.eq_2 ..) (ev_neg (by omega) (Ev.now true))
  | succ d ih =>
    intro i hd
    refine Ev.step (fun _ => laws_sameBytes.l0.eq_2 ..) (ev_pos (by omega) (ev_pos (by omega) (ev_pos (by omega) (ev_pos rfl ?_))))
    rw [w64 (by omega) (by omega)]
    exact ih (i + 1) (by omega)
theorem sameBytes_same (xs : List Int) (hn : xs.length ≤ 9223372036854775807) : Ev (fun k => laws_sameBytes.f k xs xs) true := by
  unfold laws_sameBytes.f
  exact ev_pos rfl (sameBytes_l0 xs hn xs.length 0 (by omega))
theorem sameInts_l0 (xs : List Int) (hn : xs.length ≤ 9223372036854775807) : ∀ (d i : Nat), i + d = xs.length → Ev (fun k => laws_sameInts.l0 k xs xs (i : Int)) true := by
  intro d
  induction d with
  | zero =>
    intro i hd
    exact Ev.step (fun _ => laws_sameInts.l0.eq_2 ..) (ev_neg (by omega) (Ev.now true))
  | succ d ih =>
    intro i hd
    refine Ev.step (fun _ => laws_sameInts.l0.eq_2 ..) (ev_pos (by omega) (ev_pos (by omega) (ev_pos (by omega) (ev_pos rfl ?_))))
    rw [w64 (by omega) (by omega)]
    exact ih (i + 1) (by omega)
theorem sameInts_same (xs : List Int) (hn : xs.length ≤ 9223372036854775807) : Ev (fun k => laws_sameInts.f k xs xs) true := by
  unfold laws_sameInts.f
  exact ev_pos rfl (sameInts_l0 xs hn xs.length 0 (by omega))
theorem at_some (l : List Int) (hl : l.length ≤ 1048576) (hw : ∀ x ∈ l, (Lit.int .u8 x).wf = true) (i : Int) (h0 : 0 ≤ i) (h1 : i ≤ 1048576) : ∃ x, laws_at.f l i = some x ∧ 0 ≤ x ∧ x ≤ 255 := by
  unfold laws_at.f
  by_cases c : i < (l.length : Int)
  · have hb := rd_byte l hw i
    rw [if_pos c, if_pos h0, w64 (by omega) (by omega)]
    exact ⟨_, rfl, hb.1, hb.2⟩
  · rw [if_neg c, w64 (x := i * 31) (by omega) (by omega), w64 (x := (l.length : Int) * 7) (by omega) (by omega), w64 (by omega) (by omega), Int.tmod_eq_emod_of_nonneg (by omega)]
    exact ⟨_, rfl, by omega, by omega⟩
def encC : List Int → List Int
  | [] => []
  | n :: l => uvN n.toNat ++ encC l
theorem encInts_C : ∀ (l b : List Int), (∀ x ∈ l, 0 ≤ x ∧ x ≤ 1000000000000) → encInts l b = b ++ encC l
  | [], b, _ => by simp [encInts, encC]
  | n :: l, b, h => by
    have hn := h n List.mem_cons_self
    have e : appendUv b n = b ++ uvN n.toNat := by unfold appendUv; rw [if_pos hn]
    show encInts l (appendUv b n) = _
    rw [encInts_C l _ (fun x hx => h x (List.mem_cons_of_mem _ hx)), e, encC, List.append_assoc]
theorem dec_enc : ∀ (l pre out : List Int), (∀ x ∈ l, 0 ≤ x ∧ x ≤ 1000000000000) → decLoop (pre ++ encC l) l.length (pre.length : Int) out = (out ++ l, ((pre ++ encC l).length : Int), true)
  | [], pre, out, _ => by simp [decLoop, encC]
  | n :: l, pre, out, h => by
    have hn := h n List.mem_cons_self
    have e := ruv_enc pre (encC l) n.toNat (by omega)
    rw [Int.toNat_of_nonneg hn.1] at e
    have ih := dec_enc l (pre ++ uvN n.toNat) (out ++ [n]) (fun x hx => h x (List.mem_cons_of_mem _ hx))
    rw [List.length_cons, encC, decLoop_yes _ _ _ _ (by rw [e])]
    rw [e]
    simp only
    rw [List.append_assoc, List.length_append, Int.natCast_add] at ih
    rw [ih, List.append_assoc]
    rfl
theorem dec_more : ∀ (l pre out : List Int), (∀ x ∈ l, 0 ≤ x ∧ x ≤ 1000000000000) → decLoop (pre ++ encC l) (l.length + 1) (pre.length : Int) out = ([], 0, false)
  | [], pre, out, _ => by
    have e : ruv (pre ++ encC []) (pre.length : Int) = (0, 0, false) := by
      unfold ruv
      rw [if_neg (by simp [encC])]
    rw [List.length_nil, Nat.zero_add, decLoop_no _ _ _ _ (by rw [e]; decide)]
  | n :: l, pre, out, h => by
    have hn := h n List.mem_cons_self
    have e := ruv_enc pre (encC l) n.toNat (by omega)
    rw [Int.toNat_of_nonneg hn.1] at e
    have ih := dec_more l (pre ++ uvN n.toNat) (out ++ [n]) (fun x hx => h x (List.mem_cons_of_mem _ hx))
    rw [List.length_cons, encC, decLoop_yes _ _ _ _ (by rw [e])]
    rw [e]
    simp only
    rw [List.append_assoc, List.length_append, Int.natCast_add] at ih
    exact ih
theorem encC_wf : ∀ (l : List Int), ∀ x ∈ encC l, (Lit.int .u8 x).wf = true
  | [], x, hx => by simp [encC] at hx
  | n :: l, x, hx => by
    rw [encC] at hx
    rcases List.mem_append.1 hx with h | h
    · have := uvN_byte _ _ (Nat.le_refl _) x h
      exact wf8_mk this.1 this.2
    · exact encC_wf l x h
theorem drawAB_ev (l : List Int) (hl : l.length ≤ 1048576) : ∃ (b d : List Int), Ev (fun k => spec_DrawAppendBytes.f k l) (b, d) ∧ b.length ≤ 3 ∧ d.length ≤ 6 ∧ (∀ x ∈ b, (Lit.int .u8 x).wf = true) ∧ (∀ x ∈ d, (Lit.int .u8 x).wf = true) := by
  unfold spec_DrawAppendBytes.f
  obtain ⟨h, e1⟩ := l1New_ev l (by omega)
  obtain ⟨x, i2, h2, e2, hx0, hx1, _, hi20, hi21⟩ := l1Below_some l (by omega) 0 h 3 (by omega) (by omega)
  have hx := hx1 (by omega)
  obtain ⟨b, i3, h3, e3, hb, hw, hi30, hi31⟩ := l1Bytes_ev l (by omega) i2 h2 x hx0 (by omega) hi20 hi21
  obtain ⟨y, i4, h4, e4, hy0, hy1, _, hi40, hi41⟩ := l1Below_some l (by omega) i3 h3 6 hi30 hi31
  have hy := hy1 (by omega)
  obtain ⟨d, i5, h5, e5, hd, hw2, _, _⟩ := l1Bytes_ev l (by omega) i4 h4 y hy0 (by omega) hi40 hi41
  exact ⟨b, d, Ev.bind e1 (ev_bind0 e2 (Ev.bind e3 (ev_bind0 e4 (Ev.bind e5 (Ev.now _))))), by omega, by omega, hw, hw2⟩
theorem byteStrings_l0 (l : List Int) (hl : l.length ≤ 1048576) (hw : ∀ x ∈ l, (Lit.int .u8 x).wf = true) : ∀ (d i : Nat) (out : List Int), i + d = 6 → out.length = i → (∀ x ∈ out, 0 ≤ x ∧ x ≤ 1000000000000) → Ev (fun k => laws_FnByteStrings.l0 k l out (i : Int)) true := by
  intro d
  induction d with
  | zero =>
    intro i out hd ho hr
    obtain ⟨x, ex, hx0, hx1⟩ := at_some l hl hw 0 (by omega) (by omega)
    have hm : Int.tmod x 6 < 6 := Int.tmod_lt_of_pos x (by omega)
    have hC := encInts_C out [] hr
    rw [List.nil_append] at hC
    have hL := encInts_len out []
    rw [List.length_nil] at hL
    have hwf : ∀ x ∈ encInts out [], (Lit.int .u8 x).wf = true := by rw [hC]; exact encC_wf out
    have d1 : decInts (encInts out []) 0 (out.length : Int) = (out, ((encInts out []).length : Int), true) := by
      rw [decInts_yes _ _ _ (by omega), Int.toNat_natCast]
      have := dec_enc out [] [] hr
      rw [List.nil_append, List.nil_append, ← hC] at this
      exact this
    have d2 : decInts (encInts out []) 0 ((out.length : Int) + 1) = ([], 0, false) := by
      rw [decInts_yes _ _ _ (by omega), show ((out.length : Int) + 1).toNat = out.length + 1 by omega]
      have := dec_more out [] [] hr
      rw [List.nil_append, ← hC] at this
      exact this
    have e1 := impl_DecodeInts_ev (encInts out []) (by omega) hwf 0 (out.length : Int)
    have e2 := impl_DecodeInts_ev (encInts out []) (by omega) hwf 0 ((out.length : Int) + 1)
    rw [d1] at e1
    rw [d2] at e2
    refine Ev.step (fun _ => laws_FnByteStrings.l0.eq_2 ..) (ev_bind0 ex (ev_neg (by omega) ?_))
    rw [w64 (x := (out.length : Int) + 1) (by omega) (by omega)]
    exact Ev.bind (impl_EncodeInts_ev out (by omega)) (Ev.bind e1 (Ev.bind e2 (ev_pos rfl (Ev.bind (sameInts_same out (by omega)) (ev_pos rfl (ev_pos rfl (Ev.now true)))))))
  | succ d ih =>
    intro i out hd ho hr
    obtain ⟨x, ex, hx0, hx1⟩ := at_some l hl hw 0 (by omega) (by omega)
    by_cases c : (i : Int) < Int.tmod x 6
    · obtain ⟨a, ea, ha0, ha1⟩ := at_some l hl hw ((i : Int) + 1) (by omega) (by omega)
      obtain ⟨b, eb, hb0, hb1⟩ := at_some l hl hw ((i : Int) + 2) (by omega) (by omega)
      obtain ⟨e, ee, he0, he1⟩ := at_some l hl hw ((i : Int) + 3) (by omega) (by omega)
      have m0 : 0 ≤ a * b := Int.mul_nonneg ha0 hb0
      have m1 : a * b ≤ 255 * 255 := Int.mul_le_mul ha1 hb1 hb0 (by omega)
      have n0 : 0 ≤ a * b * e := Int.mul_nonneg m0 he0
      have n1 : a * b * e ≤ 255 * 255 * 255 := Int.mul_le_mul m1 he1 he0 (by omega)
      refine Ev.step (fun _ => laws_FnByteStrings.l0.eq_2 ..) (ev_bind0 ex (ev_pos c ?_))
      rw [w64 (x := (i : Int) + 1) (by omega) (by omega), w64 (x := (i : Int) + 2) (by omega) (by omega), w64 (x := (i : Int) + 3) (by omega) (by omega)]
      refine ev_bind0 ea (ev_bind0 eb (ev_bind0 ee (ev_pos (by omega) ?_)))
      rw [w64 (x := a * b) (by omega) (by omega), w64 (x := a * b * e) (by omega) (by omega)]
      exact ih (i + 1) _ (by omega) (by rw [List.length_append, List.length_singleton]; omega) (fun y hy => by
        rcases List.mem_append.1 hy with hy | hy
        · exact hr y hy
        · have := List.mem_singleton.1 hy
          omega)
    · have hC := encInts_C out [] hr
      rw [List.nil_append] at hC
      have hL := encInts_len out []
      rw [List.length_nil] at hL
      have hwf : ∀ x ∈ encInts out [], (Lit.int .u8 x).wf = true := by rw [hC]; exact encC_wf out
      have d1 : decInts (encInts out []) 0 (out.length : Int) = (out, ((encInts out []).length : Int), true) := by
        rw [decInts_yes _ _ _ (by omega), Int.toNat_natCast]
        have := dec_enc out [] [] hr
        rw [List.nil_append, List.nil_append, ← hC] at this
        exact this
      have d2 : decInts (encInts out []) 0 ((out.length : Int) + 1) = ([], 0, false) := by
        rw [decInts_yes _ _ _ (by omega), show ((out.length : Int) + 1).toNat = out.length + 1 by omega]
        have := dec_more out [] [] hr
        rw [List.nil_append, ← hC] at this
        exact this
      have e1 := impl_DecodeInts_ev (encInts out []) (by omega) hwf 0 (out.length : Int)
      have e2 := impl_DecodeInts_ev (encInts out []) (by omega) hwf 0 ((out.length : Int) + 1)
      rw [d1] at e1
      rw [d2] at e2
      refine Ev.step (fun _ => laws_FnByteStrings.l0.eq_2 ..) (ev_bind0 ex (ev_neg c ?_))
      rw [w64 (x := (out.length : Int) + 1) (by omega) (by omega)]
      exact Ev.bind (impl_EncodeInts_ev out (by omega)) (Ev.bind e1 (Ev.bind e2 (ev_pos rfl (Ev.bind (sameInts_same out (by omega)) (ev_pos rfl (ev_pos rfl (Ev.now true)))))))
theorem FnByteStrings : ∀ (x0 : List Int), (x0.length ≤ 9223372036854775807 ∧ ∀ y ∈ x0, (Lit.int .u8 y).wf = true) → ∃ k, laws_FnByteStrings.f k x0 = some true := by
  intro l hl
  obtain ⟨hl, hwl⟩ := hl
  refine Ev.rounds (g := fun k => laws_FnByteStrings.f k l) ?_
  unfold laws_FnByteStrings.f
  refine ev_bind0 (big_val l) ?_
  by_cases hb : (l.length : Int) > 1048576
  · exact ev_pos (decide_eq_true hb) (Ev.now true)
  refine ev_neg (by simp only [decide_eq_true_eq]; exact hb) ?_
  obtain ⟨b, d, e, hb3, hd6, hw, hw2⟩ := drawAB_ev l (by omega)
  have hx : appendUv b (d.length : Int) = b ++ uvN d.length := by
    unfold appendUv
    rw [if_pos (by omega), Int.toNat_natCast]
  have hu := uvN_len6 d.length (by omega)
  have hap := impl_AppendBytes_ev b d (by omega) (by omega)
  rw [hx] at hap
  have hr := ruv_enc b d d.length (by omega)
  rw [← List.append_assoc] at hr
  have hxw : ∀ x ∈ b ++ uvN d.length ++ d, (Lit.int .u8 x).wf = true := by
    intro x hx
    rcases List.mem_append.1 hx with h | h
    · rcases List.mem_append.1 h with h | h
      · exact hw x h
      · have := uvN_byte _ _ (Nat.le_refl _) x h
        exact wf8_mk this.1 this.2
    · exact hw2 x h
  have hlen : (b ++ uvN d.length ++ d).length = b.length + (uvN d.length).length + d.length := by rw [List.length_append, List.length_append]
  have r1 : rdb (b ++ uvN d.length ++ d) (b.length : Int) (d.length : Int) = (d, ((b ++ uvN d.length ++ d).length : Int), true) := by
    rw [rdb_yes _ _ _ (by rw [hr]; exact ⟨rfl, Int.le_refl _, show (d.length : Int) ≤ ((b ++ uvN d.length ++ d).length : Int) - ((b.length : Int) + ((uvN d.length).length : Int)) by rw [hlen]; omega⟩), hr]
    simp only [Prod.mk.injEq, and_true]
    refine ⟨?_, by rw [hlen]; omega⟩
    rw [List.take_of_length_le (by rw [hlen]; omega), show ((b.length : Int) + ((uvN d.length).length : Int)).toNat = (b ++ uvN d.length).length by rw [List.length_append]; omega, List.drop_left]
  have r2 : rdb (b ++ uvN d.length ++ d) (b.length : Int) ((d.length : Int) - 1) = ([], 0, false) := by
    rw [rdb_no _ _ _ (by rw [hr]; intro h; have h2 : (d.length : Int) ≤ (d.length : Int) - 1 := h.2.1; omega)]
  have e1 := impl_ReadBytes_ev (b ++ uvN d.length ++ d) (by omega) hxw (b.length : Int) (d.length : Int)
  have e2 := impl_ReadBytes_ev (b ++ uvN d.length ++ d) (by omega) hxw (b.length : Int) ((d.length : Int) - 1)
  rw [r1] at e1
  rw [r2] at e2
  refine Ev.bind e (Ev.bind hap (Ev.bind e1 ?_))
  simp only
  rw [w64 (x := (d.length : Int) - 1) (by omega) (by omega)]
  refine Ev.bind e2 (ev_pos (by first | trivial | rfl) (Ev.bind (sameBytes_same d (by omega)) (ev_pos (by first | trivial | rfl) (ev_pos (by first | trivial | rfl) ?_))))
  exact Ev.step (fun _ => laws_FnByteStrings.j0.eq_2 ..) (ev_neg (by decide) (byteStrings_l0 l (by omega) hwl 6 0 [] rfl rfl (fun x hx => by simp at hx)))

end Go.Proofs.Ytgcidlnhgpjdpac.Pure
