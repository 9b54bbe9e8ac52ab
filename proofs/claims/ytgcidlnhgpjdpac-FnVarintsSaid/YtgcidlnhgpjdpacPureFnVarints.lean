/- The pure statement behind the law FnVarints: over numbers and lists the law answers true, at every input that the row's bounds let in. -/
import Derived.Test.YtgcidlnhgpjdpacQFnVarintsx4
import Derived.Test.YtgcidlnhgpjdpacQFnVarintsg
namespace Go.Proofs.Ytgcidlnhgpjdpac.Pure
open Go Go.RowKit Go.Proofs.Ytgcidlnhgpjdpac.QFnVarints Go.Proofs.YtgcidlnhgpjdpacW.PrintWords Go.Proofs.YtgcidlnhgpjdpacW.PrintLast Go.Proofs.YtgcidlnhgpjdpacW.PrintMore
set_option linter.unusedVariables false
set_option linter.unusedSimpArgs false
set_option maxRecDepth 100000

theorem w64 {x : Int} (h0 : -9223372036854775808 ≤ x) (h1 : x ≤ 9223372036854775807) : wrap64 x = x := by unfold wrap64; omega
theorem wf64 {x : Int} (h : (Lit.int .i64 x).wf = true) : -9223372036854775808 ≤ x ∧ x ≤ 9223372036854775807 := by
  simp [Lit.wf, IntKind.min, IntKind.max, IntKind.signed, IntKind.bits] at h
  omega
theorem wf8 {x : Int} (h : (Lit.int .u8 x).wf = true) : 0 ≤ x ∧ x ≤ 255 := by
  simp [Lit.wf, IntKind.min, IntKind.max, IntKind.signed, IntKind.bits] at h
  omega
theorem ev_pos {α : Type} {c : Prop} [Decidable c] {g f : Nat → Option α} {r : α} (h : c) (k : Ev g r) : Ev (fun n => if c then g n else f n) r := by
  obtain ⟨K, hK⟩ := k
  exact ⟨K, fun n hn => (if_pos h).trans (hK n hn)⟩
theorem ev_neg {α : Type} {c : Prop} [Decidable c] {g f : Nat → Option α} {r : α} (h : ¬ c) (k : Ev f r) : Ev (fun n => if c then g n else f n) r := by
  obtain ⟨K, hK⟩ := k
  exact ⟨K, fun n hn => (if_neg h).trans (hK n hn)⟩
theorem ev_bind0 {α β : Type} {o : Option α} {f : Nat → α → Option β} {a : α} {r : β} (h : o = some a) (k : Ev (fun n => f n a) r) : Ev (fun n => o.bind (f n)) r := by
  subst h
  exact k
theorem ev_of {α : Type} {o : Option α} {r : α} (h : o = some r) : Ev (fun _ => o) r := ⟨0, fun _ _ => h⟩
theorem rd_at (xs : List Int) (i : Nat) (h : i < xs.length) : rd xs (i : Int) = xs[i] := by
  unfold rd
  rw [Int.toNat_natCast, List.getD_eq_getElem?_getD, List.getElem?_eq_getElem h]
  rfl
theorem l1In_val (a b c : Int) : spec_l1In.f a b c = some (decide (b ≤ a ∧ a ≤ c)) := by
  unfold spec_l1In.f
  by_cases h : a ≥ b
  · rw [if_pos h]; simp [h]
  · rw [if_neg h]; simp [h]
theorem inRange_val (a b c : Int) : impl_InRange.f a b c = some (decide (b ≤ a ∧ a ≤ c)) := by
  unfold impl_InRange.f
  by_cases h : b ≤ a
  · rw [if_pos h]; simp [h]
  · rw [if_neg h]; simp [h]
theorem rd_byte (l : List Int) (hw : ∀ x ∈ l, (Lit.int .u8 x).wf = true) (i : Int) : 0 ≤ rd l i ∧ rd l i ≤ 255 := by
  unfold rd
  rw [List.getD_eq_getElem?_getD]
  cases h : l[i.toNat]? with
  | none => simp
  | some x => exact wf8 (hw x (List.mem_of_getElem? h))
theorem bits_or_comm (k : IntKind) (x y : Int) : Go.bits .or k x y = Go.bits .or k y x := by simp only [Go.bits, BitVec.or_comm]
theorem wraps_i64 (n : Int) (h0 : 0 ≤ n) (h1 : n < 2 ^ 63) : IntKind.i64.wrap n = n := by rw [IntKind.wrap_i64]; omega
theorem and127 (c : Int) (h0 : 0 ≤ c) (h1 : c ≤ 9223372036854775807) : Go.bits .and .i64 c 127 = c % 128 := Go.bits_mask .i64 63 (by decide) wraps_i64 7 (by decide) c h0 (by omega)
theorem at_val (a b : Int) : impl_at.f a b = some (decide (0 ≤ a ∧ a < b)) := by
  unfold impl_at.f
  by_cases h : a ≥ 0
  · rw [if_pos h]; simp [h]
  · rw [if_neg h]; simp [h]
def ruvLoop (l : List Int) (off : Int) : Nat → Nat → Int → Int × Int × Bool
  | 0, _, _ => (0, 0, false)
  | d + 1, i, n =>
    if off + (i : Int) ≥ (l.length : Int) then (0, 0, false)
    else if rd l (off + (i : Int)) < 128 then
      (if (0 < i ∧ rd l (off + (i : Int)) = 0) ∨ n + rd l (off + (i : Int)) % 128 * 2 ^ (7 * i) > 1000000000000 then (0, 0, false)
       else (n + rd l (off + (i : Int)) % 128 * 2 ^ (7 * i), off + (i : Int) + 1, true))
    else ruvLoop l off d (i + 1) (n + rd l (off + (i : Int)) % 128 * 2 ^ (7 * i))
def ruv (l : List Int) (off : Int) : Int × Int × Bool := if 0 ≤ off ∧ off < (l.length : Int) then ruvLoop l off 6 0 0 else (0, 0, false)
theorem ruv_out (l : List Int) (off : Int) (d i : Nat) (n : Int) (h1 : off + (i : Int) ≥ (l.length : Int)) : ruvLoop l off (d + 1) i n = (0, 0, false) := by
  rw [ruvLoop, if_pos h1]
theorem ruv_bad (l : List Int) (off : Int) (d i : Nat) (n : Int) (h1 : ¬ off + (i : Int) ≥ (l.length : Int)) (h2 : rd l (off + (i : Int)) < 128) (h3 : (0 < i ∧ rd l (off + (i : Int)) = 0) ∨ n + rd l (off + (i : Int)) % 128 * 2 ^ (7 * i) > 1000000000000) :
    ruvLoop l off (d + 1) i n = (0, 0, false) := by
  rw [ruvLoop, if_neg h1, if_pos h2, if_pos h3]
theorem ruv_ok (l : List Int) (off : Int) (d i : Nat) (n : Int) (h1 : ¬ off + (i : Int) ≥ (l.length : Int)) (h2 : rd l (off + (i : Int)) < 128) (h3 : ¬ ((0 < i ∧ rd l (off + (i : Int)) = 0) ∨ n + rd l (off + (i : Int)) % 128 * 2 ^ (7 * i) > 1000000000000)) :
    ruvLoop l off (d + 1) i n = (n + rd l (off + (i : Int)) % 128 * 2 ^ (7 * i), off + (i : Int) + 1, true) := by
  rw [ruvLoop, if_neg h1, if_pos h2, if_neg h3]
theorem ruv_go (l : List Int) (off : Int) (d i : Nat) (n : Int) (h1 : ¬ off + (i : Int) ≥ (l.length : Int)) (h2 : ¬ rd l (off + (i : Int)) < 128) :
    ruvLoop l off (d + 1) i n = ruvLoop l off d (i + 1) (n + rd l (off + (i : Int)) % 128 * 2 ^ (7 * i)) := by
  rw [ruvLoop, if_neg h1, if_neg h2]
theorem or_step (n c : Int) (i : Nat) (hi : i < 6) (hn0 : 0 ≤ n) (hn1 : n < 2 ^ (7 * i)) (hc0 : 0 ≤ c) (hc1 : c ≤ 255) :
    Go.bits .or .i64 n (shl .i64 (Go.bits .and .i64 (wrap64 c) 127) (wrap64 (7 * (i : Int)))) = n + c % 128 * 2 ^ (7 * i) ∧ n + c % 128 * 2 ^ (7 * i) < 2 ^ (7 * (i + 1)) := by
  have e1 : wrap64 c = c := w64 (by omega) (by omega)
  have e2 : wrap64 (7 * (i : Int)) = 7 * (i : Int) := w64 (by omega) (by omega)
  rw [e1, e2, and127 c hc0 (by omega)]
  have h : i = 0 ∨ i = 1 ∨ i = 2 ∨ i = 3 ∨ i = 4 ∨ i = 5 := by omega
  have key : ∀ (j : Nat) (P : Int), P = 2 ^ j → j ≤ 35 → n < P → shl .i64 (c % 128) (j : Int) = c % 128 * P → Go.bits .or .i64 n (shl .i64 (c % 128) (j : Int)) = n + c % 128 * P := by
    intro j P hP hj hnP hs
    rw [hs, bits_or_comm, Int.add_comm]
    subst hP
    have hle : (2 : Int) ^ j ≤ 2 ^ 35 := by exact_mod_cast Nat.pow_le_pow_right (by decide) hj
    have hpos : (0 : Int) < 2 ^ j := by exact_mod_cast Nat.two_pow_pos j
    have hm : c % 128 * 2 ^ j ≤ 127 * 2 ^ j := Int.mul_le_mul_of_nonneg_right (by omega) (by omega)
    exact Go.bits_join .i64 63 (by decide) wraps_i64 j _ n (Int.mul_nonneg (by omega) (by omega)) (Int.mul_emod_left _ _) (by omega) hn0 hnP (by omega)
  have hs : ∀ (j : Nat) (P : Int), P = 2 ^ j → j ≤ 35 → shl .i64 (c % 128) (j : Int) = c % 128 * P := by
    intro j P hP hj
    unfold shl
    rw [Int.toNat_natCast, show min j IntKind.i64.bits = j from Nat.min_eq_left (by simp [IntKind.bits]; omega)]
    subst hP
    have hle : (2 : Int) ^ j ≤ 2 ^ 35 := by exact_mod_cast Nat.pow_le_pow_right (by decide) hj
    have hpos : (0 : Int) < 2 ^ j := by exact_mod_cast Nat.two_pow_pos j
    have hm : c % 128 * 2 ^ j ≤ 127 * 2 ^ j := Int.mul_le_mul_of_nonneg_right (by omega) (by omega)
    exact wraps_i64 _ (Int.mul_nonneg (by omega) (by omega)) (by omega)
  have e3 : (7 * (i : Int)) = ((7 * i : Nat) : Int) := by omega
  rw [e3]
  refine ⟨key (7 * i) _ rfl (by omega) hn1 (hs (7 * i) _ rfl (by omega)), ?_⟩
  have e4 : (2 : Int) ^ (7 * (i + 1)) = 2 ^ (7 * i) * 128 := by rw [Nat.mul_add, Nat.mul_one, Int.pow_add]; rfl
  have hpos : (0 : Int) < 2 ^ (7 * i) := by exact_mod_cast Nat.two_pow_pos _
  have hm : c % 128 * 2 ^ (7 * i) ≤ 127 * 2 ^ (7 * i) := Int.mul_le_mul_of_nonneg_right (by omega) (by omega)
  rw [e4]
  omega
theorem impl_ReadUvarint_l0 (l : List Int) (hl : l.length ≤ 1099511627776) (hw : ∀ x ∈ l, (Lit.int .u8 x).wf = true) (off : Int) (ho : 0 ≤ off) (ho1 : off < (l.length : Int)) :
    ∀ (d i : Nat) (n : Int), i + d = 6 → 0 ≤ n → n < 2 ^ (7 * i) → Ev (fun k => impl_ReadUvarint.l0 k l off n (i : Int)) (ruvLoop l off d i n) := by
  intro d
  induction d with
  | zero =>
    intro i n hd hn0 hn1
    exact Ev.step (fun _ => impl_ReadUvarint.l0.eq_2 ..) (ev_neg (by omega) (Ev.now _))
  | succ d ih =>
    intro i n hd hn0 hn1
    have hb := rd_byte l hw (off + (i : Int))
    obtain ⟨e1, e2⟩ := or_step n (rd l (off + (i : Int))) i (by omega) hn0 hn1 hb.1 hb.2
    have hpos : (0 : Int) < 2 ^ (7 * i) := by exact_mod_cast Nat.two_pow_pos _
    have hnn : 0 ≤ rd l (off + (i : Int)) % 128 * 2 ^ (7 * i) := Int.mul_nonneg (by omega) (by omega)
    have ew : wrap64 (off + (i : Int)) = off + (i : Int) := w64 (by omega) (by omega)
    refine Ev.step (fun _ => impl_ReadUvarint.l0.eq_2 ..) (ev_pos (by omega) ?_)
    rw [ew, e1]
    by_cases h1 : off + (i : Int) ≥ (l.length : Int)
    · rw [ruv_out l off d i n h1]
      exact ev_pos h1 (Ev.now _)
    have e7 : wrap64 (7 * (i : Int)) = 7 * (i : Int) := w64 (by omega) (by omega)
    have c0 : 0 ≤ off + (i : Int) := by omega
    have c1 : off + (i : Int) < (l.length : Int) := by omega
    have c2 : 0 ≤ wrap64 (7 * (i : Int)) := by rw [e7]; omega
    have e8 : wrap64 (rd l (off + (i : Int))) = rd l (off + (i : Int)) := w64 (by omega) (by omega)
    have e9 : wrap64 (off + (i : Int) + 1) = off + (i : Int) + 1 := w64 (by omega) (by omega)
    refine ev_neg h1 (ev_pos c0 (ev_pos c1 (ev_pos c2 ?_)))
    rw [e8, e9]
    by_cases h2 : rd l (off + (i : Int)) < 128
    · refine ev_pos h2 ?_
      by_cases h3 : 0 < i
      · refine ev_pos (by omega) ?_
        by_cases h4 : rd l (off + (i : Int)) = 0
        · rw [ruv_bad l off d i n h1 h2 (.inl ⟨h3, h4⟩)]
          exact ev_pos h4 (Ev.now _)
        · refine ev_neg h4 ?_
          by_cases h5 : n + rd l (off + (i : Int)) % 128 * 2 ^ (7 * i) > 1000000000000
          · rw [ruv_bad l off d i n h1 h2 (.inr h5)]
            exact ev_pos h5 (Ev.now _)
          · rw [ruv_ok l off d i n h1 h2 (fun h => h.elim (fun h => h4 h.2) h5)]
            exact ev_neg h5 (Ev.now _)
      · refine ev_neg (by omega) ?_
        by_cases h5 : n + rd l (off + (i : Int)) % 128 * 2 ^ (7 * i) > 1000000000000
        · rw [ruv_bad l off d i n h1 h2 (.inr h5)]
          exact ev_pos h5 (Ev.now _)
        · rw [ruv_ok l off d i n h1 h2 (fun h => h.elim (fun h => h3 h.1) h5)]
          exact ev_neg h5 (Ev.now _)
    · rw [ruv_go l off d i n h1 h2]
      refine ev_neg h2 ?_
      rw [w64 (by omega) (by omega)]
      exact ih (i + 1) _ (by omega) (by omega) e2
theorem impl_ReadUvarint_ev (l : List Int) (hl : l.length ≤ 1099511627776) (hw : ∀ x ∈ l, (Lit.int .u8 x).wf = true) (off : Int) : Ev (fun k => impl_ReadUvarint.f k l off) (ruv l off) := by
  unfold impl_ReadUvarint.f ruv
  refine ev_bind0 (at_val _ _) ?_
  by_cases h : 0 ≤ off ∧ off < (l.length : Int)
  · rw [if_pos h]
    refine ev_pos (by simp [h]) ?_
    exact impl_ReadUvarint_l0 l hl hw off h.1 h.2 6 0 0 (by omega) (by omega) (by decide)
  · rw [if_neg h]
    exact ev_neg (by simp only [h, decide_false, Bool.false_eq_true, not_false_eq_true]) (Ev.now _)
theorem spec_ReadUvarint_l0 (l : List Int) (hl : l.length ≤ 1099511627776) (hw : ∀ x ∈ l, (Lit.int .u8 x).wf = true) (off : Int) (ho : 0 ≤ off) (ho1 : off < (l.length : Int)) :
    ∀ (d i : Nat) (n : Int), i + d = 6 → 0 ≤ n → n < 2 ^ (7 * i) → Ev (fun k => spec_ReadUvarint.l0 k l off n (i : Int)) (ruvLoop l off d i n) := by
  intro d
  induction d with
  | zero =>
    intro i n hd hn0 hn1
    exact Ev.step (fun _ => spec_ReadUvarint.l0.eq_2 ..) (ev_neg (by omega) (Ev.now _))
  | succ d ih =>
    intro i n hd hn0 hn1
    have hb := rd_byte l hw (off + (i : Int))
    obtain ⟨e1, e2⟩ := or_step n (rd l (off + (i : Int))) i (by omega) hn0 hn1 hb.1 hb.2
    have hpos : (0 : Int) < 2 ^ (7 * i) := by exact_mod_cast Nat.two_pow_pos _
    have hnn : 0 ≤ rd l (off + (i : Int)) % 128 * 2 ^ (7 * i) := Int.mul_nonneg (by omega) (by omega)
    have ew : wrap64 (off + (i : Int)) = off + (i : Int) := w64 (by omega) (by omega)
    have e6 : wrap64 ((l.length : Int) - (i : Int)) = (l.length : Int) - (i : Int) := w64 (by omega) (by omega)
    refine Ev.step (fun _ => spec_ReadUvarint.l0.eq_2 ..) (ev_pos (by omega) (ev_neg (by omega) ?_))
    refine Ev.step (fun _ => spec_ReadUvarint.j1.eq_2 ..) ?_
    rw [ew, e1, e6]
    by_cases h1 : off + (i : Int) ≥ (l.length : Int)
    · rw [ruv_out l off d i n h1]
      exact ev_pos (decide_eq_true (by omega)) (Ev.now _)
    have e7 : wrap64 (7 * (i : Int)) = 7 * (i : Int) := w64 (by omega) (by omega)
    have c0 : 0 ≤ off + (i : Int) := by omega
    have c1 : off + (i : Int) < (l.length : Int) := by omega
    have c2 : 0 ≤ wrap64 (7 * (i : Int)) := by rw [e7]; omega
    have e8 : wrap64 (rd l (off + (i : Int))) = rd l (off + (i : Int)) := w64 (by omega) (by omega)
    have e9 : wrap64 (off + (i : Int) + 1) = off + (i : Int) + 1 := w64 (by omega) (by omega)
    have h1' : ¬ (off ≥ (l.length : Int) - (i : Int)) := fun h => h1 (by omega)
    refine ev_neg (by simp only [decide_eq_true_eq]; exact h1') (ev_pos c0 (ev_pos c1 (ev_pos c2 ?_)))
    rw [e8, e9]
    by_cases h2 : rd l (off + (i : Int)) < 128
    · refine ev_pos h2 ?_
      by_cases h4 : rd l (off + (i : Int)) = 0
      · refine ev_pos h4 ?_
        by_cases h3 : 0 < i
        · rw [ruv_bad l off d i n h1 h2 (.inl ⟨h3, h4⟩)]
          exact ev_pos (by omega) (Ev.now _)
        · refine ev_neg (by omega) ?_
          by_cases h5 : n + rd l (off + (i : Int)) % 128 * 2 ^ (7 * i) > 1000000000000
          · rw [ruv_bad l off d i n h1 h2 (.inr h5)]
            exact ev_pos h5 (Ev.now _)
          · rw [ruv_ok l off d i n h1 h2 (fun h => h.elim (fun h => h3 h.1) h5)]
            exact ev_neg h5 (Ev.now _)
      · refine ev_neg h4 ?_
        by_cases h5 : n + rd l (off + (i : Int)) % 128 * 2 ^ (7 * i) > 1000000000000
        · rw [ruv_bad l off d i n h1 h2 (.inr h5)]
          exact ev_pos h5 (Ev.now _)
        · rw [ruv_ok l off d i n h1 h2 (fun h => h.elim (fun h => h4 h.2) h5)]
          exact ev_neg h5 (Ev.now _)
    · rw [ruv_go l off d i n h1 h2]
      refine ev_neg h2 ?_
      rw [w64 (by omega) (by omega)]
      exact ih (i + 1) _ (by omega) (by omega) e2
theorem spec_ReadUvarint_ev (l : List Int) (hl : l.length ≤ 1099511627776) (hw : ∀ x ∈ l, (Lit.int .u8 x).wf = true) (off : Int) : Ev (fun k => spec_ReadUvarint.f k l off) (ruv l off) := by
  unfold spec_ReadUvarint.f ruv
  by_cases h : 0 ≤ off ∧ off < (l.length : Int)
  · rw [if_pos h]
    exact spec_ReadUvarint_l0 l hl hw off h.1 h.2 6 0 0 (by omega) (by omega) (by decide)
  · rw [if_neg h]
    refine Ev.step (fun _ => spec_ReadUvarint.l0.eq_2 ..) (ev_pos (by omega) ?_)
    by_cases h0 : off < 0
    · exact ev_pos h0 (Ev.step (fun _ => spec_ReadUvarint.j1.eq_2 ..) (ev_pos rfl (Ev.now _)))
    · refine ev_neg h0 (Ev.step (fun _ => spec_ReadUvarint.j1.eq_2 ..) (ev_pos ?_ (Ev.now _)))
      rw [w64 (by omega) (by omega)]
      exact decide_eq_true (by omega)
def uvN (n : Nat) : List Int := if n > 127 then (((n % 128 + 128 : Nat)) : Int) :: uvN (n / 128) else [(n : Int)]
theorem uvN_small (n : Nat) (h : n ≤ 127) : uvN n = [(n : Int)] := by rw [uvN, if_neg (by omega)]
theorem uvN_big (n : Nat) (h : n > 127) : uvN n = (((n % 128 + 128 : Nat)) : Int) :: uvN (n / 128) := by rw [uvN, if_pos h]
theorem uvN_len : ∀ (k n : Nat), n < 128 ^ (k + 1) → (uvN n).length ≤ k + 1 := by
  intro k
  induction k with
  | zero =>
    intro n h
    rw [uvN_small n (by omega)]
    simp
  | succ k ih =>
    intro n h
    by_cases hn : n > 127
    · have e : 128 ^ (k + 1 + 1) = 128 ^ (k + 1) * 128 := Nat.pow_succ ..
      have := ih (n / 128) (by rw [Nat.div_lt_iff_lt_mul (by decide)]; omega)
      rw [uvN_big n hn, List.length_cons]
      omega
    · rw [uvN_small n (by omega)]
      simp
theorem uvN_len6 (n : Nat) (h : n ≤ 1000000000000) : (uvN n).length ≤ 6 := uvN_len 5 n (by omega)
theorem uvN_pos (n : Nat) : 0 < (uvN n).length := by
  rw [uvN]
  split <;> simp
theorem uvN_byte : ∀ (m n : Nat), n ≤ m → ∀ x ∈ uvN n, 0 ≤ x ∧ x ≤ 255 := by
  intro m
  induction m with
  | zero =>
    intro n h x hx
    rw [uvN_small n (by omega)] at hx
    have := List.mem_singleton.1 hx
    omega
  | succ m ih =>
    intro n h x hx
    by_cases hn : n > 127
    · rw [uvN_big n hn] at hx
      rcases List.mem_cons.1 hx with rfl | hx
      · omega
      · exact ih (n / 128) (by omega) x hx
    · rw [uvN_small n (by omega)] at hx
      have := List.mem_singleton.1 hx
      omega
theorem wf8_mk {x : Int} (h0 : 0 ≤ x) (h1 : x ≤ 255) : (Lit.int .u8 x).wf = true := by
  simp [Lit.wf, IntKind.min, IntKind.max, IntKind.signed, IntKind.bits]
  omega
def appendUv (b : List Int) (n : Int) : List Int := if 0 ≤ n ∧ n ≤ 1000000000000 then b ++ uvN n.toNat else b
theorem appendUv_len (b : List Int) (n : Int) : b.length ≤ (appendUv b n).length ∧ (appendUv b n).length ≤ b.length + 6 := by
  unfold appendUv
  split
  · have := uvN_len6 n.toNat (by omega)
    rw [List.length_append]
    omega
  · omega
theorem appendUv_wf (b : List Int) (n : Int) (hb : ∀ x ∈ b, (Lit.int .u8 x).wf = true) : ∀ x ∈ appendUv b n, (Lit.int .u8 x).wf = true := by
  intro x hx
  unfold appendUv at hx
  split at hx
  · rcases List.mem_append.1 hx with h | h
    · exact hb x h
    · have := uvN_byte _ _ (Nat.le_refl _) x h
      exact wf8_mk this.1 this.2
  · exact hb x hx
theorem uv_byte (n : Nat) (h : n ≤ 1000000000000) : (Go.bits .or .i64 (Go.bits .and .i64 (n : Int) 127) 128) % 256 = ((n % 128 + 128 : Nat) : Int) := by
  rw [and127 (n : Int) (by omega) (by omega), bits_or_comm]
  have e : Go.bits .or .i64 128 ((n : Int) % 128) = 128 + (n : Int) % 128 := Go.bits_join .i64 63 (by decide) wraps_i64 7 128 _ (by decide) (by decide) (by decide) (by omega) (by omega) (by omega)
  rw [e]
  omega
theorem spec_AppendUvarint_l0 : ∀ (m n : Nat) (b : List Int), n ≤ m → n ≤ 1000000000000 → b.length + n ≤ 100000000000000 → Ev (fun k => spec_AppendUvarint.l0 k (n : Int) b) (b ++ uvN n) := by
  intro m
  induction m with
  | zero =>
    intro n b h hn hb
    refine Ev.step (fun _ => spec_AppendUvarint.l0.eq_2 ..) (ev_neg (by omega) (ev_pos (by omega) (ev_of ?_)))
    rw [uvN_small n (by omega), show (n : Int) % 256 = (n : Int) by omega]
  | succ m ih =>
    intro n b h hn hb
    refine Ev.step (fun _ => spec_AppendUvarint.l0.eq_2 ..) ?_
    by_cases h1 : n > 127
    · refine ev_pos (by omega) (ev_pos (by omega) ?_)
      have e := ih (n / 128) (b ++ [((n % 128 + 128 : Nat) : Int)]) (by omega) (by omega) (by rw [List.length_append, List.length_singleton]; omega)
      rw [uv_byte n hn, show (n : Int) / 128 = ((n / 128 : Nat) : Int) by omega, uvN_big n h1]
      rw [List.append_assoc, List.singleton_append] at e
      exact e
    · refine ev_neg (by omega) (ev_pos (by omega) (ev_of ?_))
      rw [uvN_small n (by omega), show (n : Int) % 256 = (n : Int) by omega]
theorem spec_AppendUvarint_ev (b : List Int) (n : Int) (hb : b.length ≤ 1099511627776) : Ev (fun k => spec_AppendUvarint.f k b n) (appendUv b n) := by
  unfold spec_AppendUvarint.f appendUv
  refine ev_bind0 rfl (ev_pos (by simp only [List.length_nil]; omega) (ev_bind0 rfl (ev_bind0 (l1In_val _ _ _) ?_)))
  rw [List.nil_append]
  by_cases h : 0 ≤ n ∧ n ≤ 1000000000000
  · rw [if_pos h]
    refine ev_pos (decide_eq_true h) ?_
    have e := spec_AppendUvarint_l0 n.toNat n.toNat b (Nat.le_refl _) (by omega) (by omega)
    rw [Int.toNat_of_nonneg h.1] at e
    exact e
  · rw [if_neg h]
    exact ev_neg (by simp only [decide_eq_true_eq]; exact h) (Ev.now _)
theorem clone_byte (b : List Int) (hb : b.length ≤ 100000000000000) : slices_Clone_byte_byte.f b = some b := by
  unfold slices_Clone_byte_byte.f
  rw [Option.bind_some, if_pos (by simp only [List.length_nil]; omega), List.nil_append]
theorem impl_AppendUvarint_l0 : ∀ (m n : Nat) (b : List Int), n ≤ m → n ≤ 1000000000000 → b.length + n ≤ 100000000000000 → Ev (fun k => impl_AppendUvarint.l0 k (n : Int) b) (b ++ uvN n) := by
  intro m
  induction m with
  | zero =>
    intro n b h hn hb
    refine Ev.step (fun _ => impl_AppendUvarint.l0.eq_2 ..) (ev_neg (by omega) (ev_pos (by omega) (ev_of ?_)))
    rw [uvN_small n (by omega), show (n : Int) % 256 = (n : Int) by omega]
  | succ m ih =>
    intro n b h hn hb
    refine Ev.step (fun _ => impl_AppendUvarint.l0.eq_2 ..) ?_
    by_cases h1 : n > 127
    · refine ev_pos (by omega) (ev_pos (by omega) ?_)
      have e := ih (n / 128) (b ++ [((n % 128 + 128 : Nat) : Int)]) (by omega) (by omega) (by rw [List.length_append, List.length_singleton]; omega)
      rw [uv_byte n hn, show (n : Int) / 128 = ((n / 128 : Nat) : Int) by omega, uvN_big n h1]
      rw [List.append_assoc, List.singleton_append] at e
      exact e
    · refine ev_neg (by omega) (ev_pos (by omega) (ev_of ?_))
      rw [uvN_small n (by omega), show (n : Int) % 256 = (n : Int) by omega]
theorem impl_AppendUvarint_ev (b : List Int) (n : Int) (hb : b.length ≤ 1099511627776) : Ev (fun k => impl_AppendUvarint.f k b n) (appendUv b n) := by
  unfold impl_AppendUvarint.f appendUv
  refine ev_bind0 (clone_byte b (by omega)) (ev_bind0 (inRange_val _ _ _) ?_)
  by_cases h : 0 ≤ n ∧ n ≤ 1000000000000
  · rw [if_pos h]
    refine ev_pos (decide_eq_true h) ?_
    have e := impl_AppendUvarint_l0 n.toNat n.toNat b (Nat.le_refl _) (by omega) (by omega)
    rw [Int.toNat_of_nonneg h.1] at e
    exact e
  · rw [if_neg h]
    exact ev_neg (by simp only [decide_eq_true_eq]; exact h) (Ev.now _)
theorem ruvLoop_inv (l : List Int) (off : Int) (ho : 0 ≤ off) (hw : ∀ x ∈ l, (Lit.int .u8 x).wf = true) : ∀ (d i : Nat) (acc m after : Int), i + d = 6 → ruvLoop l off d i acc = (m, after, true) →
    ∃ q : Nat, m = acc + (q : Int) * 2 ^ (7 * i) ∧ (0 < i → 0 < q) ∧ after = off + (i : Int) + ((uvN q).length : Int) ∧ after ≤ (l.length : Int) ∧ (l.drop (off.toNat + i)).take (uvN q).length = uvN q ∧ m ≤ 1000000000000 := by
  intro d
  induction d with
  | zero =>
    intro i acc m after hd h
    simp [ruvLoop] at h
  | succ d ih =>
    intro i acc m after hd h
    have hb := rd_byte l hw (off + (i : Int))
    by_cases h1 : off + (i : Int) ≥ (l.length : Int)
    · rw [ruv_out l off d i acc h1] at h
      simp at h
    have hlt : off.toNat + i < l.length := by omega
    have hrd : rd l (off + (i : Int)) = l[off.toNat + i]'hlt := by
      rw [show off + (i : Int) = ((off.toNat + i : Nat) : Int) by omega, rd_at l _ hlt]
    obtain ⟨c, hc⟩ : ∃ c : Nat, rd l (off + (i : Int)) = (c : Int) := ⟨(rd l (off + (i : Int))).toNat, by omega⟩
    by_cases h2 : rd l (off + (i : Int)) < 128
    · by_cases h3 : (0 < i ∧ rd l (off + (i : Int)) = 0) ∨ acc + rd l (off + (i : Int)) % 128 * 2 ^ (7 * i) > 1000000000000
      · rw [ruv_bad l off d i acc h1 h2 h3] at h
        simp at h
      · rw [ruv_ok l off d i acc h1 h2 h3] at h
        simp only [Prod.mk.injEq, and_true] at h
        obtain ⟨hm, ha⟩ := h
        have h31 : ¬ (0 < i ∧ rd l (off + (i : Int)) = 0) := fun hh => h3 (.inl hh)
        have h32 : ¬ acc + rd l (off + (i : Int)) % 128 * 2 ^ (7 * i) > 1000000000000 := fun hh => h3 (.inr hh)
        have e : rd l (off + (i : Int)) % 128 = (c : Int) := by omega
        rw [e] at hm h32
        have hu : uvN c = [(c : Int)] := uvN_small c (by omega)
        refine ⟨c, hm.symm, fun hi => by omega, ?_, ?_, ?_, by omega⟩
        · rw [hu, ← ha]; simp only [List.length_singleton]; omega
        · omega
        · rw [hu, List.drop_eq_getElem_cons hlt, List.length_singleton, List.take_succ_cons, List.take_zero, ← hrd, hc]
    · rw [ruv_go l off d i acc h1 h2] at h
      obtain ⟨q, hm, hq, ha, hle, ht, h12⟩ := ih (i + 1) _ m after (by omega) h
      have hq' := hq (by omega)
      have hP : (2 : Int) ^ (7 * (i + 1)) = 2 ^ (7 * i) * 128 := by rw [Nat.mul_add, Nat.mul_one, Int.pow_add]; rfl
      have e : rd l (off + (i : Int)) % 128 = ((c % 128 : Nat) : Int) := by omega
      have hbig : c % 128 + 128 * q > 127 := by omega
      have hd1 : (c % 128 + 128 * q) % 128 = c % 128 := by omega
      have hd2 : (c % 128 + 128 * q) / 128 = q := by omega
      have hu : uvN (c % 128 + 128 * q) = (c : Int) :: uvN q := by
        rw [uvN_big _ hbig, hd1, hd2, show c % 128 + 128 = c by omega]
      refine ⟨c % 128 + 128 * q, ?_, fun _ => by omega, ?_, hle, ?_, h12⟩
      · rw [hm, hP, e]
        have e2 : ((c % 128 + 128 * q : Nat) : Int) = ((c % 128 : Nat) : Int) + 128 * (q : Int) := by omega
        rw [e2, Int.add_mul, Int.mul_comm (2 ^ (7 * i)) 128, ← Int.mul_assoc, Int.mul_comm (q : Int) 128, Int.add_assoc]
      · rw [ha, hu, List.length_cons]
        omega
      · rw [hu, List.drop_eq_getElem_cons hlt, List.length_cons, List.take_succ_cons, ← hrd, hc]
        rw [show off.toNat + i + 1 = off.toNat + (i + 1) by omega, ht]
theorem ruv_inv (l : List Int) (off m after : Int) (hw : ∀ x ∈ l, (Lit.int .u8 x).wf = true) (h : ruv l off = (m, after, true)) :
    0 ≤ off ∧ off < (l.length : Int) ∧ ∃ q : Nat, m = (q : Int) ∧ q ≤ 1000000000000 ∧ after = off + ((uvN q).length : Int) ∧ after ≤ (l.length : Int) ∧ (l.drop off.toNat).take (uvN q).length = uvN q := by
  unfold ruv at h
  by_cases hc : 0 ≤ off ∧ off < (l.length : Int)
  · rw [if_pos hc] at h
    obtain ⟨q, hm, _, ha, hle, ht, h12⟩ := ruvLoop_inv l off hc.1 hw 6 0 0 m after rfl h
    have e0 : (2 : Int) ^ (7 * 0) = 1 := rfl
    rw [e0, Int.mul_one, Int.zero_add] at hm
    exact ⟨hc.1, hc.2, q, hm, by omega, by rw [ha]; simp, hle, ht⟩
  · rw [if_neg hc] at h
    simp at h
theorem ruvLoop_fail (l : List Int) (off : Int) : ∀ (d i : Nat) (acc : Int), (ruvLoop l off d i acc).2.2 = false → ruvLoop l off d i acc = (0, 0, false) := by
  intro d
  induction d with
  | zero => intro i acc _; rfl
  | succ d ih =>
    intro i acc h
    by_cases h1 : off + (i : Int) ≥ (l.length : Int)
    · exact ruv_out l off d i acc h1
    by_cases h2 : rd l (off + (i : Int)) < 128
    · by_cases h3 : (0 < i ∧ rd l (off + (i : Int)) = 0) ∨ acc + rd l (off + (i : Int)) % 128 * 2 ^ (7 * i) > 1000000000000
      · exact ruv_bad l off d i acc h1 h2 h3
      · rw [ruv_ok l off d i acc h1 h2 h3] at h
        simp at h
    · rw [ruv_go l off d i acc h1 h2] at h ⊢
      exact ih _ _ h
theorem ruv_fail (l : List Int) (off : Int) (h : (ruv l off).2.2 = false) : ruv l off = (0, 0, false) := by
  unfold ruv at h ⊢
  split
  · rename_i hc
    rw [if_pos hc] at h
    exact ruvLoop_fail l off 6 0 0 h
  · rfl
theorem ruvLoop_enc (l : List Int) (off : Int) (ho : 0 ≤ off) : ∀ (d i m : Nat) (acc : Int) (rest : List Int), i + d = 6 → (uvN m).length ≤ d → l.drop (off.toNat + i) = uvN m ++ rest → (0 < i → 0 < m) → acc + (m : Int) * 2 ^ (7 * i) ≤ 1000000000000 →
    ruvLoop l off d i acc = (acc + (m : Int) * 2 ^ (7 * i), off + (i : Int) + ((uvN m).length : Int), true) := by
  intro d
  induction d with
  | zero =>
    intro i m acc rest hd hl hdr hi hacc
    have := uvN_pos m
    omega
  | succ d ih =>
    intro i m acc rest hd hl hdr hi hacc
    have hne : 0 < (l.drop (off.toNat + i)).length := by rw [hdr, List.length_append]; have := uvN_pos m; omega
    have hlt : off.toNat + i < l.length := by rw [List.length_drop] at hne; omega
    have h1 : ¬ off + (i : Int) ≥ (l.length : Int) := by omega
    have hrd : rd l (off + (i : Int)) = l[off.toNat + i]'hlt := by
      rw [show off + (i : Int) = ((off.toNat + i : Nat) : Int) by omega, rd_at l _ hlt]
    rw [List.drop_eq_getElem_cons hlt] at hdr
    by_cases hm : m > 127
    · rw [uvN_big m hm, List.cons_append, List.cons.injEq] at hdr
      obtain ⟨h2, h3⟩ := hdr
      rw [h2] at hrd
      have e : rd l (off + (i : Int)) % 128 = ((m % 128 : Nat) : Int) := by omega
      have hP : (2 : Int) ^ (7 * (i + 1)) = 2 ^ (7 * i) * 128 := by rw [Nat.mul_add, Nat.mul_one, Int.pow_add]; rfl
      have hsum : acc + ((m % 128 : Nat) : Int) * 2 ^ (7 * i) + ((m / 128 : Nat) : Int) * 2 ^ (7 * (i + 1)) = acc + (m : Int) * 2 ^ (7 * i) := by
        rw [hP, Int.mul_comm (2 ^ (7 * i)) 128, ← Int.mul_assoc, Int.add_assoc, ← Int.add_mul]
        rw [show ((m % 128 : Nat) : Int) + ((m / 128 : Nat) : Int) * 128 = (m : Int) by omega]
      rw [ruv_go l off d i acc h1 (by omega), e]
      have hu : (uvN m).length = (uvN (m / 128)).length + 1 := by rw [uvN_big m hm, List.length_cons]
      rw [ih (i + 1) (m / 128) _ rest (by omega) (by omega) (by rw [← h3]; rfl) (fun _ => by omega) (by rw [hsum]; exact hacc), hsum, hu]
      simp only [Prod.mk.injEq, and_true, true_and]
      omega
    · rw [uvN_small m (by omega), List.singleton_append, List.cons.injEq] at hdr
      rw [hdr.1] at hrd
      have e : rd l (off + (i : Int)) % 128 = (m : Int) := by omega
      rw [ruv_ok l off d i acc h1 (by omega) (by rw [e]; intro hh; rcases hh with hh | hh; (· have := hi hh.1; omega); (· omega)), e, uvN_small m (by omega)]
      rfl
theorem ruv_enc (b rest : List Int) (m : Nat) (hm : m ≤ 1000000000000) : ruv (b ++ (uvN m ++ rest)) (b.length : Int) = ((m : Int), (b.length : Int) + ((uvN m).length : Int), true) := by
  have hpos := uvN_pos m
  unfold ruv
  rw [if_pos (by rw [List.length_append, List.length_append]; omega)]
  have e0 : (2 : Int) ^ (7 * 0) = 1 := rfl
  have h := ruvLoop_enc (b ++ (uvN m ++ rest)) (b.length : Int) (by omega) 6 0 m 0 rest rfl (uvN_len6 m hm) (by rw [Int.toNat_natCast, Nat.add_zero, List.drop_left]) (fun h => by omega) (by rw [e0]; omega)
  rw [e0, Int.mul_one, Int.zero_add] at h
  rw [h]
  simp
theorem big_val (l : List Int) : laws_big.f l = some (decide ((l.length : Int) > 1048576)) := rfl
theorem l1New_l0 (l : List Int) (hl : l.length ≤ 1099511627776) : ∀ (d i : Nat) (h : Int), i + d = l.length → ∃ h', Ev (fun k => spec_l1New.l0 k l h (i : Int)) (l, 0, h') := by
  intro d
  induction d with
  | zero =>
    intro i h hd
    exact ⟨h, Ev.step (fun _ => spec_l1New.l0.eq_2 ..) (ev_neg (by omega) (Ev.now _))⟩
  | succ d ih =>
    intro i h hd
    by_cases h4 : (i : Int) < 4000
    · obtain ⟨h', e⟩ := ih (i + 1) _ (by omega)
      refine ⟨h', Ev.step (fun _ => spec_l1New.l0.eq_2 ..) (ev_pos (by omega) (ev_pos h4 (ev_pos (by omega) ?_)))⟩
      rw [w64 (x := (i : Int) + 1) (by omega) (by omega)]
      exact e
    · exact ⟨h, Ev.step (fun _ => spec_l1New.l0.eq_2 ..) (ev_pos (by omega) (ev_neg h4 (Ev.now _)))⟩
theorem l1New_ev (l : List Int) (hl : l.length ≤ 1099511627776) : ∃ h, Ev (fun k => spec_l1New.f k l) (l, 0, h) := by
  unfold spec_l1New.f
  exact l1New_l0 l hl l.length 0 _ (by omega)
theorem and255 (y : Int) : 0 ≤ Go.bits .and .i64 y 255 ∧ Go.bits .and .i64 y 255 ≤ 255 := by
  have h : (BitVec.ofInt 64 y &&& BitVec.ofInt 64 255).toNat ≤ 255 := by
    rw [BitVec.toNat_and]
    exact Nat.le_trans Nat.and_le_right (by decide)
  have e : Go.bits .and .i64 y 255 = IntKind.i64.wrap ((BitVec.ofInt 64 y &&& BitVec.ofInt 64 255).toNat : Int) := rfl
  rw [e, IntKind.wrap_i64]
  omega
theorem l1Byte_some (b : List Int) (hb : b.length ≤ 1099511627776) (i h : Int) (h0 : 0 ≤ i) (h1 : i ≤ 1099511627776) : ∃ x i' h', spec_l1Byte.f b i h = some (x, i', h') ∧ 0 ≤ x ∧ x ≤ 255 ∧ 0 ≤ i' ∧ i' ≤ 1099511627776 := by
  unfold spec_l1Byte.f
  by_cases c : i < (b.length : Int)
  · rw [if_pos c, if_pos h0, w64 (x := i + 1) (by omega) (by omega)]
    exact ⟨_, _, _, rfl, (and255 _).1, (and255 _).2, by omega, by omega⟩
  · rw [if_neg c]
    exact ⟨_, _, _, rfl, (and255 _).1, (and255 _).2, h0, h1⟩
theorem l1Below_some (b : List Int) (hb : b.length ≤ 1099511627776) (i h n : Int) (h0 : 0 ≤ i) (h1 : i ≤ 1099511627776) : ∃ x i' h', spec_l1Below.f b i h n = some (x, i', h') ∧ 0 ≤ x ∧ (0 < n → x < n) ∧ (n ≤ 0 → x = 0) ∧ 0 ≤ i' ∧ i' ≤ 1099511627776 := by
  unfold spec_l1Below.f
  by_cases c : n ≤ 0
  · rw [if_pos c]
    exact ⟨_, _, _, rfl, by omega, fun h => by omega, fun _ => rfl, h0, h1⟩
  rw [if_neg c]
  by_cases c2 : n ≤ 256
  · rw [if_pos c2]
    obtain ⟨x, i', h', e, hx0, hx1, hi0, hi1⟩ := l1Byte_some b hb i h h0 h1
    rw [e, Option.bind_some, if_neg (by omega)]
    refine ⟨_, _, _, rfl, ?_, fun _ => ?_, fun h => by omega, hi0, hi1⟩
    · rw [Int.tmod_eq_emod_of_nonneg hx0]; exact Int.emod_nonneg _ (by omega)
    · rw [Int.tmod_eq_emod_of_nonneg hx0]; exact Int.emod_lt_of_pos _ (by omega)
  · rw [if_neg c2]
    obtain ⟨x, i', h', e, hx0, hx1, hi0, hi1⟩ := l1Byte_some b hb i h h0 h1
    rw [e, Option.bind_some]
    obtain ⟨y, i2, h2, e2, hy0, hy1, hi20, hi21⟩ := l1Byte_some b hb i' h' hi0 hi1
    rw [e2, Option.bind_some]
    obtain ⟨z, i3, h3, e3, hz0, hz1, hi30, hi31⟩ := l1Byte_some b hb i2 h2 hi20 hi21
    rw [e3, Option.bind_some, if_neg (by omega)]
    have ew : wrap64 ((wrap64 ((wrap64 (x * 65536)) + (wrap64 (y * 256)))) + z) = x * 65536 + y * 256 + z := by
      rw [w64 (x := x * 65536) (by omega) (by omega), w64 (x := y * 256) (by omega) (by omega), w64 (x := x * 65536 + y * 256) (by omega) (by omega), w64 (by omega) (by omega)]
    refine ⟨_, _, _, rfl, ?_, fun _ => ?_, fun h => by omega, hi30, hi31⟩
    · rw [ew, Int.tmod_eq_emod_of_nonneg (by omega)]; exact Int.emod_nonneg _ (by omega)
    · rw [ew, Int.tmod_eq_emod_of_nonneg (by omega)]; exact Int.emod_lt_of_pos _ (by omega)
theorem l1Once_some (b : List Int) (hb : b.length ≤ 1099511627776) (i h n : Int) (h0 : 0 ≤ i) (h1 : i ≤ 1099511627776) : ∃ x i' h', spec_l1Once.f b i h n = some (x, i', h') ∧ 0 ≤ i' ∧ i' ≤ 1099511627776 := by
  unfold spec_l1Once.f
  obtain ⟨x, i', h', e, _, _, _, hi0, hi1⟩ := l1Below_some b hb i h n h0 h1
  rw [e, Option.bind_some]
  exact ⟨_, _, _, rfl, hi0, hi1⟩
theorem l1Int_some (b : List Int) (hb : b.length ≤ 1099511627776) (i h : Int) (l : List Int) (hl : 0 < l.length) (h0 : 0 ≤ i) (h1 : i ≤ 1099511627776) : ∃ x i' h', spec_l1Int.f b i h l = some (x, i', h') ∧ x ∈ l ∧ 0 ≤ i' ∧ i' ≤ 1099511627776 := by
  unfold spec_l1Int.f
  obtain ⟨x, i', h', e, hx0, hx1, _, hi0, hi1⟩ := l1Below_some b hb i h (l.length : Int) h0 h1
  have hx := hx1 (by omega)
  rw [e, Option.bind_some, if_pos hx0, if_pos hx]
  refine ⟨_, _, _, rfl, ?_, hi0, hi1⟩
  obtain ⟨j, rfl⟩ := Int.eq_ofNat_of_zero_le hx0
  show rd l (j : Int) ∈ l
  rw [rd_at l j (by omega)]
  exact List.getElem_mem _
theorem l1Bytes_l0 (b : List Int) (hb : b.length ≤ 1099511627776) (n : Nat) (hn : n ≤ 1099511627776) : ∀ (d j : Nat) (out : List Int) (i h : Int), j + d = n → out.length = j → (∀ x ∈ out, (Lit.int .u8 x).wf = true) → 0 ≤ i → i ≤ 1099511627776 →
    ∃ (r : List Int) (i' h' : Int), Ev (fun k => spec_l1Bytes.l0 k (n : Int) out (j : Int) b i h) (r, i', h') ∧ r.length = n ∧ (∀ x ∈ r, (Lit.int .u8 x).wf = true) ∧ 0 ≤ i' ∧ i' ≤ 1099511627776 := by
  intro d
  induction d with
  | zero =>
    intro j out i h hd ho hw h0 h1
    exact ⟨out, i, h, Ev.step (fun _ => spec_l1Bytes.l0.eq_2 ..) (ev_neg (by omega) (Ev.now _)), by omega, hw, h0, h1⟩
  | succ d ih =>
    intro j out i h hd ho hw h0 h1
    obtain ⟨x, i', h', e, hx0, hx1, hi0, hi1⟩ := l1Byte_some b hb i h h0 h1
    obtain ⟨r, i2, h2, er, hr, hrw, hi20, hi21⟩ := ih (j + 1) (out ++ [x % 256]) i' h' (by omega) (by rw [List.length_append, List.length_singleton]; omega) (fun y hy => by
      rcases List.mem_append.1 hy with hy | hy
      · exact hw y hy
      · have := List.mem_singleton.1 hy
        exact wf8_mk (by omega) (by omega)) hi0 hi1
    refine ⟨r, i2, h2, Ev.step (fun _ => spec_l1Bytes.l0.eq_2 ..) (ev_pos (by omega) (ev_bind0 e (ev_pos (by omega) ?_))), hr, hrw, hi20, hi21⟩
    rw [w64 (x := (j : Int) + 1) (by omega) (by omega)]
    exact er
theorem l1Bytes_ev (b : List Int) (hb : b.length ≤ 1099511627776) (i h n : Int) (hn0 : 0 ≤ n) (hn : n ≤ 1099511627776) (h0 : 0 ≤ i) (h1 : i ≤ 1099511627776) :
    ∃ (r : List Int) (i' h' : Int), Ev (fun k => spec_l1Bytes.f k b i h n) (r, i', h') ∧ (r.length : Int) = n ∧ (∀ x ∈ r, (Lit.int .u8 x).wf = true) ∧ 0 ≤ i' ∧ i' ≤ 1099511627776 := by
  obtain ⟨r, i', h', e, hr, hw, hi0, hi1⟩ := l1Bytes_l0 b hb n.toNat (by omega) n.toNat 0 [] i h (by omega) rfl (fun x hx => by simp at hx) h0 h1
  rw [Int.toNat_of_nonneg hn0] at e
  exact ⟨r, i', h', e, by omega, hw, hi0, hi1⟩
theorem l1Num_some (b : List Int) (hb : b.length ≤ 1099511627776) (i h : Int) (h0 : 0 ≤ i) (h1 : i ≤ 1099511627776) : ∃ x i' h', spec_l1Num.f b i h = some (x, i', h') ∧ 0 ≤ x ∧ x ≤ 1000000000000 ∧ 0 ≤ i' ∧ i' ≤ 1099511627776 := by
  unfold spec_l1Num.f
  obtain ⟨x, i', h', e, hx0, hx1, _, hi0, hi1⟩ := l1Below_some b hb i h 4 h0 h1
  rw [e, Option.bind_some]
  by_cases c0 : x = 0
  · obtain ⟨y, i2, h2, e2, hy0, hy1, _, hi20, hi21⟩ := l1Below_some b hb i' h' 2000 hi0 hi1
    have := hy1 (by omega)
    rw [if_pos c0, e2, Option.bind_some]
    exact ⟨_, _, _, rfl, by omega, by omega, hi20, hi21⟩
  rw [if_neg c0]
  by_cases c1 : x = 1
  · obtain ⟨y, i2, h2, e2, hm, hi20, hi21⟩ := l1Int_some b hb i' h' [0, 1, 127, 128, 2147483646, 2147483647, 1000000000000] (by decide) hi0 hi1
    rw [if_pos c1, e2, Option.bind_some]
    simp only [List.mem_cons, List.not_mem_nil, or_false] at hm
    exact ⟨_, _, _, rfl, by omega, by omega, hi20, hi21⟩
  rw [if_neg c1]
  by_cases c2 : x = 2
  · obtain ⟨y, i2, h2, e2, hy0, hy1, _, hi20, hi21⟩ := l1Below_some b hb i' h' 1000000 hi0 hi1
    obtain ⟨z, i3, h3, e3, hz0, hz1, _, hi30, hi31⟩ := l1Below_some b hb i2 h2 1000000 hi20 hi21
    have hy := hy1 (by omega)
    have hz := hz1 (by omega)
    rw [if_pos c2, e2, Option.bind_some, e3, Option.bind_some]
    have hm0 : 0 ≤ y * z := Int.mul_nonneg hy0 hz0
    have hm1 : y * z ≤ 1000000 * 1000000 := Int.mul_le_mul (by omega) (by omega) hz0 (by omega)
    rw [w64 (x := y * z) (by omega) (by omega)]
    exact ⟨_, _, _, rfl, hm0, by omega, hi30, hi31⟩
  · obtain ⟨y, i2, h2, e2, hy0, hy1, _, hi20, hi21⟩ := l1Below_some b hb i' h' 20 hi0 hi1
    have := hy1 (by omega)
    rw [if_neg c2, e2, Option.bind_some]
    exact ⟨_, _, _, rfl, by omega, by omega, hi20, hi21⟩
theorem wf64_mk {x : Int} (h0 : -9223372036854775808 ≤ x) (h1 : x ≤ 9223372036854775807) : (Lit.int .i64 x).wf = true := by
  simp [Lit.wf, IntKind.min, IntKind.max, IntKind.signed, IntKind.bits]
  omega
theorem l1Raw_some (b : List Int) (hb : b.length ≤ 1099511627776) (i h : Int) (h0 : 0 ≤ i) (h1 : i ≤ 1099511627776) : ∃ x i' h', spec_l1Raw.f b i h = some (x, i', h') ∧ (Lit.int .i64 x).wf = true ∧ 0 ≤ i' ∧ i' ≤ 1099511627776 := by
  unfold spec_l1Raw.f spec_l1Odd.f
  obtain ⟨x, i', h', e, hi0, hi1⟩ := l1Once_some b hb i h 2 h0 h1
  rw [e, Option.bind_some]
  by_cases c : x = true
  · obtain ⟨y, i2, h2, e2, hm, hi20, hi21⟩ := l1Int_some b hb i' h' [(-1), 0, 1, 2, 255, 256, 65535, 2147483647, 2147483648, 4294967295, 4294967296, (-2147483648), 9223372036854775807, (-9223372036854775808)] (by decide) hi0 hi1
    rw [if_pos c, e2, Option.bind_some]
    simp only [List.mem_cons, List.not_mem_nil, or_false] at hm
    exact ⟨_, _, _, rfl, wf64_mk (show _ ≤ y by omega) (show y ≤ _ by omega), hi20, hi21⟩
  · obtain ⟨y, i2, h2, e2, hm, hi20, hi21⟩ := l1Int_some b hb i' h' [(-1), 1000000000000, 1000000000001] (by decide) hi0 hi1
    rw [if_neg c, e2, Option.bind_some]
    simp only [List.mem_cons, List.not_mem_nil, or_false] at hm
    exact ⟨_, _, _, rfl, wf64_mk (show _ ≤ y by omega) (show y ≤ _ by omega), hi20, hi21⟩
theorem l1One_some (b : List Int) (hb : b.length ≤ 1099511627776) (i h : Int) (h0 : 0 ≤ i) (h1 : i ≤ 1099511627776) : ∃ x i' h', spec_l1One.f b i h = some (x, i', h') ∧ (Lit.int .i64 x).wf = true ∧ 0 ≤ i' ∧ i' ≤ 1099511627776 := by
  unfold spec_l1One.f
  obtain ⟨x, i', h', e, hi0, hi1⟩ := l1Once_some b hb i h 6 h0 h1
  rw [e, Option.bind_some]
  by_cases c : x = true
  · obtain ⟨y, i2, h2, e2, hm, hi20, hi21⟩ := l1Raw_some b hb i' h' hi0 hi1
    rw [if_pos c, e2, Option.bind_some]
    exact ⟨_, _, _, rfl, hm, hi20, hi21⟩
  · obtain ⟨y, i2, h2, e2, hy0, hy1, hi20, hi21⟩ := l1Num_some b hb i' h' hi0 hi1
    rw [if_neg c, e2, Option.bind_some]
    exact ⟨_, _, _, rfl, wf64_mk (by omega) (by omega), hi20, hi21⟩
theorem sameBytes_l0 (xs : List Int) (hn : xs.length ≤ 9223372036854775807) : ∀ (d i : Nat), i + d = xs.length → Ev (fun k => laws_sameBytes.l0 k xs xs (i : Int)) true := by
  intro d
  induction d with
  | zero =>
    intro i hd
    exact Ev.step (fun _ => laws_sameBytes.l0.eq_2 ..) (ev_neg (by omega) (Ev.now true))
  | succ d ih =>
    intro i hd
    refine Ev.step (fun _ => laws_sameBytes.l0.eq_2 ..) (ev_pos (by omega) (ev_pos (by omega) (ev_pos (by omega) (ev_pos rfl ?_))))
    rw [w64 (by omega) (by omega)]
    exact ih (i + 1) (by omega)
theorem sameBytes_same (xs : List Int) (hn : xs.length ≤ 9223372036854775807) : Ev (fun k => laws_sameBytes.f k xs xs) true := by
  unfold laws_sameBytes.f
  exact ev_pos rfl (sameBytes_l0 xs hn xs.length 0 (by omega))
theorem drawAppend_ev (l : List Int) (hl : l.length ≤ 1048576) : ∃ (b : List Int) (n : Int), Ev (fun k => spec_DrawAppendUvarint.f k l) (b, n) ∧ b.length ≤ 3 ∧ (∀ x ∈ b, (Lit.int .u8 x).wf = true) := by
  unfold spec_DrawAppendUvarint.f
  obtain ⟨h, e1⟩ := l1New_ev l (by omega)
  obtain ⟨x, i2, h2, e2, hx0, hx1, _, hi20, hi21⟩ := l1Below_some l (by omega) 0 h 3 (by omega) (by omega)
  have hx := hx1 (by omega)
  obtain ⟨b, i3, h3, e3, hb, hw, hi30, hi31⟩ := l1Bytes_ev l (by omega) i2 h2 x hx0 (by omega) hi20 hi21
  obtain ⟨n, i4, h4, e4, _, _, _⟩ := l1One_some l (by omega) i3 h3 hi30 hi31
  exact ⟨b, n, Ev.bind e1 (ev_bind0 e2 (Ev.bind e3 (ev_bind0 e4 (Ev.now _)))), by omega, hw⟩
theorem drawRead_l0 (b : List Int) (hb : b.length ≤ 1048576) : ∀ (d : Nat) (out : List Int) (i h : Int), (∀ x ∈ out, (Lit.int .u8 x).wf = true) → out.length + d ≤ 100 → 0 ≤ i → i ≤ 1099511627776 →
    ∃ (r : List Int) (n : Int), Ev (fun k => spec_DrawReadUvarint.l0 k out (d : Int) b i h) (r, n) ∧ r.length ≤ 100 ∧ (∀ x ∈ r, (Lit.int .u8 x).wf = true) := by
  intro d
  induction d with
  | zero =>
    intro out i h hw hl h0 h1
    obtain ⟨x, i2, h2, e2, _, _, _, _, _⟩ := l1Below_some b (by omega) i h 4 h0 h1
    exact ⟨out, _, Ev.step (fun _ => spec_DrawReadUvarint.l0.eq_2 ..) (ev_neg (by omega) (ev_bind0 e2 (Ev.now _))), by omega, hw⟩
  | succ d ih =>
    intro out i h hw hl h0 h1
    obtain ⟨x, i2, h2, e2, hm, hi0, hi1⟩ := l1Int_some b (by omega) i h [128, 255, 0, 1, 127] (by decide) h0 h1
    simp only [List.mem_cons, List.not_mem_nil, or_false] at hm
    obtain ⟨r, n, e, hr, hrw⟩ := ih (out ++ [x % 256]) i2 h2 (fun y hy => by
      rcases List.mem_append.1 hy with hy | hy
      · exact hw y hy
      · have := List.mem_singleton.1 hy
        exact wf8_mk (by omega) (by omega)) (by rw [List.length_append, List.length_singleton]; omega) hi0 hi1
    refine ⟨r, n, Ev.step (fun _ => spec_DrawReadUvarint.l0.eq_2 ..) (ev_pos (by omega) (ev_bind0 e2 (ev_pos (by omega) ?_))), hr, hrw⟩
    rw [w64 (by omega) (by omega), show ((d + 1 : Nat) : Int) - 1 = (d : Int) by omega]
    exact e
theorem drawRead_ev (l : List Int) (hl : l.length ≤ 1048576) : ∃ (b : List Int) (n : Int), Ev (fun k => spec_DrawReadUvarint.f k l) (b, n) ∧ b.length ≤ 100 ∧ (∀ x ∈ b, (Lit.int .u8 x).wf = true) := by
  unfold spec_DrawReadUvarint.f
  obtain ⟨h, e1⟩ := l1New_ev l (by omega)
  obtain ⟨x, i2, h2, e2, hi20, hi21⟩ := l1Once_some l (by omega) 0 h 2 (by omega) (by omega)
  by_cases c : x = true
  · obtain ⟨b, i3, h3, e3, hb, hw, hi30, hi31⟩ := l1Bytes_ev l (by omega) i2 h2 1 (by omega) (by omega) hi20 hi21
    obtain ⟨n, i4, h4, e4, _, _, _, _⟩ := l1Num_some l (by omega) i3 h3 hi30 hi31
    have ha := appendUv_len b n
    exact ⟨appendUv b n, 1, Ev.bind e1 (ev_bind0 e2 (ev_pos c (Ev.bind e3 (ev_bind0 e4 (Ev.bind (spec_AppendUvarint_ev b n (by omega)) (Ev.now _)))))), by omega, appendUv_wf b n hw⟩
  · obtain ⟨n, i4, h4, e4, hn0, hn1, _, hi40, hi41⟩ := l1Below_some l (by omega) i2 h2 8 hi20 hi21
    have := hn1 (by omega)
    obtain ⟨r, m, e, hr, hw⟩ := drawRead_l0 l hl n.toNat [] i4 h4 (fun x hx => by simp at hx) (by simp only [List.length_nil]; omega) hi40 hi41
    rw [Int.toNat_of_nonneg hn0] at e
    exact ⟨r, m, Ev.bind e1 (ev_bind0 e2 (ev_neg c (ev_bind0 e4 e))), hr, hw⟩
theorem varints_j1 (l : List Int) (hl : l.length ≤ 1048576) : Ev (fun k => laws_FnVarints.j1 k l) true := by
  obtain ⟨b, off, e, hb, hw⟩ := drawRead_ev l hl
  refine Ev.step (fun _ => laws_FnVarints.j1.eq_2 ..) (Ev.bind e (Ev.bind (impl_ReadUvarint_ev b (by omega) hw off) ?_))
  by_cases hk : (ruv b off).2.2 = true
  · obtain ⟨m, after, er⟩ : ∃ m after, ruv b off = (m, after, true) := ⟨(ruv b off).1, (ruv b off).2.1, by rw [← hk]⟩
    obtain ⟨h0, h1, q, hm, hq, ha, hle, ht⟩ := ruv_inv b off m after hw er
    have hp := uvN_pos q
    rw [er]
    refine ev_pos rfl (ev_pos h0 (ev_pos hle (ev_pos (by simp only; omega) ?_)))
    refine Ev.bind (impl_AppendUvarint_ev [] m (by simp)) (ev_pos h0 (ev_pos (by simp only; omega) ?_))
    have e1 : appendUv [] m = uvN q := by
      unfold appendUv
      rw [if_pos (by omega), List.nil_append, hm, Int.toNat_natCast]
    have e2 : (b.take after.toNat).drop off.toNat = uvN q := by
      rw [← ht, List.drop_take, show after.toNat - off.toNat = (uvN q).length by omega]
    simp only [e1, e2]
    have hlen := uvN_len6 q (by omega)
    exact Ev.bind (sameBytes_same _ (by omega)) (Ev.now _)
  · have hf := ruv_fail b off (Bool.eq_false_iff.2 hk)
    refine ev_neg hk ?_
    refine Ev.bind (spec_ReadUvarint_ev b (by omega) hw off) ?_
    rw [hf]
    exact ev_pos rfl (ev_pos rfl (Ev.now _))
theorem FnVarints : ∀ (x0 : List Int), (x0.length ≤ 9223372036854775807 ∧ ∀ y ∈ x0, (Lit.int .u8 y).wf = true) → ∃ k, laws_FnVarints.f k x0 = some true := by
  intro l hl
  obtain ⟨hl, _⟩ := hl
  refine Ev.rounds (g := fun k => laws_FnVarints.f k l) ?_
  unfold laws_FnVarints.f
  refine ev_bind0 (big_val l) ?_
  by_cases hb : (l.length : Int) > 1048576
  · exact ev_pos (decide_eq_true hb) (Ev.now true)
  refine ev_neg (by simp only [decide_eq_true_eq]; exact hb) ?_
  obtain ⟨b, n, e, hb3, hw⟩ := drawAppend_ev l (by omega)
  have ha := appendUv_len b n
  have hj1 := varints_j1 l (by omega)
  refine Ev.bind e (Ev.bind (impl_AppendUvarint_ev b n (by omega)) (Ev.bind (impl_ReadUvarint_ev _ (by omega) (appendUv_wf b n hw) _) ?_))
  by_cases hin : 0 ≤ n ∧ n ≤ 1000000000000
  · have e1 : appendUv b n = b ++ (uvN n.toNat ++ []) := by
      unfold appendUv
      rw [if_pos hin, List.append_nil]
    have e2 := ruv_enc b [] n.toNat (by omega)
    rw [← e1, Int.toNat_of_nonneg hin.1] at e2
    simp only [e2]
    refine ev_neg (by omega) (Ev.step (fun _ => laws_FnVarints.j0.eq_2 ..) (ev_neg (by simp only [decide_eq_true_eq]; omega) (ev_pos rfl (ev_pos rfl (ev_pos ?_ hj1)))))
    rw [e1, List.append_nil, List.length_append]
    omega
  · have e1 : appendUv b n = b := by
      unfold appendUv
      rw [if_neg hin]
    have e2 : ruv b (b.length : Int) = (0, 0, false) := by
      unfold ruv
      rw [if_neg (by omega)]
    rw [e1]
    simp only [e2]
    have hj0 : Ev (fun k => laws_FnVarints.j0 k l b n b 0 0 false true) true :=
      Ev.step (fun _ => laws_FnVarints.j0.eq_2 ..) (ev_pos rfl (ev_neg (by decide) (Ev.bind (sameBytes_same b (by omega)) (ev_pos rfl hj1))))
    by_cases hneg : n < 0
    · exact ev_pos hneg hj0
    · refine ev_neg hneg ?_
      rw [decide_eq_true (show n > 1000000000000 by omega)]
      exact hj0

end Go.Proofs.Ytgcidlnhgpjdpac.Pure
