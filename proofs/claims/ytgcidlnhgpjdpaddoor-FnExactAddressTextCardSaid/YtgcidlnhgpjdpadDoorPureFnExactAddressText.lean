/- The pure statement behind the law FnExactAddressText: over numbers and lists the law answers true, at every input that the row's bounds let in. -/
import Derived.Test.YtgcidlnhgpjdpadDoorQFnExactAddressTextx2
import Derived.Lib.ItoaLen
import Derived.Test.YtgcidlnhgpjdpadDoorQFnExactAddressTextg
namespace Go.Proofs.YtgcidlnhgpjdpadDoor.Pure
open Go Go.RowKit Go.Proofs.YtgcidlnhgpjdpadDoor.QFnExactAddressText Go.Proofs.YtgcidlnhgpjdpadDoorW.PrintWords Go.Proofs.YtgcidlnhgpjdpadDoorW.PrintLast Go.Proofs.YtgcidlnhgpjdpadDoorW.PrintMore
set_option linter.unusedVariables false
set_option linter.unusedSimpArgs false
set_option maxRecDepth 100000

theorem w64 {x : Int} (h0 : -9223372036854775808 ≤ x) (h1 : x ≤ 9223372036854775807) : wrap64 x = x := by unfold wrap64; omega
theorem ev_pos {α : Type} {c : Prop} [Decidable c] {g f : Nat → Option α} {r : α} (h : c) (k : Ev g r) : Ev (fun n => if c then g n else f n) r := by
  obtain ⟨K, hK⟩ := k
  exact ⟨K, fun n hn => (if_pos h).trans (hK n hn)⟩
theorem ev_neg {α : Type} {c : Prop} [Decidable c] {g f : Nat → Option α} {r : α} (h : ¬ c) (k : Ev f r) : Ev (fun n => if c then g n else f n) r := by
  obtain ⟨K, hK⟩ := k
  exact ⟨K, fun n hn => (if_neg h).trans (hK n hn)⟩
theorem ev_bind0 {α β : Type} {o : Option α} {f : Nat → α → Option β} {a : α} {r : β} (h : o = some a) (k : Ev (fun n => f n a) r) : Ev (fun n => o.bind (f n)) r := by
  subst h
  exact k
theorem ev_of {α : Type} {o : Option α} {r : α} (h : o = some r) : Ev (fun _ => o) r := ⟨0, fun _ _ => h⟩
theorem l1In_val (a b c : Int) : spec_l1In.f a b c = some (decide (b ≤ a ∧ a ≤ c)) := by
  unfold spec_l1In.f
  by_cases h : a ≥ b
  · rw [if_pos h]; simp [h]
  · rw [if_neg h]; simp [h]
theorem inRange_val (a b c : Int) : impl_InRange.f a b c = some (decide (b ≤ a ∧ a ≤ c)) := by
  unfold impl_InRange.f
  by_cases h : b ≤ a
  · rw [if_pos h]; simp [h]
  · rw [if_neg h]; simp [h]
def bl (l : List UInt8) : ByteArray := ⟨l.toArray⟩
theorem bl_append (a b : List UInt8) : bl a ++ bl b = bl (a ++ b) := by
  apply ByteArray.ext
  rw [ByteArray.data_append]
  simp [bl]
theorem bl_size (a : List UInt8) : (bl a).size = a.length := by simp [bl, ByteArray.size]
theorem strOfNums_one (z : Int) : strOfNums [z] = bl [UInt8.ofNat z.toNat] := by
  apply ByteArray.ext
  apply Array.ext'
  rw [strOfNums_data]
  simp [bl]
def digs (u : Nat) : List UInt8 := if h : u = 0 then [] else digs (u / 10) ++ [UInt8.ofNat (48 + u % 10)]
termination_by u
decreasing_by omega
theorem digs_zero : digs 0 = [] := by rw [digs]; rfl
theorem digs_pos (u : Nat) (h : ¬ u = 0) : digs u = digs (u / 10) ++ [UInt8.ofNat (48 + u % 10)] := by
  rw [digs, dif_neg h]
theorem digs_dec (u : Nat) (h : ¬ u = 0) : digs u = Lib.decDigits u := by
  induction u using Nat.strongRecOn with
  | _ u ih =>
    rw [digs_pos u h, Lib.decDigits]
    by_cases c : u < 10
    · rw [dif_pos c, show u / 10 = 0 by omega, digs_zero, show u % 10 = u by omega, List.nil_append]
    · rw [dif_neg c, ih (u / 10) (by omega) (by omega)]
theorem itoa_len (n : Int) (h0 : -9223372036854775808 ≤ n) (h1 : n ≤ 9223372036854775807) : (Lib.itoa n).length ≤ 21 := Lib.itoa_length_le n h0 h1
theorem spec_FormatInt_l0 (n : Int) : ∀ (d : Nat) (x : Int) (l : List UInt8), x.natAbs < 10 ^ d → l.length + d ≤ 100 → -9223372036854775808 ≤ x → x ≤ 9223372036854775807 → Ev (fun k => spec_FormatInt.l0 k n (bl l) x) (if n < 0 then bl (45 :: (digs x.natAbs ++ l)) else bl (digs x.natAbs ++ l)) := by
  intro d
  have fin : ∀ (l : List UInt8), l.length ≤ 100 → Ev (fun k => spec_FormatInt.l0 k n (bl l) 0) (if n < 0 then bl (45 :: l) else bl l) := by
    intro l hl
    refine Ev.step (fun _ => spec_FormatInt.l0.eq_2 ..) (ev_pos rfl ?_)
    by_cases c : n < 0
    · rw [show (if n < 0 then bl (45 :: l) else bl l) = bl (45 :: l) from if_pos c]
      refine ev_pos c (ev_pos (by rw [bl_size]; omega) (ev_of ?_))
      have e : (⟨#[45]⟩ : ByteArray) = bl [45] := rfl
      rw [e, bl_append]
      rfl
    · rw [show (if n < 0 then bl (45 :: l) else bl l) = bl l from if_neg c]
      exact ev_neg c (Ev.now _)
  induction d with
  | zero =>
    intro x l hx hl _ _
    obtain rfl : x = 0 := by simp at hx; exact hx
    have h := fin l (by omega)
    rw [show (0 : Int).natAbs = 0 from rfl, digs_zero, List.nil_append]
    exact h
  | succ d ih =>
    intro x l hx hl h0 h1
    by_cases c : x = 0
    · subst c
      have h := fin l (by omega)
      rw [show (0 : Int).natAbs = 0 from rfl, digs_zero, List.nil_append]
      exact h
    · have hu : ¬ x.natAbs = 0 := by omega
      have hq : (Int.tdiv x 10).natAbs = x.natAbs / 10 := by rw [Int.natAbs_tdiv]; rfl
      have hm : (Int.tmod x 10).natAbs = x.natAbs % 10 := by rw [Int.natAbs_tmod]; rfl
      have hm9 : x.natAbs % 10 < 10 := Nat.mod_lt _ (by omega)
      have hq2 : Int.tdiv x 10 * 10 + Int.tmod x 10 = x := Int.tdiv_mul_add_tmod x 10
      have e1 : digs x.natAbs ++ l = digs (Int.tdiv x 10).natAbs ++ (UInt8.ofNat (48 + x.natAbs % 10) :: l) := by
        rw [digs_pos _ hu, hq, List.append_assoc]
        rfl
      have key := ih (Int.tdiv x 10) (UInt8.ofNat (48 + x.natAbs % 10) :: l) (by rw [hq, Nat.pow_succ] at *; omega) (by rw [List.length_cons]; omega) (by omega) (by omega)
      rw [e1]
      refine Ev.step (fun _ => spec_FormatInt.l0.eq_2 ..) (ev_neg c ?_)
      have step : ∀ (z : Int), z = (48 + x.natAbs % 10 : Nat) → Ev (fun k => (some ([z] : List Int)).bind fun y => if (strOfNums y).size + (bl l).size ≤ 9223372036854775807 then spec_FormatInt.l0 k n (strOfNums y ++ bl l) (wrap64 (Int.tdiv x 10)) else none) (if n < 0 then bl (45 :: (digs (Int.tdiv x 10).natAbs ++ (UInt8.ofNat (48 + x.natAbs % 10) :: l))) else bl (digs (Int.tdiv x 10).natAbs ++ (UInt8.ofNat (48 + x.natAbs % 10) :: l))) := by
        intro z hz
        refine ev_bind0 rfl (ev_pos (by rw [strOfNums_one, bl_size, bl_size, List.length_singleton]; omega) ?_)
        rw [w64 (x := Int.tdiv x 10) (by omega) (by omega), strOfNums_one, bl_append, hz, Int.toNat_natCast]
        exact key
      by_cases cm : Int.tmod x 10 < 0
      · refine ev_pos cm (step _ ?_)
        rw [w64 (x := -(Int.tmod x 10)) (by omega) (by omega), w64 (x := 48 + -(Int.tmod x 10)) (by omega) (by omega)]
        omega
      · refine ev_neg cm (step _ ?_)
        rw [w64 (x := 48 + Int.tmod x 10) (by omega) (by omega)]
        omega
theorem spec_FormatInt_ev (n : Int) (h0 : -9223372036854775808 ≤ n) (h1 : n ≤ 9223372036854775807) : Ev (fun k => spec_FormatInt.f k n) (bl (Lib.itoa n)) := by
  unfold spec_FormatInt.f
  by_cases c : n = 0
  · refine ev_pos c (ev_of ?_)
    subst c
    have e : Lib.itoa 0 = [48] := by
      unfold Lib.itoa
      rw [if_neg (by omega)]
      exact Lib.decDigits_one (i := 0) (by omega)
    rw [e]
    rfl
  · refine ev_neg c ?_
    have h := spec_FormatInt_l0 n 20 n [] (by omega) (by simp) h0 h1
    have e : (if n < 0 then bl (45 :: (digs n.natAbs ++ [])) else bl (digs n.natAbs ++ [])) = bl (Lib.itoa n) := by
      rw [List.append_nil, digs_dec _ (by omega)]
      unfold Lib.itoa
      by_cases cn : n < 0
      · rw [if_pos cn, if_pos cn]
      · rw [if_neg cn, if_neg cn, show n.toNat = n.natAbs by omega]
    rw [e] at h
    exact h
theorem impl_FormatInt_val (n : Int) (h0 : -9223372036854775808 ≤ n) (h1 : n ≤ 9223372036854775807) : impl_FormatInt.f n = some (bl (Lib.itoa n)) := by
  unfold impl_FormatInt.f
  have e : ∀ (o : Option ByteArray), o = some (bl (Lib.itoa n)) → (o.bind fun t => some t) = some (bl (Lib.itoa n)) := by
    intro o h
    rw [h]
    rfl
  exact e _ (if_pos ⟨h0, h1⟩)
def isAddr (a b c : Int) : Bool := decide (1 ≤ a ∧ a ≤ 9) && (decide (0 ≤ b ∧ b ≤ 99) && decide (0 ≤ c ∧ c ≤ 99))
theorem spec_IsAddress_val (a b c : Int) : spec_IsAddress.f a b c = some (isAddr a b c) := by
  unfold spec_IsAddress.f isAddr
  simp only [l1In_val, Option.bind_some]
  by_cases h1 : 1 ≤ a ∧ a ≤ 9 <;> by_cases h2 : 0 ≤ b ∧ b ≤ 99 <;> simp [h1, h2]
theorem impl_IsAddress_val (a b c : Int) : impl_IsAddress.f a b c = some (isAddr a b c) := by
  unfold impl_IsAddress.f isAddr
  simp only [inRange_val, Option.bind_some]
  by_cases h1 : 1 ≤ a ∧ a ≤ 9 <;> by_cases h2 : 0 ≤ b ∧ b ≤ 99 <;> simp [h1, h2]
theorem isAddr_range (a b c : Int) (h : isAddr a b c = true) : 1 ≤ a ∧ a ≤ 9 ∧ 0 ≤ b ∧ b ≤ 99 ∧ 0 ≤ c ∧ c ≤ 99 := by
  unfold isAddr at h
  simp only [Bool.and_eq_true, decide_eq_true_eq] at h
  omega
def addrText (a b c : Int) : List UInt8 := Lib.itoa a ++ [47] ++ Lib.itoa b ++ (if c = 0 then [] else 63 :: Lib.itoa c)
theorem addrText_zero (a b : Int) : addrText a b 0 = Lib.itoa a ++ [47] ++ Lib.itoa b := by
  unfold addrText
  rw [if_pos rfl, List.append_nil]
theorem addrText_pos (a b c : Int) (h : ¬ c = 0) : addrText a b c = Lib.itoa a ++ [47] ++ Lib.itoa b ++ 63 :: Lib.itoa c := by
  unfold addrText
  rw [if_neg h]
theorem spec_AddressText_ev (a b c : Int) : Ev (fun k => spec_AddressText.f k a b c) (if isAddr a b c = true then bl (addrText a b c) else bl []) := by
  unfold spec_AddressText.f
  refine ev_bind0 (spec_IsAddress_val a b c) ?_
  by_cases h : isAddr a b c = true
  · rw [show (if isAddr a b c = true then bl (addrText a b c) else bl []) = bl (addrText a b c) from if_pos h]
    have hr := isAddr_range a b c h
    have la := itoa_len a (by omega) (by omega)
    have lb := itoa_len b (by omega) (by omega)
    have lc := itoa_len c (by omega) (by omega)
    have e47 : (⟨#[47]⟩ : ByteArray) = bl [47] := rfl
    have e63 : (⟨#[63]⟩ : ByteArray) = bl [63] := rfl
    refine ev_pos h (Ev.bind (spec_FormatInt_ev a (by omega) (by omega)) (ev_pos (by rw [bl_size]; omega) (Ev.bind (spec_FormatInt_ev b (by omega) (by omega)) ?_)))
    rw [e47, e63, bl_append, bl_append, bl_append]
    refine ev_pos (by rw [bl_size, bl_size, List.length_append, List.length_singleton]; omega) ?_
    by_cases hc : c = 0
    · subst hc
      rw [addrText_zero]
      exact ev_pos rfl (Ev.now _)
    · rw [addrText_pos _ _ _ hc]
      refine ev_neg hc (ev_pos (by rw [bl_size, List.length_append, List.length_append, List.length_singleton]; omega) (Ev.bind (spec_FormatInt_ev c (by omega) (by omega)) (ev_pos (by rw [bl_size, bl_size, List.length_append, List.length_append, List.length_append, List.length_singleton, List.length_singleton]; omega) (ev_of ?_))))
      rw [bl_append, List.append_assoc _ [63]]
      rfl
  · rw [show (if isAddr a b c = true then bl (addrText a b c) else bl []) = bl [] from if_neg h]
    exact ev_neg h (Ev.now _)
theorem impl_AddressText_val (a b c : Int) : impl_AddressText.f a b c = some (if isAddr a b c = true then bl (addrText a b c) else bl []) := by
  have key : Ev (fun _ => impl_AddressText.f a b c) (if isAddr a b c = true then bl (addrText a b c) else bl []) := by
    unfold impl_AddressText.f
    refine ev_bind0 (impl_IsAddress_val a b c) ?_
    by_cases h : isAddr a b c = true
    · rw [show (if isAddr a b c = true then bl (addrText a b c) else bl []) = bl (addrText a b c) from if_pos h]
      have hr := isAddr_range a b c h
      have la := itoa_len a (by omega) (by omega)
      have lb := itoa_len b (by omega) (by omega)
      have lc := itoa_len c (by omega) (by omega)
      have e47 : (⟨#[47]⟩ : ByteArray) = bl [47] := rfl
      have e63 : (⟨#[63]⟩ : ByteArray) = bl [63] := rfl
      refine ev_pos h (ev_bind0 (impl_FormatInt_val a (by omega) (by omega)) (ev_pos (by rw [bl_size]; omega) (ev_bind0 (impl_FormatInt_val b (by omega) (by omega)) ?_)))
      rw [e47, e63, bl_append, bl_append]
      refine ev_pos (by rw [bl_size, bl_size, List.length_append, List.length_singleton]; omega) ?_
      by_cases hc : c = 0
      · subst hc
        rw [addrText_zero]
        exact ev_pos rfl (Ev.now _)
      · rw [addrText_pos _ _ _ hc]
        refine ev_neg hc (ev_bind0 (impl_FormatInt_val c (by omega) (by omega)) (ev_pos (by rw [bl_size]; omega) ?_))
        rw [bl_append]
        refine ev_pos (by rw [bl_size, bl_size, List.length_append, List.length_append, List.length_append, List.length_singleton, List.length_singleton]; omega) (ev_of ?_)
        rw [bl_append]
        rfl
    · rw [show (if isAddr a b c = true then bl (addrText a b c) else bl []) = bl [] from if_neg h]
      exact ev_neg h (Ev.now _)
  obtain ⟨K, hK⟩ := key
  exact hK K (Nat.le_refl _)
theorem FnExactAddressText : ∀ (x0 : S28), (g28 x0) → ∃ k, laws_FnExactAddressText.f k x0.f0 x0.f1 x0.f2 = some true := by
  intro x _
  refine Ev.rounds (g := fun k => laws_FnExactAddressText.f k x.f0 x.f1 x.f2) ?_
  unfold laws_FnExactAddressText.f
  exact ev_bind0 rfl (Ev.bind (spec_AddressText_ev x.f0 x.f1 x.f2) (ev_bind0 rfl (ev_bind0 (impl_AddressText_val x.f0 x.f1 x.f2) (ev_pos rfl (Ev.now true)))))

end Go.Proofs.YtgcidlnhgpjdpadDoor.Pure
