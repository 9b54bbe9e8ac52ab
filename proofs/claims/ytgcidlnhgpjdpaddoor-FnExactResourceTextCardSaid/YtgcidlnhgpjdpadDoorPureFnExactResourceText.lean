/- The pure statement behind the law FnExactResourceText: over numbers and lists the law answers true, at every input that the row's bounds let in. -/
import Derived.Test.YtgcidlnhgpjdpadDoorQFnExactResourceTextx6
import Derived.Lib.ItoaLen
import Derived.Test.YtgcidlnhgpjdpadDoorQFnExactResourceTextg
namespace Go.Proofs.YtgcidlnhgpjdpadDoor.Pure
open Go Go.RowKit Go.Proofs.YtgcidlnhgpjdpadDoor.QFnExactResourceText Go.Proofs.YtgcidlnhgpjdpadDoorW.PrintWords Go.Proofs.YtgcidlnhgpjdpadDoorW.PrintLast Go.Proofs.YtgcidlnhgpjdpadDoorW.PrintMore
set_option linter.unusedVariables false
set_option linter.unusedSimpArgs false
set_option maxRecDepth 100000

theorem w64 {x : Int} (h0 : -9223372036854775808 ≤ x) (h1 : x ≤ 9223372036854775807) : wrap64 x = x := by unfold wrap64; omega
theorem ev_pos {α : Type} {c : Prop} [Decidable c] {g f : Nat → Option α} {r : α} (h : c) (k : Ev g r) : Ev (fun n => if c then g n else f n) r := by
  obtain ⟨K, hK⟩ := k
  exact ⟨K, fun n hn => (if_pos h).trans (hK n hn)⟩
theorem ev_neg {α : Type} {c : Prop} [Decidable c] {g f : Nat → Option α} {r : α} (h : ¬ c) (k : Ev f r) : Ev (fun n => if c then g n else f n) r := by
  obtain ⟨K, hK⟩ := k
  exact ⟨K, fun n hn => (if_neg h).trans (hK n hn)⟩
theorem ev_bind0 {α β : Type} {o : Option α} {f : Nat → α → Option β} {a : α} {r : β} (h : o = some a) (k : Ev (fun n => f n a) r) : Ev (fun n => o.bind (f n)) r := by
  subst h
  exact k
theorem ev_of {α : Type} {o : Option α} {r : α} (h : o = some r) : Ev (fun _ => o) r := ⟨0, fun _ _ => h⟩
theorem rd_at (xs : List Int) (i : Nat) (h : i < xs.length) : rd xs (i : Int) = xs[i] := by
  unfold rd
  rw [Int.toNat_natCast, List.getD_eq_getElem?_getD, List.getElem?_eq_getElem h]
  rfl
theorem set_take {out xs : List Int} {i : Nat} (h : out.take i = xs.take i) (hl : out.length = xs.length) (hi : i < xs.length) : (out.set ((i : Int)).toNat (rd xs i)).take (i + 1) = xs.take (i + 1) := by
  rw [rd_at xs i hi, Int.toNat_natCast, List.take_succ_eq_append_getElem hi, List.take_succ_eq_append_getElem (by rw [List.length_set]; omega)]
  rw [List.take_set_of_le (Nat.le_refl _), h]
  simp
theorem toIntS_l0 (xs : List Int) (hn : xs.length ≤ 35184372088832) : ∀ (d i : Nat) (out : List Int), i + d = xs.length → out.length = xs.length → out.take i = xs.take i → Ev (fun k => laws_toIntS.l0 k xs out (i : Int)) xs := by
  intro d
  induction d with
  | zero =>
    intro i out hd hl ht
    refine Ev.step (fun _ => laws_toIntS.l0.eq_2 ..) (ev_neg (by omega) (ev_of ?_))
    rw [List.take_of_length_le (by omega), List.take_of_length_le (by omega)] at ht
    rw [ht]
  | succ d ih =>
    intro i out hd hl ht
    refine Ev.step (fun _ => laws_toIntS.l0.eq_2 ..) (ev_pos (by omega) (ev_pos (by omega) (ev_pos (by omega) ?_)))
    rw [w64 (by omega) (by omega)]
    exact ih (i + 1) _ (by omega) (by rw [List.length_set]; exact hl) (set_take ht hl (by omega))
theorem toIntS_ev (xs : List Int) (hn : xs.length ≤ 35184372088832) : Ev (fun k => laws_toIntS.f k xs) xs := by
  unfold laws_toIntS.f
  refine ev_pos (by omega) (ev_pos (by omega) ?_)
  exact toIntS_l0 xs hn xs.length 0 _ (by omega) (by simp) (by simp)
theorem eqIntS_l0 (xs : List Int) (hn : xs.length ≤ 9223372036854775807) : ∀ (d i : Nat), i + d = xs.length → Ev (fun k => laws_eqIntS.l0 k xs xs (i : Int)) true := by
  intro d
  induction d with
  | zero =>
    intro i hd
    exact Ev.step (fun _ => laws_eqIntS.l0.eq_2 ..) (ev_neg (by omega) (Ev.now true))
  | succ d ih =>
    intro i hd
    refine Ev.step (fun _ => laws_eqIntS.l0.eq_2 ..) (ev_pos (by omega) (ev_pos (by omega) (ev_pos (by omega) (ev_pos rfl ?_))))
    rw [w64 (by omega) (by omega)]
    exact ih (i + 1) (by omega)
theorem eqIntS_same (xs : List Int) (hn : xs.length ≤ 9223372036854775807) : Ev (fun k => laws_eqIntS.f k xs xs) true := by
  unfold laws_eqIntS.f
  exact ev_pos rfl (eqIntS_l0 xs hn xs.length 0 (by omega))
def szR (a : Int) (n : Nat) : Int := if a - (n : Int) < 0 then -1 else a - (n : Int)
theorem szR_neg (a : Int) (n m : Nat) (h : szR a n < 0) : szR a (n + m) = -1 := by
  unfold szR at h ⊢
  by_cases c : a - (n : Int) < 0
  · rw [if_pos (by omega)]
  · rw [if_neg c] at h
    omega
theorem szR_neg1 (a : Int) (n : Nat) (h : szR a n < 0) : szR a n = -1 := by
  have := szR_neg a n 0 h
  rwa [Nat.add_zero] at this
theorem szR_le (a : Int) (n : Nat) (h : ¬ szR a n < 0) : (n : Int) ≤ a := by
  unfold szR at h
  by_cases c : a - (n : Int) < 0
  · rw [if_pos c] at h
    omega
  · omega
theorem szIntS_val (l : List Int) (a : Int) (h0 : 0 ≤ a) (h1 : a ≤ 9223372036854775807) (hl : l.length ≤ 9223372036854775807) : laws_szIntS.f l a = some (szR a l.length) := by
  unfold laws_szIntS.f szR
  rw [w64 (by omega) (by omega)]
  split <;> rfl
theorem some_neg {a : Int} (h : a < 0 → a = -1) : (if a < 0 then some (-1) else some a) = some a := by
  split
  · rw [h (by assumption)]
  · rfl
theorem szResource_val (a0 : Int) (l : List Int) (a2 a3 a4 a : Int) (h0 : 0 ≤ a) (h1 : a ≤ 9223372036854775807) (hl : l.length ≤ 9223372036854775807) : laws_szResource.f a0 l a2 a3 a4 a = some (szR a l.length) := by
  unfold laws_szResource.f
  rw [szIntS_val l a h0 h1 hl, Option.bind_some]
  exact some_neg (szR_neg1 a _)
theorem toResource_ev (a0 : Int) (l : List Int) (a2 a3 a4 : Int) (hn : l.length ≤ 35184372088832) : Ev (fun k => laws_toResource.f k a0 l a2 a3 a4) (a0, l, a2, a3, a4) := by
  unfold laws_toResource.f laws_toAddress.f
  exact Ev.bind (toIntS_ev l hn) (Ev.now _)
theorem eqAddress_same (a b c : Int) : laws_eqAddress.f a b c a b c = some true := by
  unfold laws_eqAddress.f
  rw [if_pos rfl, if_pos rfl, if_pos rfl]
theorem eqResource_same (a0 : Int) (l : List Int) (a2 a3 a4 : Int) (hn : l.length ≤ 9223372036854775807) : Ev (fun k => laws_eqResource.f k a0 l a2 a3 a4 a0 l a2 a3 a4) true := by
  unfold laws_eqResource.f
  refine ev_pos rfl (Ev.bind (eqIntS_same l hn) (ev_pos rfl (ev_bind0 (eqAddress_same _ _ _) (ev_pos rfl (Ev.now _)))))
theorem l1In_val (a b c : Int) : spec_l1In.f a b c = some (decide (b ≤ a ∧ a ≤ c)) := by
  unfold spec_l1In.f
  by_cases h : a ≥ b
  · rw [if_pos h]; simp [h]
  · rw [if_neg h]; simp [h]
theorem inRange_val (a b c : Int) : impl_InRange.f a b c = some (decide (b ≤ a ∧ a ≤ c)) := by
  unfold impl_InRange.f
  by_cases h : b ≤ a
  · rw [if_pos h]; simp [h]
  · rw [if_neg h]; simp [h]
def bl (l : List UInt8) : ByteArray := ⟨l.toArray⟩
theorem bl_append (a b : List UInt8) : bl a ++ bl b = bl (a ++ b) := by
  apply ByteArray.ext
  rw [ByteArray.data_append]
  simp [bl]
theorem bl_size (a : List UInt8) : (bl a).size = a.length := by simp [bl, ByteArray.size]
theorem strOfNums_one (z : Int) : strOfNums [z] = bl [UInt8.ofNat z.toNat] := by
  apply ByteArray.ext
  apply Array.ext'
  rw [strOfNums_data]
  simp [bl]
def digs (u : Nat) : List UInt8 := if h : u = 0 then [] else digs (u / 10) ++ [UInt8.ofNat (48 + u % 10)]
termination_by u
decreasing_by omega
theorem digs_zero : digs 0 = [] := by rw [digs]; rfl
theorem digs_pos (u : Nat) (h : ¬ u = 0) : digs u = digs (u / 10) ++ [UInt8.ofNat (48 + u % 10)] := by
  rw [digs, dif_neg h]
theorem digs_dec (u : Nat) (h : ¬ u = 0) : digs u = Lib.decDigits u := by
  induction u using Nat.strongRecOn with
  | _ u ih =>
    rw [digs_pos u h, Lib.decDigits]
    by_cases c : u < 10
    · rw [dif_pos c, show u / 10 = 0 by omega, digs_zero, show u % 10 = u by omega, List.nil_append]
    · rw [dif_neg c, ih (u / 10) (by omega) (by omega)]
theorem itoa_len (n : Int) (h0 : -9223372036854775808 ≤ n) (h1 : n ≤ 9223372036854775807) : (Lib.itoa n).length ≤ 21 := Lib.itoa_length_le n h0 h1
theorem spec_FormatInt_l0 (n : Int) : ∀ (d : Nat) (x : Int) (l : List UInt8), x.natAbs < 10 ^ d → l.length + d ≤ 100 → -9223372036854775808 ≤ x → x ≤ 9223372036854775807 → Ev (fun k => spec_FormatInt.l0 k n (bl l) x) (if n < 0 then bl (45 :: (digs x.natAbs ++ l)) else bl (digs x.natAbs ++ l)) := by
  intro d
  have fin : ∀ (l : List UInt8), l.length ≤ 100 → Ev (fun k => spec_FormatInt.l0 k n (bl l) 0) (if n < 0 then bl (45 :: l) else bl l) := by
    intro l hl
    refine Ev.step (fun _ => spec_FormatInt.l0.eq_2 ..) (ev_pos rfl ?_)
    by_cases c : n < 0
    · rw [show (if n < 0 then bl (45 :: l) else bl l) = bl (45 :: l) from if_pos c]
      refine ev_pos c (ev_pos (by rw [bl_size]; omega) (ev_of ?_))
      have e : (⟨#[45]⟩ : ByteArray) = bl [45] := rfl
      rw [e, bl_append]
      rfl
    · rw [show (if n < 0 then bl (45 :: l) else bl l) = bl l from if_neg c]
      exact ev_neg c (Ev.now _)
  induction d with
  | zero =>
    intro x l hx hl _ _
    obtain rfl : x = 0 := by simp at hx; exact hx
    have h := fin l (by omega)
    rw [show (0 : Int).natAbs = 0 from rfl, digs_zero, List.nil_append]
    exact h
  | succ d ih =>
    intro x l hx hl h0 h1
    by_cases c : x = 0
    · subst c
      have h := fin l (by omega)
      rw [show (0 : Int).natAbs = 0 from rfl, digs_zero, List.nil_append]
      exact h
    · have hu : ¬ x.natAbs = 0 := by omega
      have hq : (Int.tdiv x 10).natAbs = x.natAbs / 10 := by rw [Int.natAbs_tdiv]; rfl
      have hm : (Int.tmod x 10).natAbs = x.natAbs % 10 := by rw [Int.natAbs_tmod]; rfl
      have hm9 : x.natAbs % 10 < 10 := Nat.mod_lt _ (by omega)
      have hq2 : Int.tdiv x 10 * 10 + Int.tmod x 10 = x := Int.tdiv_mul_add_tmod x 10
      have e1 : digs x.natAbs ++ l = digs (Int.tdiv x 10).natAbs ++ (UInt8.ofNat (48 + x.natAbs % 10) :: l) := by
        rw [digs_pos _ hu, hq, List.append_assoc]
        rfl
      have key := ih (Int.tdiv x 10) (UInt8.ofNat (48 + x.natAbs % 10) :: l) (by rw [hq, Nat.pow_succ] at *; omega) (by rw [List.length_cons]; omega) (by omega) (by omega)
      rw [e1]
      refine Ev.step (fun _ => spec_FormatInt.l0.eq_2 ..) (ev_neg c ?_)
      have step : ∀ (z : Int), z = (48 + x.natAbs % 10 : Nat) → Ev (fun k => (some ([z] : List Int)).bind fun y => if (strOfNums y).size + (bl l).size ≤ 9223372036854775807 then spec_FormatInt.l0 k n (strOfNums y ++ bl l) (wrap64 (Int.tdiv x 10)) else none) (if n < 0 then bl (45 :: (digs (Int.tdiv x 10).natAbs ++ (UInt8.ofNat (48 + x.natAbs % 10) :: l))) else bl (digs (Int.tdiv x 10).natAbs ++ (UInt8.ofNat (48 + x.natAbs % 10) :: l))) := by
        intro z hz
        refine ev_bind0 rfl (ev_pos (by rw [strOfNums_one, bl_size, bl_size, List.length_singleton]; omega) ?_)
        rw [w64 (x := Int.tdiv x 10) (by omega) (by omega), strOfNums_one, bl_append, hz, Int.toNat_natCast]
        exact key
      by_cases cm : Int.tmod x 10 < 0
      · refine ev_pos cm (step _ ?_)
        rw [w64 (x := -(Int.tmod x 10)) (by omega) (by omega), w64 (x := 48 + -(Int.tmod x 10)) (by omega) (by omega)]
        omega
      · refine ev_neg cm (step _ ?_)
        rw [w64 (x := 48 + Int.tmod x 10) (by omega) (by omega)]
        omega
theorem spec_FormatInt_ev (n : Int) (h0 : -9223372036854775808 ≤ n) (h1 : n ≤ 9223372036854775807) : Ev (fun k => spec_FormatInt.f k n) (bl (Lib.itoa n)) := by
  unfold spec_FormatInt.f
  by_cases c : n = 0
  · refine ev_pos c (ev_of ?_)
    subst c
    have e : Lib.itoa 0 = [48] := by
      unfold Lib.itoa
      rw [if_neg (by omega)]
      exact Lib.decDigits_one (i := 0) (by omega)
    rw [e]
    rfl
  · refine ev_neg c ?_
    have h := spec_FormatInt_l0 n 20 n [] (by omega) (by simp) h0 h1
    have e : (if n < 0 then bl (45 :: (digs n.natAbs ++ [])) else bl (digs n.natAbs ++ [])) = bl (Lib.itoa n) := by
      rw [List.append_nil, digs_dec _ (by omega)]
      unfold Lib.itoa
      by_cases cn : n < 0
      · rw [if_pos cn, if_pos cn]
      · rw [if_neg cn, if_neg cn, show n.toNat = n.natAbs by omega]
    rw [e] at h
    exact h
theorem impl_FormatInt_val (n : Int) (h0 : -9223372036854775808 ≤ n) (h1 : n ≤ 9223372036854775807) : impl_FormatInt.f n = some (bl (Lib.itoa n)) := by
  unfold impl_FormatInt.f
  have e : ∀ (o : Option ByteArray), o = some (bl (Lib.itoa n)) → (o.bind fun t => some t) = some (bl (Lib.itoa n)) := by
    intro o h
    rw [h]
    rfl
  exact e _ (if_pos ⟨h0, h1⟩)
def isAddr (a b c : Int) : Bool := decide (1 ≤ a ∧ a ≤ 9) && (decide (0 ≤ b ∧ b ≤ 99) && decide (0 ≤ c ∧ c ≤ 99))
theorem spec_IsAddress_val (a b c : Int) : spec_IsAddress.f a b c = some (isAddr a b c) := by
  unfold spec_IsAddress.f isAddr
  simp only [l1In_val, Option.bind_some]
  by_cases h1 : 1 ≤ a ∧ a ≤ 9 <;> by_cases h2 : 0 ≤ b ∧ b ≤ 99 <;> simp [h1, h2]
theorem impl_IsAddress_val (a b c : Int) : impl_IsAddress.f a b c = some (isAddr a b c) := by
  unfold impl_IsAddress.f isAddr
  simp only [inRange_val, Option.bind_some]
  by_cases h1 : 1 ≤ a ∧ a ≤ 9 <;> by_cases h2 : 0 ≤ b ∧ b ≤ 99 <;> simp [h1, h2]
theorem isAddr_range (a b c : Int) (h : isAddr a b c = true) : 1 ≤ a ∧ a ≤ 9 ∧ 0 ≤ b ∧ b ≤ 99 ∧ 0 ≤ c ∧ c ≤ 99 := by
  unfold isAddr at h
  simp only [Bool.and_eq_true, decide_eq_true_eq] at h
  omega
def addrText (a b c : Int) : List UInt8 := Lib.itoa a ++ [47] ++ Lib.itoa b ++ (if c = 0 then [] else 63 :: Lib.itoa c)
theorem addrText_zero (a b : Int) : addrText a b 0 = Lib.itoa a ++ [47] ++ Lib.itoa b := by
  unfold addrText
  rw [if_pos rfl, List.append_nil]
theorem addrText_pos (a b c : Int) (h : ¬ c = 0) : addrText a b c = Lib.itoa a ++ [47] ++ Lib.itoa b ++ 63 :: Lib.itoa c := by
  unfold addrText
  rw [if_neg h]
theorem spec_AddressText_ev (a b c : Int) : Ev (fun k => spec_AddressText.f k a b c) (if isAddr a b c = true then bl (addrText a b c) else bl []) := by
  unfold spec_AddressText.f
  refine ev_bind0 (spec_IsAddress_val a b c) ?_
  by_cases h : isAddr a b c = true
  · rw [show (if isAddr a b c = true then bl (addrText a b c) else bl []) = bl (addrText a b c) from if_pos h]
    have hr := isAddr_range a b c h
    have la := itoa_len a (by omega) (by omega)
    have lb := itoa_len b (by omega) (by omega)
    have lc := itoa_len c (by omega) (by omega)
    have e47 : (⟨#[47]⟩ : ByteArray) = bl [47] := rfl
    have e63 : (⟨#[63]⟩ : ByteArray) = bl [63] := rfl
    refine ev_pos h (Ev.bind (spec_FormatInt_ev a (by omega) (by omega)) (ev_pos (by rw [bl_size]; omega) (Ev.bind (spec_FormatInt_ev b (by omega) (by omega)) ?_)))
    rw [e47, e63, bl_append, bl_append, bl_append]
    refine ev_pos (by rw [bl_size, bl_size, List.length_append, List.length_singleton]; omega) ?_
    by_cases hc : c = 0
    · subst hc
      rw [addrText_zero]
      exact ev_pos rfl (Ev.now _)
    · rw [addrText_pos _ _ _ hc]
      refine ev_neg hc (ev_pos (by rw [bl_size, List.length_append, List.length_append, List.length_singleton]; omega) (Ev.bind (spec_FormatInt_ev c (by omega) (by omega)) (ev_pos (by rw [bl_size, bl_size, List.length_append, List.length_append, List.length_append, List.length_singleton, List.length_singleton]; omega) (ev_of ?_))))
      rw [bl_append, List.append_assoc _ [63]]
      rfl
  · rw [show (if isAddr a b c = true then bl (addrText a b c) else bl []) = bl [] from if_neg h]
    exact ev_neg h (Ev.now _)
theorem impl_AddressText_val (a b c : Int) : impl_AddressText.f a b c = some (if isAddr a b c = true then bl (addrText a b c) else bl []) := by
  have key : Ev (fun _ => impl_AddressText.f a b c) (if isAddr a b c = true then bl (addrText a b c) else bl []) := by
    unfold impl_AddressText.f
    refine ev_bind0 (impl_IsAddress_val a b c) ?_
    by_cases h : isAddr a b c = true
    · rw [show (if isAddr a b c = true then bl (addrText a b c) else bl []) = bl (addrText a b c) from if_pos h]
      have hr := isAddr_range a b c h
      have la := itoa_len a (by omega) (by omega)
      have lb := itoa_len b (by omega) (by omega)
      have lc := itoa_len c (by omega) (by omega)
      have e47 : (⟨#[47]⟩ : ByteArray) = bl [47] := rfl
      have e63 : (⟨#[63]⟩ : ByteArray) = bl [63] := rfl
      refine ev_pos h (ev_bind0 (impl_FormatInt_val a (by omega) (by omega)) (ev_pos (by rw [bl_size]; omega) (ev_bind0 (impl_FormatInt_val b (by omega) (by omega)) ?_)))
      rw [e47, e63, bl_append, bl_append]
      refine ev_pos (by rw [bl_size, bl_size, List.length_append, List.length_singleton]; omega) ?_
      by_cases hc : c = 0
      · subst hc
        rw [addrText_zero]
        exact ev_pos rfl (Ev.now _)
      · rw [addrText_pos _ _ _ hc]
        refine ev_neg hc (ev_bind0 (impl_FormatInt_val c (by omega) (by omega)) (ev_pos (by rw [bl_size]; omega) ?_))
        rw [bl_append]
        refine ev_pos (by rw [bl_size, bl_size, List.length_append, List.length_append, List.length_append, List.length_singleton, List.length_singleton]; omega) (ev_of ?_)
        rw [bl_append]
        rfl
    · rw [show (if isAddr a b c = true then bl (addrText a b c) else bl []) = bl [] from if_neg h]
      exact ev_neg h (Ev.now _)
  obtain ⟨K, hK⟩ := key
  exact hK K (Nat.le_refl _)
def okB (l : List Int) : Bool := l.all fun x => decide (0 ≤ x ∧ x ≤ 255)
theorem spec_l5Bytes_l0 (xs : List Int) (hn : xs.length ≤ 1099511627776) : ∀ (d i : Nat), i + d = xs.length → Ev (fun k => spec_l5Bytes.l0 k xs (i : Int)) (okB (xs.drop i)) := by
  intro d
  induction d with
  | zero =>
    intro i hd
    refine Ev.step (fun _ => spec_l5Bytes.l0.eq_2 ..) (ev_neg (by omega) (ev_of ?_))
    rw [List.drop_eq_nil_of_le (by omega)]
    rfl
  | succ d ih =>
    intro i hd
    have hlt : i < xs.length := by omega
    refine Ev.step (fun _ => spec_l5Bytes.l0.eq_2 ..) (ev_pos (by omega) (ev_pos (by omega) (ev_bind0 (l1In_val _ _ _) ?_)))
    rw [rd_at xs i hlt, List.drop_eq_getElem_cons hlt, okB, List.all_cons]
    by_cases h : 0 ≤ xs[i]'hlt ∧ xs[i]'hlt ≤ 255
    · refine ev_pos (decide_eq_true h) ?_
      rw [w64 (by omega) (by omega), decide_eq_true h, Bool.true_and]
      exact ih (i + 1) (by omega)
    · refine ev_neg (by simp only [decide_eq_true_eq]; exact h) (ev_of ?_)
      rw [decide_eq_false h, Bool.false_and]
theorem impl_allIn_l0 (xs : List Int) (hn : xs.length ≤ 1099511627776) : ∀ (d i : Nat), i + d = xs.length → Ev (fun k => impl_allIn.l0 k 0 255 xs (xs.length : Int) (i : Int)) (okB (xs.drop i)) := by
  intro d
  induction d with
  | zero =>
    intro i hd
    refine Ev.step (fun _ => impl_allIn.l0.eq_2 ..) (ev_neg (by omega) (ev_of ?_))
    rw [List.drop_eq_nil_of_le (by omega)]
    rfl
  | succ d ih =>
    intro i hd
    have hlt : i < xs.length := by omega
    refine Ev.step (fun _ => impl_allIn.l0.eq_2 ..) (ev_pos (by omega) (ev_pos (by omega) (ev_pos (by omega) (ev_bind0 (inRange_val _ _ _) ?_))))
    rw [rd_at xs i hlt, List.drop_eq_getElem_cons hlt, okB, List.all_cons]
    by_cases h : 0 ≤ xs[i]'hlt ∧ xs[i]'hlt ≤ 255
    · refine ev_pos (decide_eq_true h) ?_
      rw [w64 (by omega) (by omega), decide_eq_true h, Bool.true_and]
      exact ih (i + 1) (by omega)
    · refine ev_neg (by simp only [decide_eq_true_eq]; exact h) (ev_of ?_)
      rw [decide_eq_false h, Bool.false_and]
theorem spec_l5Bytes_ev (xs : List Int) (hn : xs.length ≤ 1099511627776) : Ev (fun k => spec_l5Bytes.f k xs) (okB xs) := by
  unfold spec_l5Bytes.f
  exact spec_l5Bytes_l0 xs hn xs.length 0 (by omega)
theorem impl_allIn_ev (xs : List Int) (hn : xs.length ≤ 1099511627776) : Ev (fun k => impl_allIn.f k xs 0 255) (okB xs) := by
  unfold impl_allIn.f
  exact impl_allIn_l0 xs hn xs.length 0 (by omega)
def zeroA (a b c : Int) : Bool := a == 0 && (b == 0 && (c == 0))
def isRes (k : Int) (l : List Int) (a b c : Int) : Bool :=
  if k = 1 ∨ k = 2 then decide (l.length ≤ 6) && (okB l && zeroA a b c)
  else if k = 3 then decide (l.length = 0) && isAddr a b c
  else if k = 4 then decide (l.length = 0) && zeroA a b c else false
theorem len0 (l : List Int) : ((l.length : Int) == 0) = decide (l.length = 0) := by
  rw [Bool.eq_iff_iff]
  simp
theorem okB_nil (l : List Int) (h : l.length = 0) : okB l = true := by
  rw [List.eq_nil_of_length_eq_zero h]
  rfl
theorem spec_IsResource_ev (k : Int) (l : List Int) (a b c : Int) (hn : l.length ≤ 1099511627776) : Ev (fun n => spec_IsResource.f n k l a b c) (isRes k l a b c) := by
  unfold spec_IsResource.f
  refine ev_bind0 (l1In_val _ _ _) ?_
  by_cases hk : 1 ≤ k ∧ k ≤ 4
  · refine ev_pos (decide_eq_true hk) (Ev.bind (spec_l5Bytes_ev l hn) ?_)
    by_cases ho : okB l = true
    · refine ev_pos ho (Ev.step (fun _ => spec_IsResource.j0.eq_2 ..) ?_)
      by_cases hl : l.length ≤ 6
      · refine ev_neg (by simp only [decide_eq_true_eq]; omega) ?_
        by_cases h3 : k = 3
        · refine ev_pos h3 (ev_bind0 (spec_IsAddress_val _ _ _) ?_)
          have e : isRes k l a b c = (decide (l.length = 0) && isAddr a b c) := by unfold isRes; rw [if_neg (by omega), if_pos h3]
          rw [e]
          by_cases ha : isAddr a b c = true
          · refine ev_pos ha (ev_of ?_)
            rw [len0, ha, Bool.and_true]
          · refine ev_neg ha (ev_of ?_)
            rw [Bool.eq_false_iff.2 ha, Bool.and_false]
        · refine ev_neg h3 ?_
          by_cases hz : zeroA a b c = true
          · refine ev_pos hz ?_
            by_cases h4 : k = 4
            · refine ev_pos h4 (ev_of ?_)
              unfold isRes
              rw [if_neg (by omega), if_neg h3, if_pos h4, hz, Bool.and_true, len0]
            · refine ev_neg h4 (ev_of ?_)
              unfold isRes
              rw [if_pos (by omega), hz, ho, decide_eq_true hl]
              rfl
          · refine ev_neg hz (ev_of ?_)
            unfold isRes
            have hz' := Bool.eq_false_iff.2 hz
            by_cases h4 : k = 4
            · rw [if_neg (by omega), if_neg h3, if_pos h4, hz', Bool.and_false]
            · rw [if_pos (by omega), hz', Bool.and_false, Bool.and_false]
      · refine ev_pos (decide_eq_true (by omega)) (ev_of ?_)
        unfold isRes
        rw [decide_eq_false hl, decide_eq_false (show ¬ l.length = 0 by omega)]
        simp
    · refine ev_neg ho (Ev.step (fun _ => spec_IsResource.j0.eq_2 ..) (ev_pos rfl (ev_of ?_)))
      have hne : ¬ l.length = 0 := fun h => ho (okB_nil l h)
      unfold isRes
      rw [Bool.eq_false_iff.2 ho, decide_eq_false hne]
      simp
  · refine ev_neg (by simp only [decide_eq_true_eq]; exact hk) (Ev.step (fun _ => spec_IsResource.j0.eq_2 ..) (ev_pos rfl (ev_of ?_)))
    unfold isRes
    rw [if_neg (by omega), if_neg (by omega), if_neg (by omega)]
theorem impl_IsResource_ev (k : Int) (l : List Int) (a b c : Int) (hn : l.length ≤ 1099511627776) : Ev (fun n => impl_IsResource.f n k l a b c) (isRes k l a b c) := by
  have body : ∀ q : Bool, (q = true ↔ k = 1 ∨ k = 2) → Ev (fun n => impl_IsResource.j0 n k q k l a b c) (isRes k l a b c) := by
    intro q hq
    refine Ev.step (fun _ => impl_IsResource.j0.eq_2 ..) ?_
    by_cases h : q = true
    · refine ev_pos h ?_
      have e : isRes k l a b c = (decide (l.length ≤ 6) && (okB l && zeroA a b c)) := by unfold isRes; rw [if_pos (hq.1 h)]
      rw [e]
      by_cases hl : l.length ≤ 6
      · refine ev_pos (by omega) (Ev.bind (impl_allIn_ev l hn) ?_)
        rw [decide_eq_true hl, Bool.true_and]
        by_cases ho : okB l = true
        · refine ev_pos ho (ev_of ?_)
          rw [ho, Bool.true_and]
          rfl
        · refine ev_neg ho (ev_of ?_)
          rw [Bool.eq_false_iff.2 ho, Bool.false_and]
      · refine ev_neg (by omega) (ev_of ?_)
        rw [decide_eq_false hl, Bool.false_and]
    · refine ev_neg h ?_
      have hk : ¬ (k = 1 ∨ k = 2) := fun hh => h (hq.2 hh)
      by_cases h3 : k = 3
      · have e : isRes k l a b c = (decide (l.length = 0) && isAddr a b c) := by unfold isRes; rw [if_neg hk, if_pos h3]
        rw [e]
        refine ev_pos h3 ?_
        by_cases hl : l.length = 0
        · refine ev_pos (by omega) (ev_bind0 (impl_IsAddress_val _ _ _) (ev_of ?_))
          rw [decide_eq_true hl, Bool.true_and]
        · refine ev_neg (by omega) (ev_of ?_)
          rw [decide_eq_false hl, Bool.false_and]
      · refine ev_neg h3 ?_
        by_cases h4 : k = 4
        · have e : isRes k l a b c = (decide (l.length = 0) && zeroA a b c) := by unfold isRes; rw [if_neg hk, if_neg h3, if_pos h4]
          rw [e]
          refine ev_pos h4 ?_
          by_cases hl : l.length = 0
          · refine ev_pos (by omega) (ev_of ?_)
            rw [decide_eq_true hl, Bool.true_and]
            rfl
          · refine ev_neg (by omega) (ev_of ?_)
            rw [decide_eq_false hl, Bool.false_and]
        · have e : isRes k l a b c = false := by unfold isRes; rw [if_neg hk, if_neg h3, if_neg h4]
          rw [e]
          exact ev_neg h4 (Ev.now _)
  unfold impl_IsResource.f
  by_cases h1 : k = 1
  · exact ev_pos h1 (body _ (by simp [h1]))
  · exact ev_neg h1 (body _ (by simp [h1]))
theorem spec_AddressText_yes (a b c : Int) (h : isAddr a b c = true) : Ev (fun k => spec_AddressText.f k a b c) (bl (addrText a b c)) := by
  have e := spec_AddressText_ev a b c
  rw [if_pos h] at e
  exact e
theorem impl_AddressText_yes (a b c : Int) (h : isAddr a b c = true) : impl_AddressText.f a b c = some (bl (addrText a b c)) := by
  have e := impl_AddressText_val a b c
  rw [if_pos h] at e
  exact e
theorem addrText_len (a b c : Int) (h : isAddr a b c = true) : (addrText a b c).length ≤ 70 := by
  have hr := isAddr_range a b c h
  have la := itoa_len a (by omega) (by omega)
  have lb := itoa_len b (by omega) (by omega)
  have lc := itoa_len c (by omega) (by omega)
  by_cases hc : c = 0
  · subst hc
    rw [addrText_zero, List.length_append, List.length_append, List.length_singleton]
    omega
  · rw [addrText_pos _ _ _ hc, List.length_append, List.length_append, List.length_append, List.length_singleton, List.length_cons]
    omega
def txtFrom (s : List UInt8) (l : List Int) : List UInt8 := l.foldl (fun s n => s ++ 32 :: Lib.itoa n) s
theorem spec_ResourceText_l0 (k : Int) (l : List Int) (a b c : Int) (hn : l.length ≤ 6) (ho : ∀ x ∈ l, 0 ≤ x ∧ x ≤ 255) : ∀ (d i : Nat) (s : List UInt8), i + d = l.length → s.length + 22 * d ≤ 1000 → Ev (fun n => spec_ResourceText.l0 n (bl s) (i : Int) k l a b c) (bl (txtFrom s (l.drop i))) := by
  intro d
  induction d with
  | zero =>
    intro i s hd hs
    refine Ev.step (fun _ => spec_ResourceText.l0.eq_2 ..) (ev_neg (by omega) (ev_of ?_))
    rw [List.drop_eq_nil_of_le (by omega)]
    rfl
  | succ d ih =>
    intro i s hd hs
    have hlt : i < l.length := by omega
    have hx := ho _ (List.getElem_mem hlt)
    have hl := itoa_len l[i] (by omega) (by omega)
    have e32 : (⟨#[32]⟩ : ByteArray) = bl [32] := rfl
    refine Ev.step (fun _ => spec_ResourceText.l0.eq_2 ..) (ev_pos (by omega) (ev_pos (by rw [bl_size]; omega) (ev_pos (by omega) ?_)))
    rw [rd_at l i hlt, w64 (x := (i : Int) + 1) (by omega) (by omega), e32, bl_append]
    refine Ev.bind (spec_FormatInt_ev _ (by omega) (by omega)) (ev_pos (by rw [bl_size, bl_size, List.length_append, List.length_singleton]; omega) ?_)
    rw [bl_append, List.append_assoc, List.singleton_append]
    rw [List.drop_eq_getElem_cons hlt]
    exact ih (i + 1) (s ++ 32 :: Lib.itoa l[i]) (by omega) (by rw [List.length_append, List.length_cons]; omega)
theorem impl_ResourceText_l0 (l : List Int) (hn : l.length ≤ 6) (ho : ∀ x ∈ l, 0 ≤ x ∧ x ≤ 255) : ∀ (d i : Nat) (s : List UInt8), i + d = l.length → s.length + 22 * d ≤ 1000 → Ev (fun n => impl_ResourceText.l0 n (bl s) l (l.length : Int) (i : Int)) (bl (txtFrom s (l.drop i))) := by
  intro d
  induction d with
  | zero =>
    intro i s hd hs
    refine Ev.step (fun _ => impl_ResourceText.l0.eq_2 ..) (ev_neg (by omega) (ev_of ?_))
    rw [List.drop_eq_nil_of_le (by omega)]
    rfl
  | succ d ih =>
    intro i s hd hs
    have hlt : i < l.length := by omega
    have hx := ho _ (List.getElem_mem hlt)
    have hl := itoa_len l[i] (by omega) (by omega)
    have e32 : (⟨#[32]⟩ : ByteArray) = bl [32] := rfl
    refine Ev.step (fun _ => impl_ResourceText.l0.eq_2 ..) (ev_pos (by omega) (ev_pos (by omega) (ev_pos (by omega) ?_)))
    rw [rd_at l i hlt, w64 (x := (i : Int) + 1) (by omega) (by omega), e32]
    refine ev_bind0 (impl_FormatInt_val _ (by omega) (by omega)) (ev_pos (by rw [bl_size]; omega) ?_)
    rw [bl_append]
    refine ev_pos (by rw [bl_size, bl_size, List.length_append, List.length_singleton]; omega) ?_
    rw [bl_append, List.singleton_append]
    rw [List.drop_eq_getElem_cons hlt]
    exact ih (i + 1) (s ++ 32 :: Lib.itoa l[i]) (by omega) (by rw [List.length_append, List.length_cons]; omega)
def resT (k : Int) (l : List Int) (a b c : Int) : List UInt8 :=
  if k = 3 then [109, 111, 118, 101, 32] ++ addrText a b c
  else if k = 4 then [110, 111, 110, 101]
  else if k = 1 then txtFrom [112, 97, 103, 101] l else txtFrom [100, 97, 116, 97] l
theorem isRes_cases (k : Int) (l : List Int) (a b c : Int) (h : isRes k l a b c = true) : ((k = 1 ∨ k = 2) ∧ l.length ≤ 6 ∧ ∀ x ∈ l, 0 ≤ x ∧ x ≤ 255) ∨ (k = 3 ∧ l = [] ∧ isAddr a b c = true) ∨ (k = 4 ∧ l = []) := by
  unfold isRes at h
  by_cases h12 : k = 1 ∨ k = 2
  · rw [if_pos h12, Bool.and_eq_true, Bool.and_eq_true, decide_eq_true_eq] at h
    refine .inl ⟨h12, h.1, fun x hx => ?_⟩
    exact of_decide_eq_true (List.all_eq_true.1 h.2.1 x hx)
  · rw [if_neg h12] at h
    by_cases h3 : k = 3
    · rw [if_pos h3, Bool.and_eq_true, decide_eq_true_eq] at h
      exact .inr (.inl ⟨h3, List.eq_nil_of_length_eq_zero h.1, h.2⟩)
    · rw [if_neg h3] at h
      by_cases h4 : k = 4
      · rw [if_pos h4, Bool.and_eq_true, decide_eq_true_eq] at h
        exact .inr (.inr ⟨h4, List.eq_nil_of_length_eq_zero h.1⟩)
      · rw [if_neg h4] at h
        cases h
theorem spec_ResourceText_yes (k : Int) (l : List Int) (a b c : Int) (hn : l.length ≤ 1099511627776) (h : isRes k l a b c = true) : Ev (fun n => spec_ResourceText.f n k l a b c) (bl (resT k l a b c)) := by
  unfold spec_ResourceText.f
  refine Ev.bind (spec_IsResource_ev k l a b c hn) (ev_pos h (ev_bind0 rfl ?_))
  rcases isRes_cases k l a b c h with ⟨h12, hl, ho⟩ | ⟨h3, hl, ha⟩ | ⟨h4, hl⟩
  · rcases h12 with rfl | rfl
    · refine ev_pos (by decide) (ev_pos (by decide) (ev_neg (by decide) (Ev.step (fun _ => spec_ResourceText.j0.eq_2 ..) ?_)))
      exact spec_ResourceText_l0 1 l a b c hl ho l.length 0 [112, 97, 103, 101] (by omega) (by simp; omega)
    · refine ev_pos (by decide) (ev_pos (by decide) (ev_neg (by decide) (Ev.step (fun _ => spec_ResourceText.j0.eq_2 ..) ?_)))
      exact spec_ResourceText_l0 2 l a b c hl ho l.length 0 [100, 97, 116, 97] (by omega) (by simp; omega)
  · subst h3 hl
    have e : rdOf ByteArray.empty [(⟨#[]⟩ : ByteArray), (⟨#[112, 97, 103, 101]⟩ : ByteArray), (⟨#[100, 97, 116, 97]⟩ : ByteArray), (⟨#[109, 111, 118, 101]⟩ : ByteArray), (⟨#[110, 111, 110, 101]⟩ : ByteArray)] 3 = bl [109, 111, 118, 101] := rfl
    have e32 : (⟨#[32]⟩ : ByteArray) = bl [32] := rfl
    have hal := addrText_len a b c ha
    refine ev_pos (by decide) (ev_pos (by decide) (ev_pos rfl ?_))
    rw [e, e32, bl_append]
    refine ev_pos (by rw [bl_size]; decide) (Ev.bind (spec_AddressText_yes a b c ha) (ev_pos (by rw [bl_size, bl_size, List.length_append]; simp; omega) ?_))
    rw [bl_append]
    refine Ev.step (fun _ => spec_ResourceText.j0.eq_2 ..) ?_
    exact spec_ResourceText_l0 3 [] a b c (by simp) (fun x hx => by cases hx) 0 0 ([109, 111, 118, 101] ++ [32] ++ addrText a b c) rfl (by rw [List.length_append]; simp; omega)
  · subst h4 hl
    refine ev_pos (by decide) (ev_pos (by decide) (ev_neg (by decide) (Ev.step (fun _ => spec_ResourceText.j0.eq_2 ..) ?_)))
    exact spec_ResourceText_l0 4 [] a b c (by simp) (fun x hx => by cases hx) 0 0 [110, 111, 110, 101] rfl (by simp)
theorem impl_ResourceText_yes (k : Int) (l : List Int) (a b c : Int) (hn : l.length ≤ 1099511627776) (h : isRes k l a b c = true) : Ev (fun n => impl_ResourceText.f n k l a b c) (bl (resT k l a b c)) := by
  unfold impl_ResourceText.f
  refine Ev.bind (impl_IsResource_ev k l a b c hn) (ev_pos h ?_)
  rcases isRes_cases k l a b c h with ⟨h12, hl, ho⟩ | ⟨h3, hl, ha⟩ | ⟨h4, hl⟩
  · rcases h12 with rfl | rfl
    · refine ev_neg (by decide) (ev_neg (by decide) (ev_pos rfl (Ev.step (fun _ => impl_ResourceText.j0.eq_2 ..) ?_)))
      exact impl_ResourceText_l0 l hl ho l.length 0 [112, 97, 103, 101] (by omega) (by simp; omega)
    · refine ev_neg (by decide) (ev_neg (by decide) (ev_neg (by decide) (Ev.step (fun _ => impl_ResourceText.j0.eq_2 ..) ?_)))
      exact impl_ResourceText_l0 l hl ho l.length 0 [100, 97, 116, 97] (by omega) (by simp; omega)
  · subst h3 hl
    have e5 : (⟨#[109, 111, 118, 101, 32]⟩ : ByteArray) = bl [109, 111, 118, 101, 32] := rfl
    have hal := addrText_len a b c ha
    refine ev_pos rfl (ev_bind0 (impl_AddressText_yes a b c ha) (ev_pos (by rw [bl_size]; omega) (ev_of ?_)))
    rw [e5, bl_append]
    rfl
  · subst h4 hl
    exact ev_neg (by decide) (ev_pos rfl (Ev.now _))
theorem spec_ResourceText_no (k : Int) (l : List Int) (a b c : Int) (hn : l.length ≤ 1099511627776) (h : ¬ isRes k l a b c = true) : Ev (fun n => spec_ResourceText.f n k l a b c) (bl []) := by
  unfold spec_ResourceText.f
  exact Ev.bind (spec_IsResource_ev k l a b c hn) (ev_neg h (Ev.now _))
theorem impl_ResourceText_no (k : Int) (l : List Int) (a b c : Int) (hn : l.length ≤ 1099511627776) (h : ¬ isRes k l a b c = true) : Ev (fun n => impl_ResourceText.f n k l a b c) (bl []) := by
  unfold impl_ResourceText.f
  exact Ev.bind (impl_IsResource_ev k l a b c hn) (ev_neg h (Ev.now _))
theorem FnExactResourceText : ∀ (x0 : S53), (g53 x0) → ∃ k, laws_FnExactResourceText.f k x0.f0 x0.f1 x0.f2.f0 x0.f2.f1 x0.f2.f2 = some true := by
  intro x hg
  obtain ⟨_, ⟨hl, _⟩, _⟩ := hg
  refine Ev.rounds (g := fun k => laws_FnExactResourceText.f k x.f0 x.f1 x.f2.f0 x.f2.f1 x.f2.f2) ?_
  unfold laws_FnExactResourceText.f
  refine ev_bind0 (szResource_val _ _ _ _ _ _ (by omega) (by omega) hl) ?_
  by_cases hb : szR 1048576 x.f1.length < 0
  · exact ev_pos hb (Ev.now true)
  have hle := szR_le _ _ hb
  refine ev_neg hb ?_
  have hto := toResource_ev x.f0 x.f1 x.f2.f0 x.f2.f1 x.f2.f2 (by omega)
  have hn : x.f1.length ≤ 1099511627776 := by omega
  have rest : ∀ t : List UInt8, Ev (fun k => spec_ResourceText.f k x.f0 x.f1 x.f2.f0 x.f2.f1 x.f2.f2) (bl t) → Ev (fun k => impl_ResourceText.f k x.f0 x.f1 x.f2.f0 x.f2.f1 x.f2.f2) (bl t) → Ev (fun k => (laws_toResource.f k x.f0 x.f1 x.f2.f0 x.f2.f1 x.f2.f2).bind fun bt180 => ((spec_ResourceText.f k bt180.1 bt180.2.1 bt180.2.2.1 bt180.2.2.2.1 bt180.2.2.2.2).bind fun t187 => ((laws_toResource.f k x.f0 x.f1 x.f2.f0 x.f2.f1 x.f2.f2).bind fun bt188 => ((impl_ResourceText.f k bt188.1 bt188.2.1 bt188.2.2.1 bt188.2.2.2.1 bt188.2.2.2.2).bind fun t196 => (if t196.toList = t187.toList then ((laws_toResource.f k x.f0 x.f1 x.f2.f0 x.f2.f1 x.f2.f2).bind fun bt197 => ((laws_eqResource.f k bt188.1 bt188.2.1 bt188.2.2.1 bt188.2.2.2.1 bt188.2.2.2.2 bt197.1 bt197.2.1 bt197.2.2.1 bt197.2.2.2.1 bt197.2.2.2.2).bind fun t204 => (if t204 = true then (some true) else (some false)))) else (some false)))))) true := by
    intro t e1 e2
    exact Ev.bind hto (Ev.bind e1 (Ev.bind hto (Ev.bind e2 (ev_pos rfl (Ev.bind hto (Ev.bind (eqResource_same _ _ _ _ _ hl) (ev_pos rfl (Ev.now true))))))))
  by_cases h : isRes x.f0 x.f1 x.f2.f0 x.f2.f1 x.f2.f2 = true
  · exact rest _ (spec_ResourceText_yes _ _ _ _ _ hn h) (impl_ResourceText_yes _ _ _ _ _ hn h)
  · exact rest _ (spec_ResourceText_no _ _ _ _ _ hn h) (impl_ResourceText_no _ _ _ _ _ hn h)

end Go.Proofs.YtgcidlnhgpjdpadDoor.Pure
