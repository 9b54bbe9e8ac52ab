/- The pure statement behind the law FnAddresses: over numbers and lists the law answers true, at every input that the row's bounds let in. -/
import Derived.Test.YtgcidlnhgpjdpaaDoorQFnAddressesx6
import Derived.Lib.ItoaLen
import Derived.Test.YtgcidlnhgpjdpaaDoorQFnAddressesg
namespace Go.Proofs.YtgcidlnhgpjdpaaDoor.Pure
open Go Go.RowKit Go.Proofs.YtgcidlnhgpjdpaaDoor.QFnAddresses Go.Proofs.YtgcidlnhgpjdpaaDoorW.PrintWords Go.Proofs.YtgcidlnhgpjdpaaDoorW.PrintLast Go.Proofs.YtgcidlnhgpjdpaaDoorW.PrintMore
set_option linter.unusedVariables false
set_option linter.unusedSimpArgs false
set_option maxRecDepth 100000

theorem w64 {x : Int} (h0 : -9223372036854775808 ≤ x) (h1 : x ≤ 9223372036854775807) : wrap64 x = x := by unfold wrap64; omega
theorem ev_pos {α : Type} {c : Prop} [Decidable c] {g f : Nat → Option α} {r : α} (h : c) (k : Ev g r) : Ev (fun n => if c then g n else f n) r := by
  obtain ⟨K, hK⟩ := k
  exact ⟨K, fun n hn => (if_pos h).trans (hK n hn)⟩
theorem ev_neg {α : Type} {c : Prop} [Decidable c] {g f : Nat → Option α} {r : α} (h : ¬ c) (k : Ev f r) : Ev (fun n => if c then g n else f n) r := by
  obtain ⟨K, hK⟩ := k
  exact ⟨K, fun n hn => (if_neg h).trans (hK n hn)⟩
theorem ev_bind0 {α β : Type} {o : Option α} {f : Nat → α → Option β} {a : α} {r : β} (h : o = some a) (k : Ev (fun n => f n a) r) : Ev (fun n => o.bind (f n)) r := by
  subst h
  exact k
theorem ev_of {α : Type} {o : Option α} {r : α} (h : o = some r) : Ev (fun _ => o) r := ⟨0, fun _ _ => h⟩
theorem rd_at (xs : List Int) (i : Nat) (h : i < xs.length) : rd xs (i : Int) = xs[i] := by
  unfold rd
  rw [Int.toNat_natCast, List.getD_eq_getElem?_getD, List.getElem?_eq_getElem h]
  rfl
theorem l1In_val (a b c : Int) : spec_l1In.f a b c = some (decide (b ≤ a ∧ a ≤ c)) := by
  unfold spec_l1In.f
  by_cases h : a ≥ b
  · rw [if_pos h]; simp [h]
  · rw [if_neg h]; simp [h]
theorem inRange_val (a b c : Int) : impl_InRange.f a b c = some (decide (b ≤ a ∧ a ≤ c)) := by
  unfold impl_InRange.f
  by_cases h : b ≤ a
  · rw [if_pos h]; simp [h]
  · rw [if_neg h]; simp [h]
def bl (l : List UInt8) : ByteArray := ⟨l.toArray⟩
theorem bl_append (a b : List UInt8) : bl a ++ bl b = bl (a ++ b) := by
  apply ByteArray.ext
  rw [ByteArray.data_append]
  simp [bl]
theorem bl_size (a : List UInt8) : (bl a).size = a.length := by simp [bl, ByteArray.size]
theorem bl_toList (a : List UInt8) : (bl a).toList = a := by rw [ByteArray.toList_eq]; simp [bl]
theorem bl_of (s : ByteArray) : bl s.data.toList = s := by cases s; simp [bl]
theorem strOfNums_one (z : Int) : strOfNums [z] = bl [UInt8.ofNat z.toNat] := by
  apply ByteArray.ext
  apply Array.ext'
  rw [strOfNums_data]
  simp [bl]
def digs (u : Nat) : List UInt8 := if h : u = 0 then [] else digs (u / 10) ++ [UInt8.ofNat (48 + u % 10)]
termination_by u
decreasing_by omega
theorem digs_zero : digs 0 = [] := by rw [digs]; rfl
theorem digs_pos (u : Nat) (h : ¬ u = 0) : digs u = digs (u / 10) ++ [UInt8.ofNat (48 + u % 10)] := by
  rw [digs, dif_neg h]
theorem digs_dec (u : Nat) (h : ¬ u = 0) : digs u = Lib.decDigits u := by
  induction u using Nat.strongRecOn with
  | _ u ih =>
    rw [digs_pos u h, Lib.decDigits]
    by_cases c : u < 10
    · rw [dif_pos c, show u / 10 = 0 by omega, digs_zero, show u % 10 = u by omega, List.nil_append]
    · rw [dif_neg c, ih (u / 10) (by omega) (by omega)]
theorem digs_len (d : Nat) : ∀ u, u < 10 ^ d → (digs u).length ≤ d := by
  induction d with
  | zero =>
    intro u h
    rw [show u = 0 by simp at h; exact h, digs_zero]
    exact Nat.le_refl _
  | succ d ih =>
    intro u h
    by_cases c : u = 0
    · rw [c, digs_zero]; exact Nat.zero_le _
    · rw [digs_pos u c, List.length_append, List.length_singleton]
      have := ih (u / 10) (by rw [Nat.pow_succ] at h; omega)
      omega
theorem itoa_len (n : Int) (h0 : -9223372036854775808 ≤ n) (h1 : n ≤ 9223372036854775807) : (Lib.itoa n).length ≤ 21 := Lib.itoa_length_le n h0 h1
theorem spec_FormatInt_l0 (n : Int) : ∀ (d : Nat) (x : Int) (l : List UInt8), x.natAbs < 10 ^ d → l.length + d ≤ 100 → -9223372036854775808 ≤ x → x ≤ 9223372036854775807 → Ev (fun k => spec_FormatInt.l0 k n (bl l) x) (if n < 0 then bl (45 :: (digs x.natAbs ++ l)) else bl (digs x.natAbs ++ l)) := by
  intro d
  have fin : ∀ (l : List UInt8), l.length ≤ 100 → Ev (fun k => spec_FormatInt.l0 k n (bl l) 0) (if n < 0 then bl (45 :: l) else bl l) := by
    intro l hl
    refine Ev.step (fun _ => spec_FormatInt.l0.eq_2 ..) (ev_pos rfl ?_)
    by_cases c : n < 0
    · rw [show (if n < 0 then bl (45 :: l) else bl l) = bl (45 :: l) from if_pos c]
      refine ev_pos c (ev_pos (by rw [bl_size]; omega) (ev_of ?_))
      have e : (⟨#[45]⟩ : ByteArray) = bl [45] := rfl
      rw [e, bl_append]
      rfl
    · rw [show (if n < 0 then bl (45 :: l) else bl l) = bl l from if_neg c]
      exact ev_neg c (Ev.now _)
  induction d with
  | zero =>
    intro x l hx hl _ _
    obtain rfl : x = 0 := by simp at hx; exact hx
    have h := fin l (by omega)
    rw [show (0 : Int).natAbs = 0 from rfl, digs_zero, List.nil_append]
    exact h
  | succ d ih =>
    intro x l hx hl h0 h1
    by_cases c : x = 0
    · subst c
      have h := fin l (by omega)
      rw [show (0 : Int).natAbs = 0 from rfl, digs_zero, List.nil_append]
      exact h
    · have hu : ¬ x.natAbs = 0 := by omega
      have hq : (Int.tdiv x 10).natAbs = x.natAbs / 10 := by rw [Int.natAbs_tdiv]; rfl
      have hm : (Int.tmod x 10).natAbs = x.natAbs % 10 := by rw [Int.natAbs_tmod]; rfl
      have hm9 : x.natAbs % 10 < 10 := Nat.mod_lt _ (by omega)
      have hq2 : Int.tdiv x 10 * 10 + Int.tmod x 10 = x := Int.tdiv_mul_add_tmod x 10
      have e1 : digs x.natAbs ++ l = digs (Int.tdiv x 10).natAbs ++ (UInt8.ofNat (48 + x.natAbs % 10) :: l) := by
        rw [digs_pos _ hu, hq, List.append_assoc]
        rfl
      have key := ih (Int.tdiv x 10) (UInt8.ofNat (48 + x.natAbs % 10) :: l) (by rw [hq, Nat.pow_succ] at *; omega) (by rw [List.length_cons]; omega) (by omega) (by omega)
      rw [e1]
      refine Ev.step (fun _ => spec_FormatInt.l0.eq_2 ..) (ev_neg c ?_)
      have step : ∀ (z : Int), z = (48 + x.natAbs % 10 : Nat) → Ev (fun k => (some ([z] : List Int)).bind fun y => if (strOfNums y).size + (bl l).size ≤ 9223372036854775807 then spec_FormatInt.l0 k n (strOfNums y ++ bl l) (wrap64 (Int.tdiv x 10)) else none) (if n < 0 then bl (45 :: (digs (Int.tdiv x 10).natAbs ++ (UInt8.ofNat (48 + x.natAbs % 10) :: l))) else bl (digs (Int.tdiv x 10).natAbs ++ (UInt8.ofNat (48 + x.natAbs % 10) :: l))) := by
        intro z hz
        refine ev_bind0 rfl (ev_pos (by rw [strOfNums_one, bl_size, bl_size, List.length_singleton]; omega) ?_)
        rw [w64 (x := Int.tdiv x 10) (by omega) (by omega), strOfNums_one, bl_append, hz, Int.toNat_natCast]
        exact key
      by_cases cm : Int.tmod x 10 < 0
      · refine ev_pos cm (step _ ?_)
        rw [w64 (x := -(Int.tmod x 10)) (by omega) (by omega), w64 (x := 48 + -(Int.tmod x 10)) (by omega) (by omega)]
        omega
      · refine ev_neg cm (step _ ?_)
        rw [w64 (x := 48 + Int.tmod x 10) (by omega) (by omega)]
        omega
theorem spec_FormatInt_ev (n : Int) (h0 : -9223372036854775808 ≤ n) (h1 : n ≤ 9223372036854775807) : Ev (fun k => spec_FormatInt.f k n) (bl (Lib.itoa n)) := by
  unfold spec_FormatInt.f
  by_cases c : n = 0
  · refine ev_pos c (ev_of ?_)
    subst c
    have e : Lib.itoa 0 = [48] := by
      unfold Lib.itoa
      rw [if_neg (by omega)]
      exact Lib.decDigits_one (i := 0) (by omega)
    rw [e]
    rfl
  · refine ev_neg c ?_
    have h := spec_FormatInt_l0 n 20 n [] (by omega) (by simp) h0 h1
    have e : (if n < 0 then bl (45 :: (digs n.natAbs ++ [])) else bl (digs n.natAbs ++ [])) = bl (Lib.itoa n) := by
      rw [List.append_nil, digs_dec _ (by omega)]
      unfold Lib.itoa
      by_cases cn : n < 0
      · rw [if_pos cn, if_pos cn]
      · rw [if_neg cn, if_neg cn, show n.toNat = n.natAbs by omega]
    rw [e] at h
    exact h
theorem impl_FormatInt_val (n : Int) (h0 : -9223372036854775808 ≤ n) (h1 : n ≤ 9223372036854775807) : impl_FormatInt.f n = some (bl (Lib.itoa n)) := by
  unfold impl_FormatInt.f
  have e : ∀ (o : Option ByteArray), o = some (bl (Lib.itoa n)) → (o.bind fun t => some t) = some (bl (Lib.itoa n)) := by
    intro o h
    rw [h]
    rfl
  exact e _ (if_pos ⟨h0, h1⟩)
theorem bt_bl (l : List UInt8) (i : Nat) (h : i < l.length) : bt (bl l) (i : Int) = ((l[i]).toNat : Int) := by
  unfold bt
  rw [dif_pos (show ((i : Int)).toNat < (bl l).size by rw [bl_size]; exact h)]
  rfl
def isDig (b : UInt8) : Bool := decide (48 ≤ b.toNat) && decide (b.toNat ≤ 57)
def parseL (m : Nat) : List UInt8 → Option Nat
  | [] => some m
  | b :: l => if isDig b = true then parseL (10 * m + (b.toNat - 48)) l else none
def parseFin (l : List UInt8) : Option Nat → Int × Bool
  | none => (0, false)
  | some m => if m ≤ 1000000000000 ∧ Lib.itoa (m : Int) = l then ((m : Int), true) else (0, false)
def parseR (l : List UInt8) : Int × Bool := if 1 ≤ l.length ∧ l.length ≤ 13 then parseFin l (parseL 0 l) else (0, false)
theorem parseFin_yes (l : List UInt8) (m : Nat) (h : m ≤ 1000000000000 ∧ Lib.itoa (m : Int) = l) : parseFin l (some m) = ((m : Int), true) := if_pos h
theorem parseFin_no (l : List UInt8) (m : Nat) (h : ¬ (m ≤ 1000000000000 ∧ Lib.itoa (m : Int) = l)) : parseFin l (some m) = (0, false) := if_neg h
theorem parseL_yes (m : Nat) (b : UInt8) (l : List UInt8) (h : isDig b = true) : parseL m (b :: l) = parseL (10 * m + (b.toNat - 48)) l := if_pos h
theorem parseL_no (m : Nat) (b : UInt8) (l : List UInt8) (h : ¬ isDig b = true) : parseL m (b :: l) = none := if_neg h
theorem isDig_iff (b : UInt8) : isDig b = true ↔ 48 ≤ b.toNat ∧ b.toNat ≤ 57 := by
  unfold isDig
  rw [Bool.and_eq_true, decide_eq_true_eq, decide_eq_true_eq]
theorem pow_step (m i : Nat) (d : Nat) (hd : d ≤ 9) (h : m < 10 ^ i) : 10 * m + d < 10 ^ (i + 1) := by
  rw [Nat.pow_succ]
  omega
theorem pow_13 (m i : Nat) (h : m < 10 ^ i) (hi : i ≤ 13) : m < 10000000000000 :=
  Nat.lt_of_lt_of_le h (Nat.pow_le_pow_right (by omega) hi)
theorem impl_ParseInt_l0 (l : List UInt8) (hl : l.length ≤ 13) : ∀ (d i m : Nat), i + d = l.length → m < 10 ^ i → Ev (fun k => impl_ParseInt.l0 k (bl l) (m : Int) (l.length : Int) (i : Int)) (parseFin l (parseL m (l.drop i))) := by
  intro d
  induction d with
  | zero =>
    intro i m hd hm
    have hb := pow_13 m i hm (by omega)
    rw [List.drop_eq_nil_of_le (by omega)]
    refine Ev.step (fun _ => impl_ParseInt.l0.eq_2 ..) (ev_neg (by omega) ?_)
    show Ev _ (parseFin l (some m))
    by_cases h1 : (m : Int) > 1000000000000
    · rw [parseFin_no _ _ (fun w => by omega)]
      exact ev_pos h1 (Ev.now _)
    · refine ev_neg h1 (ev_bind0 (impl_FormatInt_val m (by omega) (by omega)) ?_)
      by_cases h2 : Lib.itoa (m : Int) = l
      · rw [parseFin_yes _ _ ⟨by omega, h2⟩]
        exact ev_pos (by rw [bl_toList, bl_toList]; exact h2) (Ev.now _)
      · rw [parseFin_no _ _ (fun w => h2 w.2)]
        exact ev_neg (by rw [bl_toList, bl_toList]; exact h2) (Ev.now _)
  | succ d ih =>
    intro i m hd hm
    have hlt : i < l.length := by omega
    have hb := pow_13 m i hm (by omega)
    rw [List.drop_eq_getElem_cons hlt]
    refine Ev.step (fun _ => impl_ParseInt.l0.eq_2 ..) (ev_pos (by omega) (ev_pos (by omega) (ev_pos (by rw [bl_size]; omega) ?_)))
    rw [bt_bl l i hlt]
    have h255 : (l[i]).toNat < 256 := (l[i]).toNat_lt
    by_cases h1 : ((l[i]).toNat : Int) < 48
    · rw [parseL_no _ _ _ (fun w => by have := (isDig_iff _).1 w; omega)]
      exact ev_pos h1 (Ev.now _)
    refine ev_neg h1 ?_
    by_cases h2 : ((l[i]).toNat : Int) > 57
    · rw [parseL_no _ _ _ (fun w => by have := (isDig_iff _).1 w; omega)]
      exact ev_pos h2 (Ev.now _)
    refine ev_neg h2 ?_
    rw [parseL_yes _ _ _ ((isDig_iff _).2 (by omega)), w64 (x := (m : Int) * 10) (by omega) (by omega), w64 (x := (i : Int) + 1) (by omega) (by omega), w64 (by omega) (by omega), show ((m : Int) * 10 + (((l[i]).toNat : Int) - 48) % 256) = ((10 * m + ((l[i]).toNat - 48) : Nat) : Int) by omega]
    exact ih (i + 1) _ (by omega) (pow_step m i _ (by omega) hm)
theorem impl_ParseInt_ev (l : List UInt8) (hb : l.length ≤ 9223372036854775807) : Ev (fun k => impl_ParseInt.f k (bl l)) (parseR l) := by
  unfold impl_ParseInt.f
  rw [bl_size]
  by_cases h0 : (l.length : Int) = 0
  · rw [show parseR l = (0, false) from if_neg (by omega)]
    exact ev_pos h0 (Ev.step (fun _ => impl_ParseInt.j0.eq_2 ..) (ev_pos rfl (Ev.now _)))
  refine ev_neg h0 (Ev.step (fun _ => impl_ParseInt.j0.eq_2 ..) ?_)
  by_cases h : l.length ≤ 13
  · rw [show parseR l = parseFin l (parseL 0 l) from if_pos (by omega), bl_size]
    exact ev_neg (fun w => by have := of_decide_eq_true w; omega) (impl_ParseInt_l0 l h l.length 0 0 (by omega) (by omega))
  · rw [show parseR l = (0, false) from if_neg (by omega)]
    exact ev_pos (decide_eq_true (by omega)) (Ev.now _)
def isAddr (a b c : Int) : Bool := decide (1 ≤ a ∧ a ≤ 9) && (decide (0 ≤ b ∧ b ≤ 99) && decide (0 ≤ c ∧ c ≤ 99))
theorem spec_IsAddress_val (a b c : Int) : spec_IsAddress.f a b c = some (isAddr a b c) := by
  unfold spec_IsAddress.f isAddr
  simp only [l1In_val, Option.bind_some]
  by_cases h1 : 1 ≤ a ∧ a ≤ 9 <;> by_cases h2 : 0 ≤ b ∧ b ≤ 99 <;> simp [h1, h2]
theorem impl_IsAddress_val (a b c : Int) : impl_IsAddress.f a b c = some (isAddr a b c) := by
  unfold impl_IsAddress.f isAddr
  simp only [inRange_val, Option.bind_some]
  by_cases h1 : 1 ≤ a ∧ a ≤ 9 <;> by_cases h2 : 0 ≤ b ∧ b ≤ 99 <;> simp [h1, h2]
theorem isAddr_range (a b c : Int) (h : isAddr a b c = true) : 1 ≤ a ∧ a ≤ 9 ∧ 0 ≤ b ∧ b ≤ 99 ∧ 0 ≤ c ∧ c ≤ 99 := by
  unfold isAddr at h
  simp only [Bool.and_eq_true, decide_eq_true_eq] at h
  omega
def addrText (a b c : Int) : List UInt8 := Lib.itoa a ++ [47] ++ Lib.itoa b ++ (if c = 0 then [] else 63 :: Lib.itoa c)
theorem addrText_zero (a b : Int) : addrText a b 0 = Lib.itoa a ++ [47] ++ Lib.itoa b := by
  unfold addrText
  rw [if_pos rfl, List.append_nil]
theorem addrText_pos (a b c : Int) (h : ¬ c = 0) : addrText a b c = Lib.itoa a ++ [47] ++ Lib.itoa b ++ 63 :: Lib.itoa c := by
  unfold addrText
  rw [if_neg h]
theorem spec_AddressText_ev (a b c : Int) : Ev (fun k => spec_AddressText.f k a b c) (if isAddr a b c = true then bl (addrText a b c) else bl []) := by
  unfold spec_AddressText.f
  refine ev_bind0 (spec_IsAddress_val a b c) ?_
  by_cases h : isAddr a b c = true
  · rw [show (if isAddr a b c = true then bl (addrText a b c) else bl []) = bl (addrText a b c) from if_pos h]
    have hr := isAddr_range a b c h
    have la := itoa_len a (by omega) (by omega)
    have lb := itoa_len b (by omega) (by omega)
    have lc := itoa_len c (by omega) (by omega)
    have e47 : (⟨#[47]⟩ : ByteArray) = bl [47] := rfl
    have e63 : (⟨#[63]⟩ : ByteArray) = bl [63] := rfl
    refine ev_pos h (Ev.bind (spec_FormatInt_ev a (by omega) (by omega)) (ev_pos (by rw [bl_size]; omega) (Ev.bind (spec_FormatInt_ev b (by omega) (by omega)) ?_)))
    rw [e47, e63, bl_append, bl_append, bl_append]
    refine ev_pos (by rw [bl_size, bl_size, List.length_append, List.length_singleton]; omega) ?_
    by_cases hc : c = 0
    · subst hc
      rw [addrText_zero]
      exact ev_pos rfl (Ev.now _)
    · rw [addrText_pos _ _ _ hc]
      refine ev_neg hc (ev_pos (by rw [bl_size, List.length_append, List.length_append, List.length_singleton]; omega) (Ev.bind (spec_FormatInt_ev c (by omega) (by omega)) (ev_pos (by rw [bl_size, bl_size, List.length_append, List.length_append, List.length_append, List.length_singleton, List.length_singleton]; omega) (ev_of ?_))))
      rw [bl_append, List.append_assoc _ [63]]
      rfl
  · rw [show (if isAddr a b c = true then bl (addrText a b c) else bl []) = bl [] from if_neg h]
    exact ev_neg h (Ev.now _)
theorem impl_AddressText_val (a b c : Int) : impl_AddressText.f a b c = some (if isAddr a b c = true then bl (addrText a b c) else bl []) := by
  have key : Ev (fun _ => impl_AddressText.f a b c) (if isAddr a b c = true then bl (addrText a b c) else bl []) := by
    unfold impl_AddressText.f
    refine ev_bind0 (impl_IsAddress_val a b c) ?_
    by_cases h : isAddr a b c = true
    · rw [show (if isAddr a b c = true then bl (addrText a b c) else bl []) = bl (addrText a b c) from if_pos h]
      have hr := isAddr_range a b c h
      have la := itoa_len a (by omega) (by omega)
      have lb := itoa_len b (by omega) (by omega)
      have lc := itoa_len c (by omega) (by omega)
      have e47 : (⟨#[47]⟩ : ByteArray) = bl [47] := rfl
      have e63 : (⟨#[63]⟩ : ByteArray) = bl [63] := rfl
      refine ev_pos h (ev_bind0 (impl_FormatInt_val a (by omega) (by omega)) (ev_pos (by rw [bl_size]; omega) (ev_bind0 (impl_FormatInt_val b (by omega) (by omega)) ?_)))
      rw [e47, e63, bl_append, bl_append]
      refine ev_pos (by rw [bl_size, bl_size, List.length_append, List.length_singleton]; omega) ?_
      by_cases hc : c = 0
      · subst hc
        rw [addrText_zero]
        exact ev_pos rfl (Ev.now _)
      · rw [addrText_pos _ _ _ hc]
        refine ev_neg hc (ev_bind0 (impl_FormatInt_val c (by omega) (by omega)) (ev_pos (by rw [bl_size]; omega) ?_))
        rw [bl_append]
        refine ev_pos (by rw [bl_size, bl_size, List.length_append, List.length_append, List.length_append, List.length_singleton, List.length_singleton]; omega) (ev_of ?_)
        rw [bl_append]
        rfl
    · rw [show (if isAddr a b c = true then bl (addrText a b c) else bl []) = bl [] from if_neg h]
      exact ev_neg h (Ev.now _)
  obtain ⟨K, hK⟩ := key
  exact hK K (Nat.le_refl _)
theorem parseL_append (l : List UInt8) (x : UInt8) : ∀ m, parseL m (l ++ [x]) = (parseL m l).bind fun r => if isDig x = true then some (10 * r + (x.toNat - 48)) else none := by
  induction l with
  | nil =>
    intro m
    by_cases h : isDig x = true
    · rw [List.nil_append, parseL_yes _ _ _ h]
      simp [parseL, h]
    · rw [List.nil_append, parseL_no _ _ _ h]
      simp [parseL, h]
  | cons b l ih =>
    intro m
    rw [List.cons_append]
    by_cases h : isDig b = true
    · rw [parseL_yes _ _ _ h, parseL_yes _ _ _ h, ih]
    · rw [parseL_no _ _ _ h, parseL_no _ _ _ h]
      rfl
theorem ofNat_dig (d : Nat) (h : d < 10) : (UInt8.ofNat (48 + d)).toNat = 48 + d := by
  rw [UInt8.toNat_ofNat']
  omega
theorem isDig_ofNat (d : Nat) (h : d < 10) : isDig (UInt8.ofNat (48 + d)) = true := (isDig_iff _).2 (by rw [ofNat_dig d h]; omega)
theorem parse_dec (u : Nat) : parseL 0 (Lib.decDigits u) = some u ∧ ∀ b ∈ Lib.decDigits u, isDig b = true := by
  induction u using Nat.strongRecOn with
  | _ u ih =>
    rw [Lib.decDigits]
    by_cases c : u < 10
    · rw [dif_pos c]
      refine ⟨?_, fun b hb => ?_⟩
      · rw [parseL_yes _ _ _ (isDig_ofNat u c), ofNat_dig u c]
        simp [parseL]
      · rw [List.mem_singleton.1 hb]
        exact isDig_ofNat u c
    · rw [dif_neg c]
      obtain ⟨h1, h2⟩ := ih (u / 10) (by omega)
      refine ⟨?_, fun b hb => ?_⟩
      · rw [parseL_append, h1, Option.bind_some, if_pos (isDig_ofNat _ (Nat.mod_lt _ (by omega))), ofNat_dig _ (Nat.mod_lt _ (by omega))]
        exact congrArg some (by omega)
      · rcases List.mem_append.1 hb with hb | hb
        · exact h2 b hb
        · rw [List.mem_singleton.1 hb]
          exact isDig_ofNat _ (Nat.mod_lt _ (by omega))
theorem dec_len (u : Nat) (h : u < 10 ^ 13) : 1 ≤ (Lib.decDigits u).length ∧ (Lib.decDigits u).length ≤ 13 := by
  by_cases c : u = 0
  · subst c
    rw [Lib.decDigits_one (by omega)]
    exact ⟨Nat.le_refl _, by simp⟩
  · rw [← digs_dec u c]
    exact ⟨by rw [digs_pos u c, List.length_append, List.length_singleton]; omega, digs_len 13 u h⟩
theorem itoa_nat (u : Nat) : Lib.itoa (u : Int) = Lib.decDigits u := Lib.itoa_nonneg u
theorem parse_itoa (u : Nat) (h : u ≤ 1000000000000) : parseR (Lib.itoa (u : Int)) = ((u : Int), true) := by
  rw [itoa_nat]
  have hl := dec_len u (by omega)
  rw [show parseR (Lib.decDigits u) = parseFin (Lib.decDigits u) (parseL 0 (Lib.decDigits u)) from if_pos hl, (parse_dec u).1]
  exact parseFin_yes _ _ ⟨h, itoa_nat u⟩
theorem itoa_digs (n : Int) (h : 0 ≤ n) : ∀ b ∈ Lib.itoa n, isDig b = true := by
  obtain ⟨u, rfl⟩ := Int.eq_ofNat_of_zero_le h
  rw [itoa_nat]
  exact (parse_dec u).2
def splitB (c : UInt8) : List UInt8 → List UInt8 × List UInt8 × Bool
  | [] => ([], [], false)
  | b :: l => if b = c then ([], l, true) else (b :: (splitB c l).1, (splitB c l).2.1, (splitB c l).2.2)
theorem splitB_hit (c : UInt8) (l : List UInt8) : splitB c (c :: l) = ([], l, true) := if_pos rfl
theorem splitB_miss (c b : UInt8) (l : List UInt8) (h : ¬ b = c) : splitB c (b :: l) = (b :: (splitB c l).1, (splitB c l).2.1, (splitB c l).2.2) := if_neg h
theorem splitB_found (c : UInt8) (a b : List UInt8) (h : ∀ x ∈ a, x ≠ c) : splitB c (a ++ c :: b) = (a, b, true) := by
  induction a with
  | nil => exact splitB_hit c b
  | cons x a ih =>
    rw [List.cons_append, splitB_miss _ _ _ (h x List.mem_cons_self), ih (fun y hy => h y (List.mem_cons_of_mem _ hy))]
theorem splitB_none (c : UInt8) (a : List UInt8) (h : ∀ x ∈ a, x ≠ c) : splitB c a = (a, [], false) := by
  induction a with
  | nil => rfl
  | cons x a ih => rw [splitB_miss _ _ _ (h x List.mem_cons_self), ih (fun y hy => h y (List.mem_cons_of_mem _ hy))]
theorem splitB_len (c : UInt8) (l : List UInt8) : (splitB c l).1.length ≤ l.length ∧ (splitB c l).2.1.length ≤ l.length := by
  induction l with
  | nil => exact ⟨Nat.le_refl _, Nat.le_refl _⟩
  | cons b l ih =>
    by_cases h : b = c
    · subst h
      rw [splitB_hit]
      exact ⟨Nat.zero_le _, by simp⟩
    · rw [splitB_miss _ _ _ h]
      simp only [List.length_cons]
      omega
theorem cut_split (c : UInt8) (l : List UInt8) : Lib.cut l [c] = splitB c l := by
  induction l with
  | nil => rfl
  | cons b l ih =>
    have hge := Lib.index_ge l [c]
    by_cases e : b = c
    · subst e
      rw [splitB_hit]
      unfold Lib.cut
      rw [show Lib.index (b :: l) [b] = 0 by simp [Lib.index]]
      simp
    · rw [splitB_miss _ _ _ e, ← ih]
      have hi : Lib.index (b :: l) [c] = if Lib.index l [c] == -1 then -1 else Lib.index l [c] + 1 := by
        simp [Lib.index, Ne.symm e]
      unfold Lib.cut
      by_cases hn : Lib.index l [c] = -1
      · rw [hi, hn]
        simp
      · have h0 : 0 ≤ Lib.index l [c] := by omega
        have hi2 : Lib.index (b :: l) [c] = Lib.index l [c] + 1 := by rw [hi, if_neg (by simpa using hn)]
        rw [hi2, if_pos (show 0 ≤ Lib.index l [c] + 1 by omega), if_pos h0]
        obtain ⟨m, hm⟩ := Int.eq_ofNat_of_zero_le h0
        rw [hm]
        simp only [List.length_singleton]
        rw [show ((m : Int) + 1).toNat = m + 1 by omega, Int.toNat_natCast]
        simp
theorem cutS_val (c : UInt8) (l : List UInt8) (h : l.length < 4294967281) : strings_Cut.f (bl l) (bl [c]) = some (bl (splitB c l).1, bl (splitB c l).2.1, (splitB c l).2.2) := by
  unfold strings_Cut.f
  rw [if_pos (by rw [bl_size]; exact h)]
  have e : (bl l).data.toList = l := by simp [bl]
  have e2 : (bl [c]).data.toList = [c] := by simp [bl]
  rw [e, e2, cut_split]
  rfl
def txtA (a b c : Int) : List UInt8 := if isAddr a b c = true then addrText a b c else []
theorem spec_txtA (a b c : Int) : Ev (fun k => spec_AddressText.f k a b c) (bl (txtA a b c)) := by
  have h := spec_AddressText_ev a b c
  have e : bl (txtA a b c) = if isAddr a b c = true then bl (addrText a b c) else bl [] := by
    unfold txtA
    split <;> rfl
  rw [e]
  exact h
theorem impl_txtA (a b c : Int) : impl_AddressText.f a b c = some (bl (txtA a b c)) := by
  rw [impl_AddressText_val]
  unfold txtA
  split <;> rfl
def finI (l p0 p1 p2 : List UInt8) : Int × Int × Int × Bool :=
  if ¬ l = [] ∧ txtA (parseR p0).1 (parseR p1).1 (parseR p2).1 = l then ((parseR p0).1, (parseR p1).1, (parseR p2).1, true) else (0, 0, 0, false)
theorem dig_ne (b c : UInt8) (h : isDig b = true) (hc : isDig c = false) : b ≠ c := by
  intro e
  subst e
  rw [h] at hc
  cases hc
theorem split_addr (a b c : Int) (h : isAddr a b c = true) : splitB 47 (addrText a b c) = (Lib.itoa a, Lib.itoa b ++ (if c = 0 then [] else 63 :: Lib.itoa c), true) := by
  have hr := isAddr_range a b c h
  have e : addrText a b c = Lib.itoa a ++ 47 :: (Lib.itoa b ++ (if c = 0 then [] else 63 :: Lib.itoa c)) := by
    unfold addrText
    rw [List.append_assoc, List.append_assoc, List.singleton_append]
  rw [e]
  exact splitB_found _ _ _ (fun x hx => dig_ne x 47 (itoa_digs a (by omega) x hx) (by decide))
theorem split_addr2 (b c : Int) (h0 : 0 ≤ b) (h1 : 0 ≤ c) : splitB 63 (Lib.itoa b ++ (if c = 0 then [] else 63 :: Lib.itoa c)) = (Lib.itoa b, if c = 0 then [] else Lib.itoa c, if c = 0 then false else true) := by
  have hn : ∀ x ∈ Lib.itoa b, x ≠ 63 := fun x hx => dig_ne x 63 (itoa_digs b h0 x hx) (by decide)
  by_cases e : c = 0
  · rw [if_pos e, if_pos e, if_pos e, List.append_nil]
    exact splitB_none _ _ hn
  · rw [if_neg e, if_neg e, if_neg e]
    exact splitB_found _ _ _ hn
theorem parse_small (n : Int) (h0 : 0 ≤ n) (h1 : n ≤ 1000000000000) : parseR (Lib.itoa n) = (n, true) := by
  obtain ⟨u, rfl⟩ := Int.eq_ofNat_of_zero_le h0
  exact parse_itoa u (by omega)
theorem parse_nil : parseR [] = (0, false) := rfl
def addrR (l : List UInt8) : Int × Int × Int × Bool := finI l (splitB 47 l).1 (splitB 63 (splitB 47 l).2.1).1 (splitB 63 (splitB 47 l).2.1).2.1
theorem impl_ParseAddress_ev (l : List UInt8) (hl : l.length ≤ 1048576) : Ev (fun n => impl_ParseAddress.f n (bl l)) (addrR l) := by
  unfold impl_ParseAddress.f
  have l1 := splitB_len 47 l
  have l2 := splitB_len 63 (splitB 47 l).2.1
  have e47 : (⟨#[47]⟩ : ByteArray) = bl [47] := rfl
  have e63 : (⟨#[63]⟩ : ByteArray) = bl [63] := rfl
  rw [e47, e63]
  refine ev_bind0 (cutS_val 47 l (by omega)) (ev_bind0 (cutS_val 63 _ (by omega)) ?_)
  refine Ev.bind (impl_ParseInt_ev _ (by omega)) (Ev.bind (impl_ParseInt_ev _ (by omega)) (Ev.bind (impl_ParseInt_ev _ (by omega)) ?_))
  by_cases h0 : l = []
  · rw [show addrR l = (0, 0, 0, false) from if_neg (fun w => w.1 h0)]
    exact ev_pos (by rw [bl_toList]; exact h0) (Ev.now _)
  · refine ev_neg (by rw [bl_toList]; exact h0) (ev_bind0 (impl_txtA _ _ _) ?_)
    by_cases t : txtA (parseR (splitB 47 l).1).1 (parseR (splitB 63 (splitB 47 l).2.1).1).1 (parseR (splitB 63 (splitB 47 l).2.1).2.1).1 = l
    · rw [show addrR l = _ from if_pos ⟨h0, t⟩]
      exact ev_pos (by rw [bl_toList, bl_toList]; exact t) (Ev.now _)
    · rw [show addrR l = (0, 0, 0, false) from if_neg (fun w => t w.2)]
      exact ev_neg (by rw [bl_toList, bl_toList]; exact t) (Ev.now _)
theorem l1New_l0 (l : List Int) (hl : l.length ≤ 1099511627776) : ∀ (d i : Nat) (h : Int), i + d = l.length → ∃ h', Ev (fun k => spec_l1New.l0 k l h (i : Int)) (l, 0, h') := by
  intro d
  induction d with
  | zero =>
    intro i h hd
    exact ⟨h, Ev.step (fun _ => spec_l1New.l0.eq_2 ..) (ev_neg (by omega) (Ev.now _))⟩
  | succ d ih =>
    intro i h hd
    by_cases h4 : (i : Int) < 4000
    · obtain ⟨h', e⟩ := ih (i + 1) _ (by omega)
      refine ⟨h', Ev.step (fun _ => spec_l1New.l0.eq_2 ..) (ev_pos (by omega) (ev_pos h4 (ev_pos (by omega) ?_)))⟩
      rw [w64 (x := (i : Int) + 1) (by omega) (by omega)]
      exact e
    · exact ⟨h, Ev.step (fun _ => spec_l1New.l0.eq_2 ..) (ev_pos (by omega) (ev_neg h4 (Ev.now _)))⟩
theorem l1New_ev (l : List Int) (hl : l.length ≤ 1099511627776) : ∃ h, Ev (fun k => spec_l1New.f k l) (l, 0, h) := by
  unfold spec_l1New.f
  exact l1New_l0 l hl l.length 0 _ (by omega)
theorem and255 (y : Int) : 0 ≤ Go.bits .and .i64 y 255 ∧ Go.bits .and .i64 y 255 ≤ 255 := by
  have h : (BitVec.ofInt 64 y &&& BitVec.ofInt 64 255).toNat ≤ 255 := by
    rw [BitVec.toNat_and]
    exact Nat.le_trans Nat.and_le_right (by decide)
  have e : Go.bits .and .i64 y 255 = IntKind.i64.wrap ((BitVec.ofInt 64 y &&& BitVec.ofInt 64 255).toNat : Int) := rfl
  rw [e, IntKind.wrap_i64]
  omega
theorem l1Byte_some (b : List Int) (hb : b.length ≤ 1099511627776) (i h : Int) (h0 : 0 ≤ i) (h1 : i ≤ 1099511627776) : ∃ x i' h', spec_l1Byte.f b i h = some (x, i', h') ∧ 0 ≤ x ∧ x ≤ 255 ∧ 0 ≤ i' ∧ i' ≤ 1099511627776 := by
  unfold spec_l1Byte.f
  by_cases c : i < (b.length : Int)
  · rw [if_pos c, if_pos h0, w64 (x := i + 1) (by omega) (by omega)]
    exact ⟨_, _, _, rfl, (and255 _).1, (and255 _).2, by omega, by omega⟩
  · rw [if_neg c]
    exact ⟨_, _, _, rfl, (and255 _).1, (and255 _).2, h0, h1⟩
theorem l1Below_some (b : List Int) (hb : b.length ≤ 1099511627776) (i h n : Int) (h0 : 0 ≤ i) (h1 : i ≤ 1099511627776) : ∃ x i' h', spec_l1Below.f b i h n = some (x, i', h') ∧ 0 ≤ x ∧ (0 < n → x < n) ∧ (n ≤ 0 → x = 0) ∧ 0 ≤ i' ∧ i' ≤ 1099511627776 := by
  unfold spec_l1Below.f
  by_cases c : n ≤ 0
  · rw [if_pos c]
    exact ⟨_, _, _, rfl, by omega, fun h => by omega, fun _ => rfl, h0, h1⟩
  rw [if_neg c]
  by_cases c2 : n ≤ 256
  · rw [if_pos c2]
    obtain ⟨x, i', h', e, hx0, hx1, hi0, hi1⟩ := l1Byte_some b hb i h h0 h1
    rw [e, Option.bind_some, if_neg (by omega)]
    refine ⟨_, _, _, rfl, ?_, fun _ => ?_, fun h => by omega, hi0, hi1⟩
    · rw [Int.tmod_eq_emod_of_nonneg hx0]; exact Int.emod_nonneg _ (by omega)
    · rw [Int.tmod_eq_emod_of_nonneg hx0]; exact Int.emod_lt_of_pos _ (by omega)
  · rw [if_neg c2]
    obtain ⟨x, i', h', e, hx0, hx1, hi0, hi1⟩ := l1Byte_some b hb i h h0 h1
    rw [e, Option.bind_some]
    obtain ⟨y, i2, h2, e2, hy0, hy1, hi20, hi21⟩ := l1Byte_some b hb i' h' hi0 hi1
    rw [e2, Option.bind_some]
    obtain ⟨z, i3, h3, e3, hz0, hz1, hi30, hi31⟩ := l1Byte_some b hb i2 h2 hi20 hi21
    rw [e3, Option.bind_some, if_neg (by omega)]
    have ew : wrap64 ((wrap64 ((wrap64 (x * 65536)) + (wrap64 (y * 256)))) + z) = x * 65536 + y * 256 + z := by
      rw [w64 (x := x * 65536) (by omega) (by omega), w64 (x := y * 256) (by omega) (by omega), w64 (x := x * 65536 + y * 256) (by omega) (by omega), w64 (by omega) (by omega)]
    refine ⟨_, _, _, rfl, ?_, fun _ => ?_, fun h => by omega, hi30, hi31⟩
    · rw [ew, Int.tmod_eq_emod_of_nonneg (by omega)]; exact Int.emod_nonneg _ (by omega)
    · rw [ew, Int.tmod_eq_emod_of_nonneg (by omega)]; exact Int.emod_lt_of_pos _ (by omega)
theorem l1Int_some (b : List Int) (hb : b.length ≤ 1099511627776) (i h : Int) (l : List Int) (hl : 0 < l.length) (h0 : 0 ≤ i) (h1 : i ≤ 1099511627776) : ∃ x i' h', spec_l1Int.f b i h l = some (x, i', h') ∧ x ∈ l ∧ 0 ≤ i' ∧ i' ≤ 1099511627776 := by
  unfold spec_l1Int.f
  obtain ⟨x, i', h', e, hx0, hx1, _, hi0, hi1⟩ := l1Below_some b hb i h (l.length : Int) h0 h1
  have hx := hx1 (by omega)
  rw [e, Option.bind_some, if_pos hx0, if_pos hx]
  refine ⟨_, _, _, rfl, ?_, hi0, hi1⟩
  obtain ⟨j, rfl⟩ := Int.eq_ofNat_of_zero_le hx0
  show rd l (j : Int) ∈ l
  rw [rd_at l j (by omega)]
  exact List.getElem_mem _
theorem l4Draw_some (b : List Int) (hb : b.length ≤ 1099511627776) (i h : Int) (h0 : 0 ≤ i) (h1 : i ≤ 1099511627776) : ∃ x y z i' h', spec_l4Draw.f b i h = some (x, y, z, i', h') ∧ (1 ≤ x ∧ x ≤ 3) ∧ (0 ≤ y ∧ y ≤ 2) ∧ (0 ≤ z ∧ z ≤ 2) ∧ 0 ≤ i' ∧ i' ≤ 1099511627776 := by
  unfold spec_l4Draw.f
  obtain ⟨x, i2, h2, e2, hx0, hx1, _, hi20, hi21⟩ := l1Below_some b hb i h 3 h0 h1
  obtain ⟨y, i3, h3, e3, hy0, hy1, _, hi30, hi31⟩ := l1Below_some b hb i2 h2 3 hi20 hi21
  obtain ⟨z, i4, h4, e4, hz0, hz1, _, hi40, hi41⟩ := l1Below_some b hb i3 h3 3 hi30 hi31
  have hx := hx1 (by omega)
  have hy := hy1 (by omega)
  have hz := hz1 (by omega)
  rw [e2, Option.bind_some, e3, Option.bind_some, e4, Option.bind_some, w64 (x := 1 + x) (by omega) (by omega)]
  exact ⟨_, _, _, _, _, rfl, by omega, by omega, by omega, hi40, hi41⟩
theorem l4Raw_some (b : List Int) (hb : b.length ≤ 1099511627776) (i h : Int) (h0 : 0 ≤ i) (h1 : i ≤ 1099511627776) : ∃ x i' h', spec_l4Raw.f b i h = some (x, i', h') ∧ (-9223372036854775808 ≤ x ∧ x ≤ 9223372036854775807) ∧ 0 ≤ i' ∧ i' ≤ 1099511627776 := by
  unfold spec_l4Raw.f
  obtain ⟨y, i2, h2, e2, hm, hi20, hi21⟩ := l1Int_some b hb i h [(-1), 0, 9, 10, 99, 100, 9223372036854775807, (-9223372036854775808)] (by decide) h0 h1
  rw [e2, Option.bind_some]
  simp only [List.mem_cons, List.not_mem_nil, or_false] at hm
  exact ⟨_, _, _, rfl, by show _ ≤ y ∧ y ≤ _; omega, hi20, hi21⟩
theorem l4Any_some (b : List Int) (hb : b.length ≤ 1099511627776) (i h : Int) (h0 : 0 ≤ i) (h1 : i ≤ 1099511627776) : ∃ x y z i' h', spec_l4Any.f b i h = some (x, y, z, i', h') ∧ (-9223372036854775808 ≤ x ∧ x ≤ 9223372036854775807) ∧ (-9223372036854775808 ≤ y ∧ y ≤ 9223372036854775807) ∧ (-9223372036854775808 ≤ z ∧ z ≤ 9223372036854775807) ∧ 0 ≤ i' ∧ i' ≤ 1099511627776 := by
  unfold spec_l4Any.f
  obtain ⟨x, y, z, i2, h2, e, hx, hy, hz, hi0, hi1⟩ := l4Draw_some b hb i h h0 h1
  obtain ⟨q, i3, h3, e3, _, _, _, hi30, hi31⟩ := l1Below_some b hb i2 h2 9 hi0 hi1
  obtain ⟨r, i4, h4, e4, hr, hi40, hi41⟩ := l4Raw_some b hb i3 h3 hi30 hi31
  rw [e, Option.bind_some, e3, Option.bind_some]
  by_cases c0 : q = 0
  · rw [if_pos c0, e4, Option.bind_some]
    exact ⟨_, _, _, _, _, rfl, hr, by show _ ≤ y ∧ y ≤ _; omega, by show _ ≤ z ∧ z ≤ _; omega, hi40, hi41⟩
  rw [if_neg c0]
  by_cases c1 : q = 1
  · rw [if_pos c1, e4, Option.bind_some]
    exact ⟨_, _, _, _, _, rfl, by show _ ≤ x ∧ x ≤ _; omega, hr, by show _ ≤ z ∧ z ≤ _; omega, hi40, hi41⟩
  rw [if_neg c1]
  by_cases c2 : q = 2
  · rw [if_pos c2, e4, Option.bind_some]
    exact ⟨_, _, _, _, _, rfl, by show _ ≤ x ∧ x ≤ _; omega, by show _ ≤ y ∧ y ≤ _; omega, hr, hi40, hi41⟩
  · rw [if_neg c2]
    exact ⟨_, _, _, _, _, rfl, by show _ ≤ x ∧ x ≤ _; omega, by show _ ≤ y ∧ y ≤ _; omega, by show _ ≤ z ∧ z ≤ _; omega, hi30, hi31⟩
theorem l1Str_some (b : List Int) (hb : b.length ≤ 1099511627776) (i h : Int) (l : List ByteArray) (hl : 0 < l.length) (h0 : 0 ≤ i) (h1 : i ≤ 1099511627776) : ∃ x i' h', spec_l1Str.f b i h l = some (x, i', h') ∧ x ∈ l ∧ 0 ≤ i' ∧ i' ≤ 1099511627776 := by
  unfold spec_l1Str.f
  obtain ⟨x, i', h', e, hx0, hx1, _, hi0, hi1⟩ := l1Below_some b hb i h (l.length : Int) h0 h1
  have hx := hx1 (by omega)
  rw [e, Option.bind_some, if_pos hx0, if_pos hx]
  refine ⟨_, _, _, rfl, ?_, hi0, hi1⟩
  obtain ⟨j, rfl⟩ := Int.eq_ofNat_of_zero_le hx0
  have hj : j < l.length := by omega
  show rdOf ByteArray.empty l (j : Int) ∈ l
  unfold rdOf
  rw [Int.toNat_natCast, List.getD_eq_getElem?_getD, List.getElem?_eq_getElem hj]
  exact List.getElem_mem hj
theorem bl_ex (s : ByteArray) (n : Nat) (h : s.size ≤ n) : ∃ l : List UInt8, s = bl l ∧ l.length ≤ n := ⟨s.data.toList, (bl_of s).symm, by rw [Array.length_toList]; exact h⟩
theorem addrText_ne (a b c : Int) : ¬ addrText a b c = [] := by
  unfold addrText
  simp
theorem addrR_text (a b c : Int) (h : isAddr a b c = true) : addrR (addrText a b c) = (a, b, c, true) := by
  have hr := isAddr_range a b c h
  have s1 := split_addr a b c h
  have s2 := split_addr2 b c (by omega) (by omega)
  have pa := parse_small a (by omega) (by omega)
  have pb := parse_small b (by omega) (by omega)
  have pc : (parseR (if c = 0 then [] else Lib.itoa c)).1 = c := by
    by_cases e : c = 0
    · rw [if_pos e, parse_nil]
      exact e.symm
    · rw [if_neg e, parse_small c (by omega) (by omega)]
  unfold addrR
  rw [s1]
  show finI _ (Lib.itoa a) (splitB 63 (Lib.itoa b ++ (if c = 0 then [] else 63 :: Lib.itoa c))).1 (splitB 63 (Lib.itoa b ++ (if c = 0 then [] else 63 :: Lib.itoa c))).2.1 = _
  rw [s2]
  show finI _ (Lib.itoa a) (Lib.itoa b) (if c = 0 then [] else Lib.itoa c) = _
  unfold finI
  rw [pa, pb, pc]
  exact if_pos ⟨addrText_ne a b c, show txtA a b c = addrText a b c from if_pos h⟩
theorem addrR_nil : addrR [] = (0, 0, 0, false) := by
  unfold addrR finI
  exact if_neg (fun w => w.1 rfl)
theorem addrR_ok (l : List UInt8) (h : (addrR l).2.2.2 = true) : txtA (addrR l).1 (addrR l).2.1 (addrR l).2.2.1 = l := by
  by_cases c : ¬ l = [] ∧ txtA (parseR (splitB 47 l).1).1 (parseR (splitB 63 (splitB 47 l).2.1).1).1 (parseR (splitB 63 (splitB 47 l).2.1).2.1).1 = l
  · rw [show addrR l = _ from if_pos c]
    exact c.2
  · rw [show addrR l = (0, 0, 0, false) from if_neg c] at h
    cases h
theorem drawAddr_ev (l : List Int) (hl : l.length ≤ 1048576) : ∃ a b c : Int, Ev (fun k => spec_DrawIsAddress.f k l) (a, b, c) := by
  unfold spec_DrawIsAddress.f
  obtain ⟨h, e1⟩ := l1New_ev l (by omega)
  obtain ⟨x, y, z, i2, h2, e2, _⟩ := l4Any_some l (by omega) 0 h (by omega) (by omega)
  exact ⟨x, y, z, Ev.bind e1 (ev_bind0 e2 (Ev.now _))⟩
theorem drawPA_ev (l : List Int) (hl : l.length ≤ 1048576) : ∃ s : List UInt8, Ev (fun k => spec_DrawParseAddress.f k l) (bl s) ∧ s.length ≤ 100 := by
  unfold spec_DrawParseAddress.f
  obtain ⟨h, e1⟩ := l1New_ev l (by omega)
  obtain ⟨x, y, z, i2, h2, e2, hx, hy, hz, hi0, hi1⟩ := l4Draw_some l (by omega) 0 h (by omega) (by omega)
  have ha : isAddr x y z = true := by
    unfold isAddr
    simp only [Bool.and_eq_true, decide_eq_true_eq]
    omega
  have e3 := spec_txtA x y z
  have et : txtA x y z = addrText x y z := if_pos ha
  have la := itoa_len x (by omega) (by omega)
  have lb := itoa_len y (by omega) (by omega)
  have lc := itoa_len z (by omega) (by omega)
  have hlen : (addrText x y z).length ≤ 70 := by
    by_cases hc : z = 0
    · subst hc
      rw [addrText_zero, List.length_append, List.length_append, List.length_singleton]
      omega
    · rw [addrText_pos _ _ _ hc, List.length_append, List.length_append, List.length_append, List.length_singleton, List.length_cons]
      omega
  rw [et] at e3
  have hsz : (bl (addrText x y z)).size ≤ 70 := by rw [bl_size]; exact hlen
  generalize bl (addrText x y z) = t at e3 hsz
  obtain ⟨u, i4, h4, e4, hm, _, _⟩ := l1Str_some l (by omega) i2 h2 [t, t, t, t ++ (⟨#[63]⟩ : ByteArray), t ++ (⟨#[48]⟩ : ByteArray), (⟨#[48]⟩ : ByteArray) ++ t, t ++ (⟨#[47, 49]⟩ : ByteArray), (⟨#[49, 47, 50, 63, 48]⟩ : ByteArray), (⟨#[49]⟩ : ByteArray), (⟨#[]⟩ : ByteArray), (⟨#[49, 47]⟩ : ByteArray), (⟨#[49, 48, 47, 49]⟩ : ByteArray), (⟨#[49, 47, 49, 48, 48]⟩ : ByteArray), (⟨#[49, 47, 50, 63, 49, 48, 48]⟩ : ByteArray), (⟨#[49, 63, 50]⟩ : ByteArray)] (by simp) hi0 hi1
  have z1 : (⟨#[63]⟩ : ByteArray).size = 1 := rfl
  have z2 : (⟨#[48]⟩ : ByteArray).size = 1 := rfl
  have z3 : (⟨#[47, 49]⟩ : ByteArray).size = 2 := rfl
  have hs : u.size ≤ 100 := by
    simp only [List.mem_cons, List.not_mem_nil, or_false] at hm
    rcases hm with rfl | rfl | rfl | rfl | rfl | rfl | rfl | rfl | rfl | rfl | rfl | rfl | rfl | rfl | rfl
    · omega
    · omega
    · omega
    · rw [ByteArray.size_append]; omega
    · rw [ByteArray.size_append]; omega
    · rw [ByteArray.size_append]; omega
    · rw [ByteArray.size_append]; omega
    all_goals decide
  obtain ⟨s, rfl, hsl⟩ := bl_ex u 100 hs
  exact ⟨s, Ev.bind e1 (ev_bind0 e2 (Ev.bind e3 (ev_pos (by omega) (ev_pos (by omega) (ev_pos (by omega) (ev_bind0 e4 (Ev.now _))))))), hsl⟩
theorem drawDist_ev (l : List Int) (hl : l.length ≤ 1048576) : ∃ a0 a1 a2 b0 b1 b2 : Int, Ev (fun k => spec_DrawDistanceOf.f k l) (a0, a1, a2, b0, b1, b2) := by
  unfold spec_DrawDistanceOf.f
  obtain ⟨h, e1⟩ := l1New_ev l (by omega)
  obtain ⟨x, y, z, i2, h2, e2, _, _, _, hi0, hi1⟩ := l4Any_some l (by omega) 0 h (by omega) (by omega)
  obtain ⟨x', y', z', i3, h3, e3, _⟩ := l4Any_some l (by omega) i2 h2 hi0 hi1
  exact ⟨x, y, z, x', y', z', Ev.bind e1 (ev_bind0 e2 (ev_bind0 e3 (Ev.now _)))⟩
theorem dist_props (a0 a1 a2 b0 b1 b2 : Int) : ∃ d, impl_DistanceOf.f a0 a1 a2 b0 b1 b2 = some d ∧ impl_DistanceOf.f b0 b1 b2 a0 a1 a2 = some d ∧ ((d == 0) != (a0 == b0 && (a1 == b1 && (a2 == b2)))) = false ∧ 0 ≤ d ∧ d ≤ 3 ∧ (d ≤ 1 → a0 = b0 ∧ a1 = b1) := by
  unfold impl_DistanceOf.f
  by_cases h0 : a0 = b0
  · subst h0
    by_cases h1 : a1 = b1
    · subst h1
      by_cases h2 : a2 = b2
      · subst h2
        exact ⟨0, by simp, by simp, by simp, by omega, by omega, fun _ => ⟨rfl, rfl⟩⟩
      · exact ⟨1, by simp [h2], by simp [Ne.symm h2], by simp [h2], by omega, by omega, fun _ => ⟨rfl, rfl⟩⟩
    · exact ⟨2, by simp [h1], by simp [Ne.symm h1], by simp [h1], by omega, by omega, fun w => by omega⟩
  · exact ⟨3, by simp [h0], by simp [Ne.symm h0], by simp [h0], by omega, by omega, fun w => by omega⟩
theorem lt_props (x y : Int) : ((decide (x < y)) != (decide (y < x))) = !(x == y) := by
  rcases Int.lt_trichotomy x y with h | h | h
  · simp [h, show ¬ y < x by omega, show ¬ x = y by omega]
  · simp [h]
  · simp [h, show ¬ x < y by omega, show ¬ x = y by omega]
theorem before_props (a0 a1 a2 b0 b1 b2 : Int) : ∃ t u, impl_BeforeAddress.f a0 a1 a2 b0 b1 b2 = some t ∧ impl_BeforeAddress.f b0 b1 b2 a0 a1 a2 = some u ∧ ((t != u) == (!(a0 == b0) || (!(a1 == b1) || (!(a2 == b2))))) = true := by
  unfold impl_BeforeAddress.f
  by_cases h0 : a0 = b0
  · subst h0
    by_cases h1 : a1 = b1
    · subst h1
      refine ⟨_, _, by rw [if_pos rfl, if_pos rfl], by rw [if_pos rfl, if_pos rfl], ?_⟩
      rw [lt_props]
      simp
    · refine ⟨_, _, by rw [if_pos rfl, if_neg h1], by rw [if_pos rfl, if_neg (Ne.symm h1)], ?_⟩
      rw [lt_props]
      simp [h1]
  · refine ⟨_, _, by rw [if_neg h0], by rw [if_neg (Ne.symm h0)], ?_⟩
    rw [lt_props]
    simp [h0]
theorem addr_j1 (l : List Int) (hl : l.length ≤ 1048576) : Ev (fun k => laws_FnAddresses.j1 k l false) true := by
  obtain ⟨a0, a1, a2, b0, b1, b2, e⟩ := drawDist_ev l hl
  obtain ⟨d, e1, e2, hz, hd0, hd3, hw⟩ := dist_props a0 a1 a2 b0 b1 b2
  obtain ⟨t, u, e3, e4, hb⟩ := before_props a0 a1 a2 b0 b1 b2
  have last : Ev (fun k => laws_FnAddresses.j2 k false a0 a1 a2 b0 b1 b2) true := Ev.step (fun _ => laws_FnAddresses.j2.eq_2 ..) (ev_neg (by decide) (ev_bind0 e3 (ev_bind0 e4 (ev_of (congrArg some hb)))))
  refine Ev.step (fun _ => laws_FnAddresses.j1.eq_2 ..) (ev_neg (by decide) (Ev.bind e (ev_bind0 e1 (ev_bind0 e2 (ev_pos rfl (ev_neg (fun w => by rw [hz] at w; cases w) (ev_neg (by omega) (ev_neg (by omega) ?_))))))))
  by_cases c : d ≤ 1
  · obtain ⟨rfl, rfl⟩ := hw c
    refine ev_pos c (ev_bind0 rfl (ev_bind0 rfl ?_))
    rw [show (!(a0 == a0) || (!(a1 == a1) || (!((0 : Int) == 0)))) = false by simp]
    exact last
  · exact ev_neg c last
theorem addr_j0 (l : List Int) (hl : l.length ≤ 1048576) : Ev (fun k => laws_FnAddresses.j0 k l false) true := by
  obtain ⟨s, e, hs⟩ := drawPA_ev l hl
  refine Ev.step (fun _ => laws_FnAddresses.j0.eq_2 ..) (ev_neg (by decide) (Ev.bind e (Ev.bind (impl_ParseAddress_ev s (by omega)) ?_)))
  by_cases c : (addrR s).2.2.2 = true
  · refine ev_pos c (ev_bind0 (impl_txtA _ _ _) ?_)
    rw [addrR_ok s c, show ((bl s).toList != (bl s).toList) = false by simp]
    exact addr_j1 l hl
  · exact ev_neg c (addr_j1 l hl)
theorem FnAddresses : ∀ (x0 : List Int), (x0.length ≤ 9223372036854775807 ∧ ∀ y ∈ x0, (Lit.int .u8 y).wf = true) → ∃ k, laws_FnAddresses.f k x0 = some true := by
  intro l _
  refine Ev.rounds (g := fun k => laws_FnAddresses.f k l) ?_
  unfold laws_FnAddresses.f
  refine ev_bind0 rfl ?_
  by_cases hb : (l.length : Int) > 1048576
  · exact ev_pos (decide_eq_true hb) (Ev.now true)
  refine ev_neg (fun w => hb (of_decide_eq_true w)) ?_
  obtain ⟨a, b, c, e⟩ := drawAddr_ev l (by omega)
  refine Ev.bind e (ev_bind0 (impl_txtA a b c) ?_)
  by_cases h : isAddr a b c = true
  · have et : txtA a b c = addrText a b c := if_pos h
    have hr := isAddr_range a b c h
    have la := itoa_len a (by omega) (by omega)
    have lb := itoa_len b (by omega) (by omega)
    have lc := itoa_len c (by omega) (by omega)
    have hlen : (addrText a b c).length ≤ 70 := by
      by_cases hc : c = 0
      · subst hc
        rw [addrText_zero, List.length_append, List.length_append, List.length_singleton]
        omega
      · rw [addrText_pos _ _ _ hc, List.length_append, List.length_append, List.length_append, List.length_singleton, List.length_cons]
        omega
    rw [et]
    have ep := impl_ParseAddress_ev (addrText a b c) (by omega)
    rw [addrR_text a b c h] at ep
    refine Ev.bind ep (ev_bind0 (impl_IsAddress_val a b c) (ev_neg (by rw [h]; simp) (ev_pos rfl ?_)))
    rw [show (!(a == a) || (!(b == b) || (!(c == c)))) = false by simp]
    exact addr_j0 l (by omega)
  · have et : txtA a b c = [] := if_neg h
    rw [et]
    have ep := impl_ParseAddress_ev [] (by simp)
    rw [addrR_nil] at ep
    refine Ev.bind ep (ev_bind0 (impl_IsAddress_val a b c) (ev_neg (by rw [Bool.eq_false_iff.2 h]; decide) (ev_neg (by decide) (addr_j0 l (by omega)))))

end Go.Proofs.YtgcidlnhgpjdpaaDoor.Pure
