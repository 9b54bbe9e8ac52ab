/- The pure statement behind the law FnExactParseAddress: over numbers and lists the law answers true, at every input that the row's bounds let in. -/
import Derived.Test.YtgcidlnhgpjdpaeDoorQFnExactParseAddressx4
import Derived.Lib.ItoaLen
import Derived.Test.YtgcidlnhgpjdpaeDoorQFnExactParseAddressg
namespace Go.Proofs.YtgcidlnhgpjdpaeDoor.Pure
open Go Go.RowKit Go.Proofs.YtgcidlnhgpjdpaeDoor.QFnExactParseAddress Go.Proofs.YtgcidlnhgpjdpaeDoorW.PrintWords Go.Proofs.YtgcidlnhgpjdpaeDoorW.PrintLast Go.Proofs.YtgcidlnhgpjdpaeDoorW.PrintMore
set_option linter.unusedVariables false
set_option linter.unusedSimpArgs false
set_option maxRecDepth 100000

theorem w64 {x : Int} (h0 : -9223372036854775808 ≤ x) (h1 : x ≤ 9223372036854775807) : wrap64 x = x := by unfold wrap64; omega
theorem ev_pos {α : Type} {c : Prop} [Decidable c] {g f : Nat → Option α} {r : α} (h : c) (k : Ev g r) : Ev (fun n => if c then g n else f n) r := by
  obtain ⟨K, hK⟩ := k
  exact ⟨K, fun n hn => (if_pos h).trans (hK n hn)⟩
theorem ev_neg {α : Type} {c : Prop} [Decidable c] {g f : Nat → Option α} {r : α} (h : ¬ c) (k : Ev f r) : Ev (fun n => if c then g n else f n) r := by
  obtain ⟨K, hK⟩ := k
  exact ⟨K, fun n hn => (if_neg h).trans (hK n hn)⟩
theorem ev_bind0 {α β : Type} {o : Option α} {f : Nat → α → Option β} {a : α} {r : β} (h : o = some a) (k : Ev (fun n => f n a) r) : Ev (fun n => o.bind (f n)) r := by
  subst h
  exact k
theorem ev_of {α : Type} {o : Option α} {r : α} (h : o = some r) : Ev (fun _ => o) r := ⟨0, fun _ _ => h⟩
theorem l1In_val (a b c : Int) : spec_l1In.f a b c = some (decide (b ≤ a ∧ a ≤ c)) := by
  unfold spec_l1In.f
  by_cases h : a ≥ b
  · rw [if_pos h]; simp [h]
  · rw [if_neg h]; simp [h]
theorem inRange_val (a b c : Int) : impl_InRange.f a b c = some (decide (b ≤ a ∧ a ≤ c)) := by
  unfold impl_InRange.f
  by_cases h : b ≤ a
  · rw [if_pos h]; simp [h]
  · rw [if_neg h]; simp [h]
def bl (l : List UInt8) : ByteArray := ⟨l.toArray⟩
theorem bl_append (a b : List UInt8) : bl a ++ bl b = bl (a ++ b) := by
  apply ByteArray.ext
  rw [ByteArray.data_append]
  simp [bl]
theorem bl_size (a : List UInt8) : (bl a).size = a.length := by simp [bl, ByteArray.size]
theorem bl_toList (a : List UInt8) : (bl a).toList = a := by rw [ByteArray.toList_eq]; simp [bl]
theorem bl_of (s : ByteArray) : bl s.data.toList = s := by cases s; simp [bl]
theorem strOfNums_one (z : Int) : strOfNums [z] = bl [UInt8.ofNat z.toNat] := by
  apply ByteArray.ext
  apply Array.ext'
  rw [strOfNums_data]
  simp [bl]
def digs (u : Nat) : List UInt8 := if h : u = 0 then [] else digs (u / 10) ++ [UInt8.ofNat (48 + u % 10)]
termination_by u
decreasing_by omega
theorem digs_zero : digs 0 = [] := by rw [digs]; rfl
theorem digs_pos (u : Nat) (h : ¬ u = 0) : digs u = digs (u / 10) ++ [UInt8.ofNat (48 + u % 10)] := by
  rw [digs, dif_neg h]
theorem digs_dec (u : Nat) (h : ¬ u = 0) : digs u = Lib.decDigits u := by
  induction u using Nat.strongRecOn with
  | _ u ih =>
    rw [digs_pos u h, Lib.decDigits]
    by_cases c : u < 10
    · rw [dif_pos c, show u / 10 = 0 by omega, digs_zero, show u % 10 = u by omega, List.nil_append]
    · rw [dif_neg c, ih (u / 10) (by omega) (by omega)]
theorem digs_len (d : Nat) : ∀ u, u < 10 ^ d → (digs u).length ≤ d := by
  induction d with
  | zero =>
    intro u h
    rw [show u = 0 by simp at h; exact h, digs_zero]
    exact Nat.le_refl _
  | succ d ih =>
    intro u h
    by_cases c : u = 0
    · rw [c, digs_zero]; exact Nat.zero_le _
    · rw [digs_pos u c, List.length_append, List.length_singleton]
      have := ih (u / 10) (by rw [Nat.pow_succ] at h; omega)
      omega
theorem itoa_len (n : Int) (h0 : -9223372036854775808 ≤ n) (h1 : n ≤ 9223372036854775807) : (Lib.itoa n).length ≤ 21 := Lib.itoa_length_le n h0 h1
theorem spec_FormatInt_l0 (n : Int) : ∀ (d : Nat) (x : Int) (l : List UInt8), x.natAbs < 10 ^ d → l.length + d ≤ 100 → -9223372036854775808 ≤ x → x ≤ 9223372036854775807 → Ev (fun k => spec_FormatInt.l0 k n (bl l) x) (if n < 0 then bl (45 :: (digs x.natAbs ++ l)) else bl (digs x.natAbs ++ l)) := by
  intro d
  have fin : ∀ (l : List UInt8), l.length ≤ 100 → Ev (fun k => spec_FormatInt.l0 k n (bl l) 0) (if n < 0 then bl (45 :: l) else bl l) := by
    intro l hl
    refine Ev.step (fun _ => spec_FormatInt.l0.eq_2 ..) (ev_pos rfl ?_)
    by_cases c : n < 0
    · rw [show (if n < 0 then bl (45 :: l) else bl l) = bl (45 :: l) from if_pos c]
      refine ev_pos c (ev_pos (by rw [bl_size]; omega) (ev_of ?_))
      have e : (⟨#[45]⟩ : ByteArray) = bl [45] := rfl
      rw [e, bl_append]
      rfl
    · rw [show (if n < 0 then bl (45 :: l) else bl l) = bl l from if_neg c]
      exact ev_neg c (Ev.now _)
  induction d with
  | zero =>
    intro x l hx hl _ _
    obtain rfl : x = 0 := by simp at hx; exact hx
    have h := fin l (by omega)
    rw [show (0 : Int).natAbs = 0 from rfl, digs_zero, List.nil_append]
    exact h
  | succ d ih =>
    intro x l hx hl h0 h1
    by_cases c : x = 0
    · subst c
      have h := fin l (by omega)
      rw [show (0 : Int).natAbs = 0 from rfl, digs_zero, List.nil_append]
      exact h
    · have hu : ¬ x.natAbs = 0 := by omega
      have hq : (Int.tdiv x 10).natAbs = x.natAbs / 10 := by rw [Int.natAbs_tdiv]; rfl
      have hm : (Int.tmod x 10).natAbs = x.natAbs % 10 := by rw [Int.natAbs_tmod]; rfl
      have hm9 : x.natAbs % 10 < 10 := Nat.mod_lt _ (by omega)
      have hq2 : Int.tdiv x 10 * 10 + Int.tmod x 10 = x := Int.tdiv_mul_add_tmod x 10
      have e1 : digs x.natAbs ++ l = digs (Int.tdiv x 10).natAbs ++ (UInt8.ofNat (48 + x.natAbs % 10) :: l) := by
        rw [digs_pos _ hu, hq, List.append_assoc]
        rfl
      have key := ih (Int.tdiv x 10) (UInt8.ofNat (48 + x.natAbs % 10) :: l) (by rw [hq, Nat.pow_succ] at *; omega) (by rw [List.length_cons]; omega) (by omega) (by omega)
      rw [e1]
      refine Ev.step (fun _ => spec_FormatInt.l0.eq_2 ..) (ev_neg c ?_)
      have step : ∀ (z : Int), z = (48 + x.natAbs % 10 : Nat) → Ev (fun k => (some ([z] : List Int)).bind fun y => if (strOfNums y).size + (bl l).size ≤ 9223372036854775807 then spec_FormatInt.l0 k n (strOfNums y ++ bl l) (wrap64 (Int.tdiv x 10)) else none) (if n < 0 then bl (45 :: (digs (Int.tdiv x 10).natAbs ++ (UInt8.ofNat (48 + x.natAbs % 10) :: l))) else bl (digs (Int.tdiv x 10).natAbs ++ (UInt8.ofNat (48 + x.natAbs % 10) :: l))) := by
        intro z hz
        refine ev_bind0 rfl (ev_pos (by rw [strOfNums_one, bl_size, bl_size, List.length_singleton]; omega) ?_)
        rw [w64 (x := Int.tdiv x 10) (by omega) (by omega), strOfNums_one, bl_append, hz, Int.toNat_natCast]
        exact key
      by_cases cm : Int.tmod x 10 < 0
      · refine ev_pos cm (step _ ?_)
        rw [w64 (x := -(Int.tmod x 10)) (by omega) (by omega), w64 (x := 48 + -(Int.tmod x 10)) (by omega) (by omega)]
        omega
      · refine ev_neg cm (step _ ?_)
        rw [w64 (x := 48 + Int.tmod x 10) (by omega) (by omega)]
        omega
theorem spec_FormatInt_ev (n : Int) (h0 : -9223372036854775808 ≤ n) (h1 : n ≤ 9223372036854775807) : Ev (fun k => spec_FormatInt.f k n) (bl (Lib.itoa n)) := by
  unfold spec_FormatInt.f
  by_cases c : n = 0
  · refine ev_pos c (ev_of ?_)
    subst c
    have e : Lib.itoa 0 = [48] := by
      unfold Lib.itoa
      rw [if_neg (by omega)]
      exact Lib.decDigits_one (i := 0) (by omega)
    rw [e]
    rfl
  · refine ev_neg c ?_
    have h := spec_FormatInt_l0 n 20 n [] (by omega) (by simp) h0 h1
    have e : (if n < 0 then bl (45 :: (digs n.natAbs ++ [])) else bl (digs n.natAbs ++ [])) = bl (Lib.itoa n) := by
      rw [List.append_nil, digs_dec _ (by omega)]
      unfold Lib.itoa
      by_cases cn : n < 0
      · rw [if_pos cn, if_pos cn]
      · rw [if_neg cn, if_neg cn, show n.toNat = n.natAbs by omega]
    rw [e] at h
    exact h
theorem impl_FormatInt_val (n : Int) (h0 : -9223372036854775808 ≤ n) (h1 : n ≤ 9223372036854775807) : impl_FormatInt.f n = some (bl (Lib.itoa n)) := by
  unfold impl_FormatInt.f
  have e : ∀ (o : Option ByteArray), o = some (bl (Lib.itoa n)) → (o.bind fun t => some t) = some (bl (Lib.itoa n)) := by
    intro o h
    rw [h]
    rfl
  exact e _ (if_pos ⟨h0, h1⟩)
theorem bt_bl (l : List UInt8) (i : Nat) (h : i < l.length) : bt (bl l) (i : Int) = ((l[i]).toNat : Int) := by
  unfold bt
  rw [dif_pos (show ((i : Int)).toNat < (bl l).size by rw [bl_size]; exact h)]
  rfl
def isDig (b : UInt8) : Bool := decide (48 ≤ b.toNat) && decide (b.toNat ≤ 57)
def parseL (m : Nat) : List UInt8 → Option Nat
  | [] => some m
  | b :: l => if isDig b = true then parseL (10 * m + (b.toNat - 48)) l else none
def parseFin (l : List UInt8) : Option Nat → Int × Bool
  | none => (0, false)
  | some m => if m ≤ 1000000000000 ∧ Lib.itoa (m : Int) = l then ((m : Int), true) else (0, false)
def parseR (l : List UInt8) : Int × Bool := if 1 ≤ l.length ∧ l.length ≤ 13 then parseFin l (parseL 0 l) else (0, false)
theorem parseFin_yes (l : List UInt8) (m : Nat) (h : m ≤ 1000000000000 ∧ Lib.itoa (m : Int) = l) : parseFin l (some m) = ((m : Int), true) := if_pos h
theorem parseFin_no (l : List UInt8) (m : Nat) (h : ¬ (m ≤ 1000000000000 ∧ Lib.itoa (m : Int) = l)) : parseFin l (some m) = (0, false) := if_neg h
theorem parseL_yes (m : Nat) (b : UInt8) (l : List UInt8) (h : isDig b = true) : parseL m (b :: l) = parseL (10 * m + (b.toNat - 48)) l := if_pos h
theorem parseL_no (m : Nat) (b : UInt8) (l : List UInt8) (h : ¬ isDig b = true) : parseL m (b :: l) = none := if_neg h
theorem isDig_iff (b : UInt8) : isDig b = true ↔ 48 ≤ b.toNat ∧ b.toNat ≤ 57 := by
  unfold isDig
  rw [Bool.and_eq_true, decide_eq_true_eq, decide_eq_true_eq]
theorem pow_step (m i : Nat) (d : Nat) (hd : d ≤ 9) (h : m < 10 ^ i) : 10 * m + d < 10 ^ (i + 1) := by
  rw [Nat.pow_succ]
  omega
theorem pow_13 (m i : Nat) (h : m < 10 ^ i) (hi : i ≤ 13) : m < 10000000000000 :=
  Nat.lt_of_lt_of_le h (Nat.pow_le_pow_right (by omega) hi)
theorem spec_ParseInt_l0 (l : List UInt8) (hl : l.length ≤ 13) : ∀ (d i m : Nat), i + d = l.length → m < 10 ^ i → Ev (fun k => spec_ParseInt.l0 k (bl l) (m : Int) (i : Int)) (parseFin l (parseL m (l.drop i))) := by
  intro d
  induction d with
  | zero =>
    intro i m hd hm
    have hb := pow_13 m i hm (by omega)
    rw [List.drop_eq_nil_of_le (by omega)]
    refine Ev.step (fun _ => spec_ParseInt.l0.eq_2 ..) (ev_neg (by rw [bl_size]; omega) ?_)
    show Ev _ (parseFin l (some m))
    by_cases h1 : (m : Int) > 1000000000000
    · rw [parseFin_no _ _ (fun w => by omega)]
      exact ev_pos h1 (Ev.now _)
    · refine ev_neg h1 (Ev.bind (spec_FormatInt_ev m (by omega) (by omega)) ?_)
      by_cases h2 : Lib.itoa (m : Int) = l
      · rw [parseFin_yes _ _ ⟨by omega, h2⟩]
        exact ev_pos (by rw [bl_toList, bl_toList]; exact h2) (Ev.now _)
      · rw [parseFin_no _ _ (fun w => h2 w.2)]
        exact ev_neg (by rw [bl_toList, bl_toList]; exact h2) (Ev.now _)
  | succ d ih =>
    intro i m hd hm
    have hlt : i < l.length := by omega
    have hb := pow_13 m i hm (by omega)
    rw [List.drop_eq_getElem_cons hlt]
    refine Ev.step (fun _ => spec_ParseInt.l0.eq_2 ..) (ev_pos (by rw [bl_size]; omega) (ev_pos (by omega) ?_))
    rw [bt_bl l i hlt]
    have h255 : (l[i]).toNat < 256 := (l[i]).toNat_lt
    rw [w64 (x := ((l[i]).toNat : Int)) (by omega) (by omega)]
    refine ev_bind0 (l1In_val ..) ?_
    by_cases h : isDig l[i] = true
    · have hr := (isDig_iff _).1 h
      rw [parseL_yes _ _ _ h]
      refine ev_pos (decide_eq_true (by omega)) ?_
      rw [w64 (x := 10 * (m : Int)) (by omega) (by omega), w64 (x := (i : Int) + 1) (by omega) (by omega), w64 (by omega) (by omega), show (10 * (m : Int) + (((l[i]).toNat : Int) - 48) % 256) = ((10 * m + ((l[i]).toNat - 48) : Nat) : Int) by omega]
      exact ih (i + 1) _ (by omega) (pow_step m i _ (by omega) hm)
    · rw [parseL_no _ _ _ h]
      exact ev_neg (fun w => h ((isDig_iff _).2 (by have := of_decide_eq_true w; omega))) (Ev.now _)
theorem impl_ParseInt_l0 (l : List UInt8) (hl : l.length ≤ 13) : ∀ (d i m : Nat), i + d = l.length → m < 10 ^ i → Ev (fun k => impl_ParseInt.l0 k (bl l) (m : Int) (l.length : Int) (i : Int)) (parseFin l (parseL m (l.drop i))) := by
  intro d
  induction d with
  | zero =>
    intro i m hd hm
    have hb := pow_13 m i hm (by omega)
    rw [List.drop_eq_nil_of_le (by omega)]
    refine Ev.step (fun _ => impl_ParseInt.l0.eq_2 ..) (ev_neg (by omega) ?_)
    show Ev _ (parseFin l (some m))
    by_cases h1 : (m : Int) > 1000000000000
    · rw [parseFin_no _ _ (fun w => by omega)]
      exact ev_pos h1 (Ev.now _)
    · refine ev_neg h1 (ev_bind0 (impl_FormatInt_val m (by omega) (by omega)) ?_)
      by_cases h2 : Lib.itoa (m : Int) = l
      · rw [parseFin_yes _ _ ⟨by omega, h2⟩]
        exact ev_pos (by rw [bl_toList, bl_toList]; exact h2) (Ev.now _)
      · rw [parseFin_no _ _ (fun w => h2 w.2)]
        exact ev_neg (by rw [bl_toList, bl_toList]; exact h2) (Ev.now _)
  | succ d ih =>
    intro i m hd hm
    have hlt : i < l.length := by omega
    have hb := pow_13 m i hm (by omega)
    rw [List.drop_eq_getElem_cons hlt]
    refine Ev.step (fun _ => impl_ParseInt.l0.eq_2 ..) (ev_pos (by omega) (ev_pos (by omega) (ev_pos (by rw [bl_size]; omega) ?_)))
    rw [bt_bl l i hlt]
    have h255 : (l[i]).toNat < 256 := (l[i]).toNat_lt
    by_cases h1 : ((l[i]).toNat : Int) < 48
    · rw [parseL_no _ _ _ (fun w => by have := (isDig_iff _).1 w; omega)]
      exact ev_pos h1 (Ev.now _)
    refine ev_neg h1 ?_
    by_cases h2 : ((l[i]).toNat : Int) > 57
    · rw [parseL_no _ _ _ (fun w => by have := (isDig_iff _).1 w; omega)]
      exact ev_pos h2 (Ev.now _)
    refine ev_neg h2 ?_
    rw [parseL_yes _ _ _ ((isDig_iff _).2 (by omega)), w64 (x := (m : Int) * 10) (by omega) (by omega), w64 (x := (i : Int) + 1) (by omega) (by omega), w64 (by omega) (by omega), show ((m : Int) * 10 + (((l[i]).toNat : Int) - 48) % 256) = ((10 * m + ((l[i]).toNat - 48) : Nat) : Int) by omega]
    exact ih (i + 1) _ (by omega) (pow_step m i _ (by omega) hm)
theorem spec_ParseInt_ev (l : List UInt8) : Ev (fun k => spec_ParseInt.f k (bl l)) (parseR l) := by
  unfold spec_ParseInt.f
  rw [bl_size]
  refine ev_bind0 (l1In_val ..) ?_
  by_cases h : 1 ≤ l.length ∧ l.length ≤ 13
  · rw [show parseR l = parseFin l (parseL 0 l) from if_pos h]
    exact ev_pos (decide_eq_true (by omega)) (spec_ParseInt_l0 l h.2 l.length 0 0 (by omega) (by omega))
  · rw [show parseR l = (0, false) from if_neg h]
    exact ev_neg (fun w => h (by have := of_decide_eq_true w; omega)) (Ev.now _)
theorem impl_ParseInt_ev (l : List UInt8) (hb : l.length ≤ 9223372036854775807) : Ev (fun k => impl_ParseInt.f k (bl l)) (parseR l) := by
  unfold impl_ParseInt.f
  rw [bl_size]
  by_cases h0 : (l.length : Int) = 0
  · rw [show parseR l = (0, false) from if_neg (by omega)]
    exact ev_pos h0 (Ev.step (fun _ => impl_ParseInt.j0.eq_2 ..) (ev_pos rfl (Ev.now _)))
  refine ev_neg h0 (Ev.step (fun _ => impl_ParseInt.j0.eq_2 ..) ?_)
  by_cases h : l.length ≤ 13
  · rw [show parseR l = parseFin l (parseL 0 l) from if_pos (by omega), bl_size]
    exact ev_neg (fun w => by have := of_decide_eq_true w; omega) (impl_ParseInt_l0 l h l.length 0 0 (by omega) (by omega))
  · rw [show parseR l = (0, false) from if_neg (by omega)]
    exact ev_pos (decide_eq_true (by omega)) (Ev.now _)
def isAddr (a b c : Int) : Bool := decide (1 ≤ a ∧ a ≤ 9) && (decide (0 ≤ b ∧ b ≤ 99) && decide (0 ≤ c ∧ c ≤ 99))
theorem spec_IsAddress_val (a b c : Int) : spec_IsAddress.f a b c = some (isAddr a b c) := by
  unfold spec_IsAddress.f isAddr
  simp only [l1In_val, Option.bind_some]
  by_cases h1 : 1 ≤ a ∧ a ≤ 9 <;> by_cases h2 : 0 ≤ b ∧ b ≤ 99 <;> simp [h1, h2]
theorem impl_IsAddress_val (a b c : Int) : impl_IsAddress.f a b c = some (isAddr a b c) := by
  unfold impl_IsAddress.f isAddr
  simp only [inRange_val, Option.bind_some]
  by_cases h1 : 1 ≤ a ∧ a ≤ 9 <;> by_cases h2 : 0 ≤ b ∧ b ≤ 99 <;> simp [h1, h2]
theorem isAddr_range (a b c : Int) (h : isAddr a b c = true) : 1 ≤ a ∧ a ≤ 9 ∧ 0 ≤ b ∧ b ≤ 99 ∧ 0 ≤ c ∧ c ≤ 99 := by
  unfold isAddr at h
  simp only [Bool.and_eq_true, decide_eq_true_eq] at h
  omega
def addrText (a b c : Int) : List UInt8 := Lib.itoa a ++ [47] ++ Lib.itoa b ++ (if c = 0 then [] else 63 :: Lib.itoa c)
theorem addrText_zero (a b : Int) : addrText a b 0 = Lib.itoa a ++ [47] ++ Lib.itoa b := by
  unfold addrText
  rw [if_pos rfl, List.append_nil]
theorem addrText_pos (a b c : Int) (h : ¬ c = 0) : addrText a b c = Lib.itoa a ++ [47] ++ Lib.itoa b ++ 63 :: Lib.itoa c := by
  unfold addrText
  rw [if_neg h]
theorem spec_AddressText_ev (a b c : Int) : Ev (fun k => spec_AddressText.f k a b c) (if isAddr a b c = true then bl (addrText a b c) else bl []) := by
  unfold spec_AddressText.f
  refine ev_bind0 (spec_IsAddress_val a b c) ?_
  by_cases h : isAddr a b c = true
  · rw [show (if isAddr a b c = true then bl (addrText a b c) else bl []) = bl (addrText a b c) from if_pos h]
    have hr := isAddr_range a b c h
    have la := itoa_len a (by omega) (by omega)
    have lb := itoa_len b (by omega) (by omega)
    have lc := itoa_len c (by omega) (by omega)
    have e47 : (⟨#[47]⟩ : ByteArray) = bl [47] := rfl
    have e63 : (⟨#[63]⟩ : ByteArray) = bl [63] := rfl
    refine ev_pos h (Ev.bind (spec_FormatInt_ev a (by omega) (by omega)) (ev_pos (by rw [bl_size]; omega) (Ev.bind (spec_FormatInt_ev b (by omega) (by omega)) ?_)))
    rw [e47, e63, bl_append, bl_append, bl_append]
    refine ev_pos (by rw [bl_size, bl_size, List.length_append, List.length_singleton]; omega) ?_
    by_cases hc : c = 0
    · subst hc
      rw [addrText_zero]
      exact ev_pos rfl (Ev.now _)
    · rw [addrText_pos _ _ _ hc]
      refine ev_neg hc (ev_pos (by rw [bl_size, List.length_append, List.length_append, List.length_singleton]; omega) (Ev.bind (spec_FormatInt_ev c (by omega) (by omega)) (ev_pos (by rw [bl_size, bl_size, List.length_append, List.length_append, List.length_append, List.length_singleton, List.length_singleton]; omega) (ev_of ?_))))
      rw [bl_append, List.append_assoc _ [63]]
      rfl
  · rw [show (if isAddr a b c = true then bl (addrText a b c) else bl []) = bl [] from if_neg h]
    exact ev_neg h (Ev.now _)
theorem impl_AddressText_val (a b c : Int) : impl_AddressText.f a b c = some (if isAddr a b c = true then bl (addrText a b c) else bl []) := by
  have key : Ev (fun _ => impl_AddressText.f a b c) (if isAddr a b c = true then bl (addrText a b c) else bl []) := by
    unfold impl_AddressText.f
    refine ev_bind0 (impl_IsAddress_val a b c) ?_
    by_cases h : isAddr a b c = true
    · rw [show (if isAddr a b c = true then bl (addrText a b c) else bl []) = bl (addrText a b c) from if_pos h]
      have hr := isAddr_range a b c h
      have la := itoa_len a (by omega) (by omega)
      have lb := itoa_len b (by omega) (by omega)
      have lc := itoa_len c (by omega) (by omega)
      have e47 : (⟨#[47]⟩ : ByteArray) = bl [47] := rfl
      have e63 : (⟨#[63]⟩ : ByteArray) = bl [63] := rfl
      refine ev_pos h (ev_bind0 (impl_FormatInt_val a (by omega) (by omega)) (ev_pos (by rw [bl_size]; omega) (ev_bind0 (impl_FormatInt_val b (by omega) (by omega)) ?_)))
      rw [e47, e63, bl_append, bl_append]
      refine ev_pos (by rw [bl_size, bl_size, List.length_append, List.length_singleton]; omega) ?_
      by_cases hc : c = 0
      · subst hc
        rw [addrText_zero]
        exact ev_pos rfl (Ev.now _)
      · rw [addrText_pos _ _ _ hc]
        refine ev_neg hc (ev_bind0 (impl_FormatInt_val c (by omega) (by omega)) (ev_pos (by rw [bl_size]; omega) ?_))
        rw [bl_append]
        refine ev_pos (by rw [bl_size, bl_size, List.length_append, List.length_append, List.length_append, List.length_singleton, List.length_singleton]; omega) (ev_of ?_)
        rw [bl_append]
        rfl
    · rw [show (if isAddr a b c = true then bl (addrText a b c) else bl []) = bl [] from if_neg h]
      exact ev_neg h (Ev.now _)
  obtain ⟨K, hK⟩ := key
  exact hK K (Nat.le_refl _)
theorem parseL_append (l : List UInt8) (x : UInt8) : ∀ m, parseL m (l ++ [x]) = (parseL m l).bind fun r => if isDig x = true then some (10 * r + (x.toNat - 48)) else none := by
  induction l with
  | nil =>
    intro m
    by_cases h : isDig x = true
    · rw [List.nil_append, parseL_yes _ _ _ h]
      simp [parseL, h]
    · rw [List.nil_append, parseL_no _ _ _ h]
      simp [parseL, h]
  | cons b l ih =>
    intro m
    rw [List.cons_append]
    by_cases h : isDig b = true
    · rw [parseL_yes _ _ _ h, parseL_yes _ _ _ h, ih]
    · rw [parseL_no _ _ _ h, parseL_no _ _ _ h]
      rfl
theorem ofNat_dig (d : Nat) (h : d < 10) : (UInt8.ofNat (48 + d)).toNat = 48 + d := by
  rw [UInt8.toNat_ofNat']
  omega
theorem isDig_ofNat (d : Nat) (h : d < 10) : isDig (UInt8.ofNat (48 + d)) = true := (isDig_iff _).2 (by rw [ofNat_dig d h]; omega)
theorem parse_dec (u : Nat) : parseL 0 (Lib.decDigits u) = some u ∧ ∀ b ∈ Lib.decDigits u, isDig b = true := by
  induction u using Nat.strongRecOn with
  | _ u ih =>
    rw [Lib.decDigits]
    by_cases c : u < 10
    · rw [dif_pos c]
      refine ⟨?_, fun b hb => ?_⟩
      · rw [parseL_yes _ _ _ (isDig_ofNat u c), ofNat_dig u c]
        simp [parseL]
      · rw [List.mem_singleton.1 hb]
        exact isDig_ofNat u c
    · rw [dif_neg c]
      obtain ⟨h1, h2⟩ := ih (u / 10) (by omega)
      refine ⟨?_, fun b hb => ?_⟩
      · rw [parseL_append, h1, Option.bind_some, if_pos (isDig_ofNat _ (Nat.mod_lt _ (by omega))), ofNat_dig _ (Nat.mod_lt _ (by omega))]
        exact congrArg some (by omega)
      · rcases List.mem_append.1 hb with hb | hb
        · exact h2 b hb
        · rw [List.mem_singleton.1 hb]
          exact isDig_ofNat _ (Nat.mod_lt _ (by omega))
theorem dec_len (u : Nat) (h : u < 10 ^ 13) : 1 ≤ (Lib.decDigits u).length ∧ (Lib.decDigits u).length ≤ 13 := by
  by_cases c : u = 0
  · subst c
    rw [Lib.decDigits_one (by omega)]
    exact ⟨Nat.le_refl _, by simp⟩
  · rw [← digs_dec u c]
    exact ⟨by rw [digs_pos u c, List.length_append, List.length_singleton]; omega, digs_len 13 u h⟩
theorem itoa_nat (u : Nat) : Lib.itoa (u : Int) = Lib.decDigits u := Lib.itoa_nonneg u
theorem parse_itoa (u : Nat) (h : u ≤ 1000000000000) : parseR (Lib.itoa (u : Int)) = ((u : Int), true) := by
  rw [itoa_nat]
  have hl := dec_len u (by omega)
  rw [show parseR (Lib.decDigits u) = parseFin (Lib.decDigits u) (parseL 0 (Lib.decDigits u)) from if_pos hl, (parse_dec u).1]
  exact parseFin_yes _ _ ⟨h, itoa_nat u⟩
theorem itoa_digs (n : Int) (h : 0 ≤ n) : ∀ b ∈ Lib.itoa n, isDig b = true := by
  obtain ⟨u, rfl⟩ := Int.eq_ofNat_of_zero_le h
  rw [itoa_nat]
  exact (parse_dec u).2
def splitB (c : UInt8) : List UInt8 → List UInt8 × List UInt8 × Bool
  | [] => ([], [], false)
  | b :: l => if b = c then ([], l, true) else (b :: (splitB c l).1, (splitB c l).2.1, (splitB c l).2.2)
theorem splitB_hit (c : UInt8) (l : List UInt8) : splitB c (c :: l) = ([], l, true) := if_pos rfl
theorem splitB_miss (c b : UInt8) (l : List UInt8) (h : ¬ b = c) : splitB c (b :: l) = (b :: (splitB c l).1, (splitB c l).2.1, (splitB c l).2.2) := if_neg h
theorem splitB_found (c : UInt8) (a b : List UInt8) (h : ∀ x ∈ a, x ≠ c) : splitB c (a ++ c :: b) = (a, b, true) := by
  induction a with
  | nil => exact splitB_hit c b
  | cons x a ih =>
    rw [List.cons_append, splitB_miss _ _ _ (h x List.mem_cons_self), ih (fun y hy => h y (List.mem_cons_of_mem _ hy))]
theorem splitB_none (c : UInt8) (a : List UInt8) (h : ∀ x ∈ a, x ≠ c) : splitB c a = (a, [], false) := by
  induction a with
  | nil => rfl
  | cons x a ih => rw [splitB_miss _ _ _ (h x List.mem_cons_self), ih (fun y hy => h y (List.mem_cons_of_mem _ hy))]
theorem splitB_len (c : UInt8) (l : List UInt8) : (splitB c l).1.length ≤ l.length ∧ (splitB c l).2.1.length ≤ l.length := by
  induction l with
  | nil => exact ⟨Nat.le_refl _, Nat.le_refl _⟩
  | cons b l ih =>
    by_cases h : b = c
    · subst h
      rw [splitB_hit]
      exact ⟨Nat.zero_le _, by simp⟩
    · rw [splitB_miss _ _ _ h]
      simp only [List.length_cons]
      omega
theorem splitB_false (c : UInt8) (l : List UInt8) (h : (splitB c l).2.2 = false) : (splitB c l).1 = l ∧ (splitB c l).2.1 = [] := by
  induction l with
  | nil => exact ⟨rfl, rfl⟩
  | cons b l ih =>
    by_cases e : b = c
    · subst e
      rw [splitB_hit] at h
      cases h
    · rw [splitB_miss _ _ _ e] at h ⊢
      obtain ⟨h1, h2⟩ := ih h
      exact ⟨by show b :: (splitB c l).1 = _; rw [h1], h2⟩
theorem cut_split (c : UInt8) (l : List UInt8) : Lib.cut l [c] = splitB c l := by
  induction l with
  | nil => rfl
  | cons b l ih =>
    have hge := Lib.index_ge l [c]
    by_cases e : b = c
    · subst e
      rw [splitB_hit]
      unfold Lib.cut
      rw [show Lib.index (b :: l) [b] = 0 by simp [Lib.index]]
      simp
    · rw [splitB_miss _ _ _ e, ← ih]
      have hi : Lib.index (b :: l) [c] = if Lib.index l [c] == -1 then -1 else Lib.index l [c] + 1 := by
        simp [Lib.index, Ne.symm e]
      unfold Lib.cut
      by_cases hn : Lib.index l [c] = -1
      · rw [hi, hn]
        simp
      · have h0 : 0 ≤ Lib.index l [c] := by omega
        have hi2 : Lib.index (b :: l) [c] = Lib.index l [c] + 1 := by rw [hi, if_neg (by simpa using hn)]
        rw [hi2, if_pos (show 0 ≤ Lib.index l [c] + 1 by omega), if_pos h0]
        obtain ⟨m, hm⟩ := Int.eq_ofNat_of_zero_le h0
        rw [hm]
        simp only [List.length_singleton]
        rw [show ((m : Int) + 1).toNat = m + 1 by omega, Int.toNat_natCast]
        simp
theorem cutS_val (c : UInt8) (l : List UInt8) (h : l.length < 4294967281) : strings_Cut.f (bl l) (bl [c]) = some (bl (splitB c l).1, bl (splitB c l).2.1, (splitB c l).2.2) := by
  unfold strings_Cut.f
  rw [if_pos (by rw [bl_size]; exact h)]
  have e : (bl l).data.toList = l := by simp [bl]
  have e2 : (bl [c]).data.toList = [c] := by simp [bl]
  rw [e, e2, cut_split]
  rfl
def txtA (a b c : Int) : List UInt8 := if isAddr a b c = true then addrText a b c else []
theorem spec_txtA (a b c : Int) : Ev (fun k => spec_AddressText.f k a b c) (bl (txtA a b c)) := by
  have h := spec_AddressText_ev a b c
  have e : bl (txtA a b c) = if isAddr a b c = true then bl (addrText a b c) else bl [] := by
    unfold txtA
    split <;> rfl
  rw [e]
  exact h
theorem impl_txtA (a b c : Int) : impl_AddressText.f a b c = some (bl (txtA a b c)) := by
  rw [impl_AddressText_val]
  unfold txtA
  split <;> rfl
def finS (l : List UInt8) (k : Nat) (p0 p1 p2 : List UInt8) : Int × Int × Int × Bool :=
  if (parseR p0).2 = true ∧ (parseR p1).2 = true ∧ (k = 2 → (parseR p2).2 = true) ∧ txtA (parseR p0).1 (parseR p1).1 (if k = 2 then (parseR p2).1 else 0) = l then ((parseR p0).1, (parseR p1).1, (if k = 2 then (parseR p2).1 else 0), true) else (0, 0, 0, false)
def finI (l p0 p1 p2 : List UInt8) : Int × Int × Int × Bool :=
  if ¬ l = [] ∧ txtA (parseR p0).1 (parseR p1).1 (parseR p2).1 = l then ((parseR p0).1, (parseR p1).1, (parseR p2).1, true) else (0, 0, 0, false)
theorem finS_no (l : List UInt8) (k : Nat) (p0 p1 p2 : List UInt8) (h : ¬ ((parseR p0).2 = true ∧ (parseR p1).2 = true ∧ (k = 2 → (parseR p2).2 = true) ∧ txtA (parseR p0).1 (parseR p1).1 (if k = 2 then (parseR p2).1 else 0) = l)) : finS l k p0 p1 p2 = (0, 0, 0, false) := if_neg h
theorem finS_yes (l : List UInt8) (k : Nat) (p0 p1 p2 : List UInt8) (h : (parseR p0).2 = true ∧ (parseR p1).2 = true ∧ (k = 2 → (parseR p2).2 = true) ∧ txtA (parseR p0).1 (parseR p1).1 (if k = 2 then (parseR p2).1 else 0) = l) : finS l k p0 p1 p2 = ((parseR p0).1, (parseR p1).1, (if k = 2 then (parseR p2).1 else 0), true) := if_pos h
theorem txtA_parts (l : List UInt8) (a b c : Int) (hl : ¬ l = []) (h : txtA a b c = l) : isAddr a b c = true ∧ l = addrText a b c := by
  unfold txtA at h
  by_cases e : isAddr a b c = true
  · rw [if_pos e] at h
    exact ⟨e, h.symm⟩
  · rw [if_neg e] at h
    exact absurd h.symm hl
theorem dig_ne (b c : UInt8) (h : isDig b = true) (hc : isDig c = false) : b ≠ c := by
  intro e
  subst e
  rw [h] at hc
  cases hc
theorem split_addr (a b c : Int) (h : isAddr a b c = true) : splitB 47 (addrText a b c) = (Lib.itoa a, Lib.itoa b ++ (if c = 0 then [] else 63 :: Lib.itoa c), true) := by
  have hr := isAddr_range a b c h
  have e : addrText a b c = Lib.itoa a ++ 47 :: (Lib.itoa b ++ (if c = 0 then [] else 63 :: Lib.itoa c)) := by
    unfold addrText
    rw [List.append_assoc, List.append_assoc, List.singleton_append]
  rw [e]
  exact splitB_found _ _ _ (fun x hx => dig_ne x 47 (itoa_digs a (by omega) x hx) (by decide))
theorem split_addr2 (b c : Int) (h0 : 0 ≤ b) (h1 : 0 ≤ c) : splitB 63 (Lib.itoa b ++ (if c = 0 then [] else 63 :: Lib.itoa c)) = (Lib.itoa b, if c = 0 then [] else Lib.itoa c, if c = 0 then false else true) := by
  have hn : ∀ x ∈ Lib.itoa b, x ≠ 63 := fun x hx => dig_ne x 63 (itoa_digs b h0 x hx) (by decide)
  by_cases e : c = 0
  · rw [if_pos e, if_pos e, if_pos e, List.append_nil]
    exact splitB_none _ _ hn
  · rw [if_neg e, if_neg e, if_neg e]
    exact splitB_found _ _ _ hn
theorem parse_small (n : Int) (h0 : 0 ≤ n) (h1 : n ≤ 1000000000000) : parseR (Lib.itoa n) = (n, true) := by
  obtain ⟨u, rfl⟩ := Int.eq_ofNat_of_zero_le h0
  exact parse_itoa u (by omega)
theorem parse_nil : parseR [] = (0, false) := rfl
def kOf (l : List UInt8) : Nat := if (splitB 47 l).2.2 = true then (if (splitB 63 (splitB 47 l).2.1).2.2 = true then 2 else 1) else 0
theorem fin_same (l : List UInt8) : finS l (kOf l) (splitB 47 l).1 (splitB 63 (splitB 47 l).2.1).1 (splitB 63 (splitB 47 l).2.1).2.1 = finI l (splitB 47 l).1 (splitB 63 (splitB 47 l).2.1).1 (splitB 63 (splitB 47 l).2.1).2.1 := by
  have hk : (if kOf l = 2 then (parseR (splitB 63 (splitB 47 l).2.1).2.1).1 else 0) = (parseR (splitB 63 (splitB 47 l).2.1).2.1).1 := by
    by_cases h2 : kOf l = 2
    · rw [if_pos h2]
    · rw [if_neg h2]
      have hf : (splitB 63 (splitB 47 l).2.1).2.2 = false := by
        unfold kOf at h2
        by_cases f1 : (splitB 47 l).2.2 = true
        · rw [if_pos f1] at h2
          by_cases f2 : (splitB 63 (splitB 47 l).2.1).2.2 = true
          · rw [if_pos f2] at h2
            exact absurd rfl h2
          · exact Bool.eq_false_iff.2 f2
        · rw [(splitB_false 47 l (Bool.eq_false_iff.2 f1)).2]
          rfl
      rw [(splitB_false _ _ hf).2]
      rfl
  by_cases h : ¬ l = [] ∧ txtA (parseR (splitB 47 l).1).1 (parseR (splitB 63 (splitB 47 l).2.1).1).1 (parseR (splitB 63 (splitB 47 l).2.1).2.1).1 = l
  · rw [show finI l (splitB 47 l).1 (splitB 63 (splitB 47 l).2.1).1 (splitB 63 (splitB 47 l).2.1).2.1 = _ from if_pos h]
    obtain ⟨ha, hl⟩ := txtA_parts l _ _ _ h.1 h.2
    have hr := isAddr_range _ _ _ ha
    have s1 := split_addr _ _ _ ha
    rw [← hl] at s1
    have s2 := split_addr2 (parseR (splitB 63 (splitB 47 l).2.1).1).1 (parseR (splitB 63 (splitB 47 l).2.1).2.1).1 (by omega) (by omega)
    have e1 : (splitB 47 l).2.1 = _ := congrArg (fun q => q.2.1) s1
    have a1 : (parseR (splitB 47 l).1).2 = true := by
      rw [congrArg (fun q => q.1) s1]
      exact congrArg (fun q => q.2) (parse_small (parseR (splitB 47 l).1).1 (by omega) (by omega))
    have s3 : splitB 63 (splitB 47 l).2.1 = _ := (congrArg (splitB 63) e1).trans s2
    have a2 : (parseR (splitB 63 (splitB 47 l).2.1).1).2 = true := by
      rw [congrArg (fun q => q.1) s3]
      exact congrArg (fun q => q.2) (parse_small (parseR (splitB 63 (splitB 47 l).2.1).1).1 (by omega) (by omega))
    have a3 : kOf l = 2 → (parseR (splitB 63 (splitB 47 l).2.1).2.1).2 = true := by
      intro h2
      by_cases hc : (parseR (splitB 63 (splitB 47 l).2.1).2.1).1 = 0
      · have f2 : (splitB 63 (splitB 47 l).2.1).2.2 = false := by
          rw [congrArg (fun q => q.2.2) s3]
          exact if_pos hc
        unfold kOf at h2
        rw [f2] at h2
        split at h2 <;> simp at h2
      · have e3 := congrArg (fun q => q.2.1) s3
        rw [show (splitB 63 (splitB 47 l).2.1).2.1 = _ from e3.trans (if_neg hc)]
        exact congrArg (fun q => q.2) (parse_small (parseR (splitB 63 (splitB 47 l).2.1).2.1).1 (by omega) (by omega))
    rw [finS_yes _ _ _ _ _ ⟨a1, a2, a3, by rw [hk]; exact h.2⟩, hk]
  · rw [show finI l (splitB 47 l).1 (splitB 63 (splitB 47 l).2.1).1 (splitB 63 (splitB 47 l).2.1).2.1 = _ from if_neg h]
    refine finS_no _ _ _ _ _ (fun w => h ⟨fun e => ?_, ?_⟩)
    · subst e
      have := w.1
      rw [show (splitB 47 []).1 = [] from rfl, parse_nil] at this
      cases this
    · have := w.2.2.2
      rw [hk] at this
      exact this
theorem bt_is (l : List UInt8) (i : Nat) (h : i < l.length) (c : UInt8) (n : Int) (hn : ((c.toNat : Nat) : Int) = n) : bt (bl l) (i : Int) = n ↔ l[i] = c := by
  rw [bt_bl l i h, ← hn]
  constructor
  · intro e
    exact UInt8.toNat_inj.1 (by omega)
  · intro e
    rw [e]
theorem extract_one (l : List UInt8) (i : Nat) (h : i < l.length) : (bl l).extract i (i + 1) = bl [l[i]] := by
  apply ByteArray.ext
  rw [ByteArray.data_extract]
  apply Array.ext'
  simp only [bl, Array.toList_extract, List.extract_eq_take_drop]
  rw [show i + 1 - i = 1 by omega, List.drop_eq_getElem_cons h]
  rfl
theorem pa_app (l : List UInt8) (hl : l.length ≤ 1048576) (i : Nat) (hi : i < l.length) (x4 : List ByteArray) (kk : Int) (h0 : 0 ≤ kk) (h3 : kk < (x4.length : Int)) (hs : (rdOf ByteArray.empty x4 kk).size ≤ 1048576) {R : Int × Int × Int × Bool} (h : Ev (fun n => spec_ParseAddress.l0 n (bl l) (x4.set (kk : Int).toNat (rdOf ByteArray.empty x4 kk ++ bl [l[i]])) kk ((i + 1 : Nat) : Int)) R) : Ev (fun n => if 0 ≤ kk then (if kk < (x4.length : Int) then (if (i : Int) ≤ (wrap64 ((i : Int) + 1)) then (if (wrap64 ((i : Int) + 1)) ≤ ((bl l).size : Int) then (if (rdOf ByteArray.empty x4 kk).size + ((bl l).extract ((i : Int) : Int).toNat ((wrap64 ((i : Int) + 1)) : Int).toNat).size ≤ 9223372036854775807 then (spec_ParseAddress.l0 n (bl l) (x4.set (kk : Int).toNat ((rdOf ByteArray.empty x4 kk) ++ ((bl l).extract ((i : Int) : Int).toNat ((wrap64 ((i : Int) + 1)) : Int).toNat))) kk (wrap64 ((i : Int) + 1))) else (none)) else (none)) else (none)) else (none)) else (none)) R := by
  rw [w64 (x := (i : Int) + 1) (by omega) (by omega), Int.toNat_natCast, show ((i : Int) + 1).toNat = i + 1 by omega, extract_one l i hi]
  exact ev_pos h0 (ev_pos h3 (ev_pos (by omega) (ev_pos (by rw [bl_size]; omega) (ev_pos (by rw [bl_size [l[i]], List.length_singleton]; omega) h))))
theorem pa_step (l : List UInt8) (hl : l.length ≤ 1048576) (i : Nat) (hi : i < l.length) (x4 : List ByteArray) (kk : Int) (h0 : 0 ≤ kk) (h3 : kk < (x4.length : Int)) (h2 : kk ≤ 2) (hs : (rdOf ByteArray.empty x4 kk).size ≤ 1048576) {R : Int × Int × Int × Bool} (hsl : l[i] = 47 → kk = 0 → Ev (fun n => spec_ParseAddress.l0 n (bl l) x4 1 ((i + 1 : Nat) : Int)) R) (hq : l[i] = 63 → kk = 1 → Ev (fun n => spec_ParseAddress.l0 n (bl l) x4 2 ((i + 1 : Nat) : Int)) R) (ha : ¬ (l[i] = 47 ∧ kk = 0) → ¬ (l[i] = 63 ∧ kk = 1) → Ev (fun n => spec_ParseAddress.l0 n (bl l) (x4.set (kk : Int).toNat (rdOf ByteArray.empty x4 kk ++ bl [l[i]])) kk ((i + 1 : Nat) : Int)) R) : Ev (fun n => spec_ParseAddress.l0 n (bl l) x4 kk (i : Int)) R := by
  have e47 := bt_is l i hi 47 47 rfl
  have e63 := bt_is l i hi 63 63 rfl
  have ew : wrap64 ((i : Int) + 1) = ((i + 1 : Nat) : Int) := by rw [w64 (by omega) (by omega)]; rfl
  refine Ev.step (fun _ => spec_ParseAddress.l0.eq_2 ..) (ev_pos (by rw [bl_size]; omega) (ev_pos (by omega) ?_))
  by_cases c47 : l[i] = 47
  · refine ev_pos (e47.2 c47) ?_
    by_cases k0 : kk = 0
    · refine ev_pos k0 ?_
      rw [k0, ew, show wrap64 ((0 : Int) + 1) = 1 by rw [w64 (by omega) (by omega)]; rfl]
      exact hsl c47 k0
    · have n63 : ¬ l[i] = 63 := by rw [c47]; decide
      exact ev_neg k0 (ev_neg (fun w => n63 (e63.1 w)) (pa_app l hl i hi x4 kk h0 h3 hs (ha (fun w => k0 w.2) (fun w => n63 w.1))))
  · refine ev_neg (fun w => c47 (e47.1 w)) ?_
    by_cases c63 : l[i] = 63
    · refine ev_pos (e63.2 c63) ?_
      by_cases k1 : kk = 1
      · refine ev_pos k1 ?_
        rw [k1, ew, show wrap64 ((1 : Int) + 1) = 2 by rw [w64 (by omega) (by omega)]; rfl]
        exact hq c63 k1
      · exact ev_neg k1 (pa_app l hl i hi x4 kk h0 h3 hs (ha (fun w => c47 w.1) (fun w => k1 w.2)))
    · exact ev_neg (fun w => c63 (e63.1 w)) (pa_app l hl i hi x4 kk h0 h3 hs (ha (fun w => c47 w.1) (fun w => c63 w.1)))
theorem pa_end (l : List UInt8) (k : Nat) (hk : k ≤ 2) (p0 p1 p2 : List UInt8) : Ev (fun n => spec_ParseAddress.l0 n (bl l) [bl p0, bl p1, bl p2] (k : Int) (l.length : Int)) (finS l k p0 p1 p2) := by
  refine Ev.step (fun _ => spec_ParseAddress.l0.eq_2 ..) (ev_neg (by rw [bl_size]; omega) (ev_pos (show (0 : Int) < ((3 : Nat) : Int) by omega) (Ev.bind (spec_ParseInt_ev p0) (ev_pos (show (1 : Int) < ((3 : Nat) : Int) by omega) (Ev.bind (spec_ParseInt_ev p1) ?_)))))
  by_cases h2 : k = 2
  · subst h2
    refine ev_pos rfl (ev_pos (show (2 : Int) < ((3 : Nat) : Int) by omega) (Ev.bind (spec_ParseInt_ev p2) ?_))
    by_cases a : (parseR p0).2 = true
    · refine ev_pos a ?_
      by_cases b : (parseR p1).2 = true
      · refine ev_pos b ?_
        by_cases c : (parseR p2).2 = true
        · refine ev_pos c (Ev.bind (spec_txtA _ _ _) ?_)
          by_cases t : txtA (parseR p0).1 (parseR p1).1 (parseR p2).1 = l
          · rw [finS_yes l 2 p0 p1 p2 ⟨a, b, fun _ => c, t⟩]
            exact ev_pos (by rw [bl_toList, bl_toList]; exact t) (Ev.now _)
          · rw [finS_no _ _ _ _ _ (fun w => t w.2.2.2)]
            exact ev_neg (by rw [bl_toList, bl_toList]; exact t) (Ev.now _)
        · rw [finS_no _ _ _ _ _ (fun w => c (w.2.2.1 rfl))]
          exact ev_neg c (Ev.now _)
      · rw [finS_no _ _ _ _ _ (fun w => b w.2.1)]
        exact ev_neg b (Ev.now _)
    · rw [finS_no _ _ _ _ _ (fun w => a w.1)]
      exact ev_neg a (Ev.now _)
  · refine ev_neg (by omega) ?_
    have e : (if k = 2 then (parseR p2).1 else 0) = 0 := if_neg h2
    by_cases a : (parseR p0).2 = true
    · refine ev_pos a ?_
      by_cases b : (parseR p1).2 = true
      · refine ev_pos b (Ev.bind (spec_txtA _ _ _) ?_)
        by_cases t : txtA (parseR p0).1 (parseR p1).1 0 = l
        · rw [finS_yes _ _ _ _ _ ⟨a, b, fun w => absurd w h2, by rw [e]; exact t⟩, e]
          exact ev_pos (by rw [bl_toList, bl_toList]; exact t) (Ev.now _)
        · rw [finS_no _ _ _ _ _ (fun w => t (by have := w.2.2.2; rw [e] at this; exact this))]
          exact ev_neg (by rw [bl_toList, bl_toList]; exact t) (Ev.now _)
      · rw [finS_no _ _ _ _ _ (fun w => b w.2.1)]
        exact ev_neg b (Ev.now _)
    · rw [finS_no _ _ _ _ _ (fun w => a w.1)]
      exact ev_neg a (Ev.now _)
theorem pa_2 (l : List UInt8) (hl : l.length ≤ 1048576) (a b : List UInt8) : ∀ (d i : Nat) (q : List UInt8), i + d = l.length → q.length + d ≤ 1048576 → Ev (fun n => spec_ParseAddress.l0 n (bl l) [bl a, bl b, bl q] 2 (i : Int)) (finS l 2 a b (q ++ l.drop i)) := by
  intro d
  induction d with
  | zero =>
    intro i q hd hq
    rw [show i = l.length by omega, List.drop_eq_nil_of_le (Nat.le_refl _), List.append_nil]
    exact pa_end l 2 (by omega) a b q
  | succ d ih =>
    intro i q hd hq
    have hi : i < l.length := by omega
    refine pa_step l hl i hi [bl a, bl b, bl q] 2 (by omega) (show (2 : Int) < ((3 : Nat) : Int) by omega) (by omega) (by show (bl q).size ≤ _; rw [bl_size]; omega) (fun _ w => by omega) (fun _ w => by omega) (fun _ _ => ?_)
    have h := ih (i + 1) (q ++ [l[i]]) (by omega) (by rw [List.length_append, List.length_singleton]; omega)
    rw [List.append_assoc, List.singleton_append, ← List.drop_eq_getElem_cons hi] at h
    have e : ([bl a, bl b, bl q] : List ByteArray).set (2 : Int).toNat (rdOf ByteArray.empty [bl a, bl b, bl q] 2 ++ bl [l[i]]) = [bl a, bl b, bl (q ++ [l[i]])] := by
      rw [← bl_append]
      rfl
    rw [e]
    exact h
theorem pa_1 (l : List UInt8) (hl : l.length ≤ 1048576) (a : List UInt8) : ∀ (d i : Nat) (b : List UInt8), i + d = l.length → b.length + d ≤ 1048576 → Ev (fun n => spec_ParseAddress.l0 n (bl l) [bl a, bl b, bl []] 1 (i : Int)) (finS l (if (splitB 63 (l.drop i)).2.2 = true then 2 else 1) a (b ++ (splitB 63 (l.drop i)).1) (splitB 63 (l.drop i)).2.1) := by
  intro d
  induction d with
  | zero =>
    intro i b hd hb
    rw [show i = l.length by omega, List.drop_eq_nil_of_le (Nat.le_refl _)]
    show Ev _ (finS l 1 a (b ++ []) [])
    rw [List.append_nil]
    exact pa_end l 1 (by omega) a b []
  | succ d ih =>
    intro i b hd hb
    have hi : i < l.length := by omega
    refine pa_step l hl i hi [bl a, bl b, bl []] 1 (by omega) (show (1 : Int) < ((3 : Nat) : Int) by omega) (by omega) (by show (bl b).size ≤ _; rw [bl_size]; omega) (fun _ w => by omega) (fun c63 _ => ?_) (fun _ w2 => ?_)
    · rw [List.drop_eq_getElem_cons hi, c63, splitB_hit, List.append_nil]
      exact pa_2 l hl a b d (i + 1) [] (by omega) (by simp; omega)
    · have n63 : ¬ l[i] = 63 := fun w => w2 ⟨w, rfl⟩
      have h := ih (i + 1) (b ++ [l[i]]) (by omega) (by rw [List.length_append, List.length_singleton]; omega)
      rw [List.append_assoc, List.singleton_append] at h
      rw [List.drop_eq_getElem_cons hi, splitB_miss _ _ _ n63]
      have e : ([bl a, bl b, bl []] : List ByteArray).set (1 : Int).toNat (rdOf ByteArray.empty [bl a, bl b, bl []] 1 ++ bl [l[i]]) = [bl a, bl (b ++ [l[i]]), bl []] := by
        rw [← bl_append]
        rfl
      rw [e]
      exact h
theorem pa_0 (l : List UInt8) (hl : l.length ≤ 1048576) : ∀ (d i : Nat) (a : List UInt8), i + d = l.length → a.length + d ≤ 1048576 → Ev (fun n => spec_ParseAddress.l0 n (bl l) [bl a, bl [], bl []] 0 (i : Int)) (finS l (if (splitB 47 (l.drop i)).2.2 = true then (if (splitB 63 (splitB 47 (l.drop i)).2.1).2.2 = true then 2 else 1) else 0) (a ++ (splitB 47 (l.drop i)).1) (splitB 63 (splitB 47 (l.drop i)).2.1).1 (splitB 63 (splitB 47 (l.drop i)).2.1).2.1) := by
  intro d
  induction d with
  | zero =>
    intro i a hd ha
    rw [show i = l.length by omega, List.drop_eq_nil_of_le (Nat.le_refl _)]
    show Ev _ (finS l 0 (a ++ []) [] [])
    rw [List.append_nil]
    exact pa_end l 0 (by omega) a [] []
  | succ d ih =>
    intro i a hd ha
    have hi : i < l.length := by omega
    refine pa_step l hl i hi [bl a, bl [], bl []] 0 (by omega) (show (0 : Int) < ((3 : Nat) : Int) by omega) (by omega) (by show (bl a).size ≤ _; rw [bl_size]; omega) (fun c47 _ => ?_) (fun _ w => by omega) (fun w1 _ => ?_)
    · rw [List.drop_eq_getElem_cons hi, c47, splitB_hit, List.append_nil]
      exact pa_1 l hl a d (i + 1) [] (by omega) (by simp; omega)
    · have n47 : ¬ l[i] = 47 := fun w => w1 ⟨w, rfl⟩
      have h := ih (i + 1) (a ++ [l[i]]) (by omega) (by rw [List.length_append, List.length_singleton]; omega)
      rw [List.append_assoc, List.singleton_append] at h
      rw [List.drop_eq_getElem_cons hi, splitB_miss _ _ _ n47]
      have e : ([bl a, bl [], bl []] : List ByteArray).set (0 : Int).toNat (rdOf ByteArray.empty [bl a, bl [], bl []] 0 ++ bl [l[i]]) = [bl (a ++ [l[i]]), bl [], bl []] := by
        rw [← bl_append]
        rfl
      rw [e]
      exact h
def addrR (l : List UInt8) : Int × Int × Int × Bool := finI l (splitB 47 l).1 (splitB 63 (splitB 47 l).2.1).1 (splitB 63 (splitB 47 l).2.1).2.1
theorem spec_ParseAddress_ev (l : List UInt8) (hl : l.length ≤ 1048576) : Ev (fun n => spec_ParseAddress.f n (bl l)) (addrR l) := by
  unfold spec_ParseAddress.f
  have h := pa_0 l hl l.length 0 [] (by omega) (by simp; omega)
  rw [List.drop_zero, List.nil_append] at h
  have e := fin_same l
  unfold kOf at e
  rw [e] at h
  exact h
theorem impl_ParseAddress_ev (l : List UInt8) (hl : l.length ≤ 1048576) : Ev (fun n => impl_ParseAddress.f n (bl l)) (addrR l) := by
  unfold impl_ParseAddress.f
  have l1 := splitB_len 47 l
  have l2 := splitB_len 63 (splitB 47 l).2.1
  have e47 : (⟨#[47]⟩ : ByteArray) = bl [47] := rfl
  have e63 : (⟨#[63]⟩ : ByteArray) = bl [63] := rfl
  rw [e47, e63]
  refine ev_bind0 (cutS_val 47 l (by omega)) (ev_bind0 (cutS_val 63 _ (by omega)) ?_)
  refine Ev.bind (impl_ParseInt_ev _ (by omega)) (Ev.bind (impl_ParseInt_ev _ (by omega)) (Ev.bind (impl_ParseInt_ev _ (by omega)) ?_))
  by_cases h0 : l = []
  · rw [show addrR l = (0, 0, 0, false) from if_neg (fun w => w.1 h0)]
    exact ev_pos (by rw [bl_toList]; exact h0) (Ev.now _)
  · refine ev_neg (by rw [bl_toList]; exact h0) (ev_bind0 (impl_txtA _ _ _) ?_)
    by_cases t : txtA (parseR (splitB 47 l).1).1 (parseR (splitB 63 (splitB 47 l).2.1).1).1 (parseR (splitB 63 (splitB 47 l).2.1).2.1).1 = l
    · rw [show addrR l = _ from if_pos ⟨h0, t⟩]
      exact ev_pos (by rw [bl_toList, bl_toList]; exact t) (Ev.now _)
    · rw [show addrR l = (0, 0, 0, false) from if_neg (fun w => t w.2)]
      exact ev_neg (by rw [bl_toList, bl_toList]; exact t) (Ev.now _)
theorem eqAddr_same (a b c : Int) : laws_eqAddress.f a b c a b c = some true := by
  unfold laws_eqAddress.f
  rw [if_pos rfl, if_pos rfl, if_pos rfl]
theorem FnExactParseAddress : ∀ (x0 : ByteArray), x0.size ≤ 140737488351232 → ∃ k, laws_FnExactParseAddress.f k x0 = some true := by
  intro s hs
  refine Ev.rounds (g := fun k => laws_FnExactParseAddress.f k s) ?_
  unfold laws_FnExactParseAddress.f
  by_cases h : (s.size : Int) > 1048576
  · exact ev_pos h (Ev.now true)
  refine ev_neg h ?_
  have hl : s.data.toList.length ≤ 1048576 := by rw [Array.length_toList]; show s.size ≤ _; omega
  rw [← bl_of s]
  exact Ev.bind (spec_ParseAddress_ev _ hl) (Ev.bind (impl_ParseAddress_ev _ hl) (ev_bind0 (eqAddr_same _ _ _) (ev_pos rfl (ev_neg (by simp) (Ev.now true)))))

end Go.Proofs.YtgcidlnhgpjdpaeDoor.Pure
