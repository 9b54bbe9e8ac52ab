/- The pure statement behind the law FnIntegers: over numbers and lists the law answers true, at every input that the row's bounds let in. -/
import Derived.Test.YtgcidlnhgpjdpadDoorQFnIntegersx3
import Derived.Lib.ItoaLen
import Derived.Test.YtgcidlnhgpjdpadDoorQFnIntegersg
namespace Go.Proofs.YtgcidlnhgpjdpadDoor.Pure
open Go Go.RowKit Go.Proofs.YtgcidlnhgpjdpadDoor.QFnIntegers Go.Proofs.YtgcidlnhgpjdpadDoorW.PrintWords Go.Proofs.YtgcidlnhgpjdpadDoorW.PrintLast Go.Proofs.YtgcidlnhgpjdpadDoorW.PrintMore
set_option linter.unusedVariables false
set_option linter.unusedSimpArgs false
set_option maxRecDepth 100000

theorem w64 {x : Int} (h0 : -9223372036854775808 ≤ x) (h1 : x ≤ 9223372036854775807) : wrap64 x = x := by unfold wrap64; omega
theorem wf64 {x : Int} (h : (Lit.int .i64 x).wf = true) : -9223372036854775808 ≤ x ∧ x ≤ 9223372036854775807 := by
  simp [Lit.wf, IntKind.min, IntKind.max, IntKind.signed, IntKind.bits] at h
  omega
theorem ev_pos {α : Type} {c : Prop} [Decidable c] {g f : Nat → Option α} {r : α} (h : c) (k : Ev g r) : Ev (fun n => if c then g n else f n) r := by
  obtain ⟨K, hK⟩ := k
  exact ⟨K, fun n hn => (if_pos h).trans (hK n hn)⟩
theorem ev_neg {α : Type} {c : Prop} [Decidable c] {g f : Nat → Option α} {r : α} (h : ¬ c) (k : Ev f r) : Ev (fun n => if c then g n else f n) r := by
  obtain ⟨K, hK⟩ := k
  exact ⟨K, fun n hn => (if_neg h).trans (hK n hn)⟩
theorem ev_bind0 {α β : Type} {o : Option α} {f : Nat → α → Option β} {a : α} {r : β} (h : o = some a) (k : Ev (fun n => f n a) r) : Ev (fun n => o.bind (f n)) r := by
  subst h
  exact k
theorem ev_of {α : Type} {o : Option α} {r : α} (h : o = some r) : Ev (fun _ => o) r := ⟨0, fun _ _ => h⟩
theorem rd_at (xs : List Int) (i : Nat) (h : i < xs.length) : rd xs (i : Int) = xs[i] := by
  unfold rd
  rw [Int.toNat_natCast, List.getD_eq_getElem?_getD, List.getElem?_eq_getElem h]
  rfl
theorem inRange_val (a b c : Int) : impl_InRange.f a b c = some (decide (b ≤ a ∧ a ≤ c)) := by
  unfold impl_InRange.f
  by_cases h : b ≤ a
  · rw [if_pos h]; simp [h]
  · rw [if_neg h]; simp [h]
def bl (l : List UInt8) : ByteArray := ⟨l.toArray⟩
theorem bl_append (a b : List UInt8) : bl a ++ bl b = bl (a ++ b) := by
  apply ByteArray.ext
  rw [ByteArray.data_append]
  simp [bl]
theorem bl_size (a : List UInt8) : (bl a).size = a.length := by simp [bl, ByteArray.size]
theorem bl_toList (a : List UInt8) : (bl a).toList = a := by rw [ByteArray.toList_eq]; simp [bl]
theorem bl_of (s : ByteArray) : bl s.data.toList = s := by cases s; simp [bl]
theorem strOfNums_one (z : Int) : strOfNums [z] = bl [UInt8.ofNat z.toNat] := by
  apply ByteArray.ext
  apply Array.ext'
  rw [strOfNums_data]
  simp [bl]
def digs (u : Nat) : List UInt8 := if h : u = 0 then [] else digs (u / 10) ++ [UInt8.ofNat (48 + u % 10)]
termination_by u
decreasing_by omega
theorem digs_zero : digs 0 = [] := by rw [digs]; rfl
theorem digs_pos (u : Nat) (h : ¬ u = 0) : digs u = digs (u / 10) ++ [UInt8.ofNat (48 + u % 10)] := by
  rw [digs, dif_neg h]
theorem digs_dec (u : Nat) (h : ¬ u = 0) : digs u = Lib.decDigits u := by
  induction u using Nat.strongRecOn with
  | _ u ih =>
    rw [digs_pos u h, Lib.decDigits]
    by_cases c : u < 10
    · rw [dif_pos c, show u / 10 = 0 by omega, digs_zero, show u % 10 = u by omega, List.nil_append]
    · rw [dif_neg c, ih (u / 10) (by omega) (by omega)]
theorem digs_len (d : Nat) : ∀ u, u < 10 ^ d → (digs u).length ≤ d := by
  induction d with
  | zero =>
    intro u h
    rw [show u = 0 by simp at h; exact h, digs_zero]
    exact Nat.le_refl _
  | succ d ih =>
    intro u h
    by_cases c : u = 0
    · rw [c, digs_zero]; exact Nat.zero_le _
    · rw [digs_pos u c, List.length_append, List.length_singleton]
      have := ih (u / 10) (by rw [Nat.pow_succ] at h; omega)
      omega
theorem itoa_len (n : Int) (h0 : -9223372036854775808 ≤ n) (h1 : n ≤ 9223372036854775807) : (Lib.itoa n).length ≤ 21 := Lib.itoa_length_le n h0 h1
theorem spec_FormatInt_l0 (n : Int) : ∀ (d : Nat) (x : Int) (l : List UInt8), x.natAbs < 10 ^ d → l.length + d ≤ 100 → -9223372036854775808 ≤ x → x ≤ 9223372036854775807 → Ev (fun k => spec_FormatInt.l0 k n (bl l) x) (if n < 0 then bl (45 :: (digs x.natAbs ++ l)) else bl (digs x.natAbs ++ l)) := by
  intro d
  have fin : ∀ (l : List UInt8), l.length ≤ 100 → Ev (fun k => spec_FormatInt.l0 k n (bl l) 0) (if n < 0 then bl (45 :: l) else bl l) := by
    intro l hl
    refine Ev.step (fun _ => spec_FormatInt.l0.eq_2 ..) (ev_pos rfl ?_)
    by_cases c : n < 0
    · rw [show (if n < 0 then bl (45 :: l) else bl l) = bl (45 :: l) from if_pos c]
      refine ev_pos c (ev_pos (by rw [bl_size]; omega) (ev_of ?_))
      have e : (⟨#[45]⟩ : ByteArray) = bl [45] := rfl
      rw [e, bl_append]
      rfl
    · rw [show (if n < 0 then bl (45 :: l) else bl l) = bl l from if_neg c]
      exact ev_neg c (Ev.now _)
  induction d with
  | zero =>
    intro x l hx hl _ _
    obtain rfl : x = 0 := by simp at hx; exact hx
    have h := fin l (by omega)
    rw [show (0 : Int).natAbs = 0 from rfl, digs_zero, List.nil_append]
    exact h
  | succ d ih =>
    intro x l hx hl h0 h1
    by_cases c : x = 0
    · subst c
      have h := fin l (by omega)
      rw [show (0 : Int).natAbs = 0 from rfl, digs_zero, List.nil_append]
      exact h
    · have hu : ¬ x.natAbs = 0 := by omega
      have hq : (Int.tdiv x 10).natAbs = x.natAbs / 10 := by rw [Int.natAbs_tdiv]; rfl
      have hm : (Int.tmod x 10).natAbs = x.natAbs % 10 := by rw [Int.natAbs_tmod]; rfl
      have hm9 : x.natAbs % 10 < 10 := Nat.mod_lt _ (by omega)
      have hq2 : Int.tdiv x 10 * 10 + Int.tmod x 10 = x := Int.tdiv_mul_add_tmod x 10
      have e1 : digs x.natAbs ++ l = digs (Int.tdiv x 10).natAbs ++ (UInt8.ofNat (48 + x.natAbs % 10) :: l) := by
        rw [digs_pos _ hu, hq, List.append_assoc]
        rfl
      have key := ih (Int.tdiv x 10) (UInt8.ofNat (48 + x.natAbs % 10) :: l) (by rw [hq, Nat.pow_succ] at *; omega) (by rw [List.length_cons]; omega) (by omega) (by omega)
      rw [e1]
      refine Ev.step (fun _ => spec_FormatInt.l0.eq_2 ..) (ev_neg c ?_)
      have step : ∀ (z : Int), z = (48 + x.natAbs % 10 : Nat) → Ev (fun k => (some ([z] : List Int)).bind fun y => if (strOfNums y).size + (bl l).size ≤ 9223372036854775807 then spec_FormatInt.l0 k n (strOfNums y ++ bl l) (wrap64 (Int.tdiv x 10)) else none) (if n < 0 then bl (45 :: (digs (Int.tdiv x 10).natAbs ++ (UInt8.ofNat (48 + x.natAbs % 10) :: l))) else bl (digs (Int.tdiv x 10).natAbs ++ (UInt8.ofNat (48 + x.natAbs % 10) :: l))) := by
        intro z hz
        refine ev_bind0 rfl (ev_pos (by rw [strOfNums_one, bl_size, bl_size, List.length_singleton]; omega) ?_)
        rw [w64 (x := Int.tdiv x 10) (by omega) (by omega), strOfNums_one, bl_append, hz, Int.toNat_natCast]
        exact key
      by_cases cm : Int.tmod x 10 < 0
      · refine ev_pos cm (step _ ?_)
        rw [w64 (x := -(Int.tmod x 10)) (by omega) (by omega), w64 (x := 48 + -(Int.tmod x 10)) (by omega) (by omega)]
        omega
      · refine ev_neg cm (step _ ?_)
        rw [w64 (x := 48 + Int.tmod x 10) (by omega) (by omega)]
        omega
theorem spec_FormatInt_ev (n : Int) (h0 : -9223372036854775808 ≤ n) (h1 : n ≤ 9223372036854775807) : Ev (fun k => spec_FormatInt.f k n) (bl (Lib.itoa n)) := by
  unfold spec_FormatInt.f
  by_cases c : n = 0
  · refine ev_pos c (ev_of ?_)
    subst c
    have e : Lib.itoa 0 = [48] := by
      unfold Lib.itoa
      rw [if_neg (by omega)]
      exact Lib.decDigits_one (i := 0) (by omega)
    rw [e]
    rfl
  · refine ev_neg c ?_
    have h := spec_FormatInt_l0 n 20 n [] (by omega) (by simp) h0 h1
    have e : (if n < 0 then bl (45 :: (digs n.natAbs ++ [])) else bl (digs n.natAbs ++ [])) = bl (Lib.itoa n) := by
      rw [List.append_nil, digs_dec _ (by omega)]
      unfold Lib.itoa
      by_cases cn : n < 0
      · rw [if_pos cn, if_pos cn]
      · rw [if_neg cn, if_neg cn, show n.toNat = n.natAbs by omega]
    rw [e] at h
    exact h
theorem impl_FormatInt_val (n : Int) (h0 : -9223372036854775808 ≤ n) (h1 : n ≤ 9223372036854775807) : impl_FormatInt.f n = some (bl (Lib.itoa n)) := by
  unfold impl_FormatInt.f
  have e : ∀ (o : Option ByteArray), o = some (bl (Lib.itoa n)) → (o.bind fun t => some t) = some (bl (Lib.itoa n)) := by
    intro o h
    rw [h]
    rfl
  exact e _ (if_pos ⟨h0, h1⟩)
theorem bt_bl (l : List UInt8) (i : Nat) (h : i < l.length) : bt (bl l) (i : Int) = ((l[i]).toNat : Int) := by
  unfold bt
  rw [dif_pos (show ((i : Int)).toNat < (bl l).size by rw [bl_size]; exact h)]
  rfl
def isDig (b : UInt8) : Bool := decide (48 ≤ b.toNat) && decide (b.toNat ≤ 57)
def parseL (m : Nat) : List UInt8 → Option Nat
  | [] => some m
  | b :: l => if isDig b = true then parseL (10 * m + (b.toNat - 48)) l else none
def parseFin (l : List UInt8) : Option Nat → Int × Bool
  | none => (0, false)
  | some m => if m ≤ 1000000000000 ∧ Lib.itoa (m : Int) = l then ((m : Int), true) else (0, false)
def parseR (l : List UInt8) : Int × Bool := if 1 ≤ l.length ∧ l.length ≤ 13 then parseFin l (parseL 0 l) else (0, false)
theorem parseFin_yes (l : List UInt8) (m : Nat) (h : m ≤ 1000000000000 ∧ Lib.itoa (m : Int) = l) : parseFin l (some m) = ((m : Int), true) := if_pos h
theorem parseFin_no (l : List UInt8) (m : Nat) (h : ¬ (m ≤ 1000000000000 ∧ Lib.itoa (m : Int) = l)) : parseFin l (some m) = (0, false) := if_neg h
theorem parseL_yes (m : Nat) (b : UInt8) (l : List UInt8) (h : isDig b = true) : parseL m (b :: l) = parseL (10 * m + (b.toNat - 48)) l := if_pos h
theorem parseL_no (m : Nat) (b : UInt8) (l : List UInt8) (h : ¬ isDig b = true) : parseL m (b :: l) = none := if_neg h
theorem isDig_iff (b : UInt8) : isDig b = true ↔ 48 ≤ b.toNat ∧ b.toNat ≤ 57 := by
  unfold isDig
  rw [Bool.and_eq_true, decide_eq_true_eq, decide_eq_true_eq]
theorem pow_step (m i : Nat) (d : Nat) (hd : d ≤ 9) (h : m < 10 ^ i) : 10 * m + d < 10 ^ (i + 1) := by
  rw [Nat.pow_succ]
  omega
theorem pow_13 (m i : Nat) (h : m < 10 ^ i) (hi : i ≤ 13) : m < 10000000000000 :=
  Nat.lt_of_lt_of_le h (Nat.pow_le_pow_right (by omega) hi)
theorem impl_ParseInt_l0 (l : List UInt8) (hl : l.length ≤ 13) : ∀ (d i m : Nat), i + d = l.length → m < 10 ^ i → Ev (fun k => impl_ParseInt.l0 k (bl l) (m : Int) (l.length : Int) (i : Int)) (parseFin l (parseL m (l.drop i))) := by
  intro d
  induction d with
  | zero =>
    intro i m hd hm
    have hb := pow_13 m i hm (by omega)
    rw [List.drop_eq_nil_of_le (by omega)]
    refine Ev.step (fun _ => impl_ParseInt.l0.eq_2 ..) (ev_neg (by omega) ?_)
    show Ev _ (parseFin l (some m))
    by_cases h1 : (m : Int) > 1000000000000
    · rw [parseFin_no _ _ (fun w => by omega)]
      exact ev_pos h1 (Ev.now _)
    · refine ev_neg h1 (ev_bind0 (impl_FormatInt_val m (by omega) (by omega)) ?_)
      by_cases h2 : Lib.itoa (m : Int) = l
      · rw [parseFin_yes _ _ ⟨by omega, h2⟩]
        exact ev_pos (by rw [bl_toList, bl_toList]; exact h2) (Ev.now _)
      · rw [parseFin_no _ _ (fun w => h2 w.2)]
        exact ev_neg (by rw [bl_toList, bl_toList]; exact h2) (Ev.now _)
  | succ d ih =>
    intro i m hd hm
    have hlt : i < l.length := by omega
    have hb := pow_13 m i hm (by omega)
    rw [List.drop_eq_getElem_cons hlt]
    refine Ev.step (fun _ => impl_ParseInt.l0.eq_2 ..) (ev_pos (by omega) (ev_pos (by omega) (ev_pos (by rw [bl_size]; omega) ?_)))
    rw [bt_bl l i hlt]
    have h255 : (l[i]).toNat < 256 := (l[i]).toNat_lt
    by_cases h1 : ((l[i]).toNat : Int) < 48
    · rw [parseL_no _ _ _ (fun w => by have := (isDig_iff _).1 w; omega)]
      exact ev_pos h1 (Ev.now _)
    refine ev_neg h1 ?_
    by_cases h2 : ((l[i]).toNat : Int) > 57
    · rw [parseL_no _ _ _ (fun w => by have := (isDig_iff _).1 w; omega)]
      exact ev_pos h2 (Ev.now _)
    refine ev_neg h2 ?_
    rw [parseL_yes _ _ _ ((isDig_iff _).2 (by omega)), w64 (x := (m : Int) * 10) (by omega) (by omega), w64 (x := (i : Int) + 1) (by omega) (by omega), w64 (by omega) (by omega), show ((m : Int) * 10 + (((l[i]).toNat : Int) - 48) % 256) = ((10 * m + ((l[i]).toNat - 48) : Nat) : Int) by omega]
    exact ih (i + 1) _ (by omega) (pow_step m i _ (by omega) hm)
theorem impl_ParseInt_ev (l : List UInt8) (hb : l.length ≤ 9223372036854775807) : Ev (fun k => impl_ParseInt.f k (bl l)) (parseR l) := by
  unfold impl_ParseInt.f
  rw [bl_size]
  by_cases h0 : (l.length : Int) = 0
  · rw [show parseR l = (0, false) from if_neg (by omega)]
    exact ev_pos h0 (Ev.step (fun _ => impl_ParseInt.j0.eq_2 ..) (ev_pos rfl (Ev.now _)))
  refine ev_neg h0 (Ev.step (fun _ => impl_ParseInt.j0.eq_2 ..) ?_)
  by_cases h : l.length ≤ 13
  · rw [show parseR l = parseFin l (parseL 0 l) from if_pos (by omega), bl_size]
    exact ev_neg (fun w => by have := of_decide_eq_true w; omega) (impl_ParseInt_l0 l h l.length 0 0 (by omega) (by omega))
  · rw [show parseR l = (0, false) from if_neg (by omega)]
    exact ev_pos (decide_eq_true (by omega)) (Ev.now _)
theorem parseL_append (l : List UInt8) (x : UInt8) : ∀ m, parseL m (l ++ [x]) = (parseL m l).bind fun r => if isDig x = true then some (10 * r + (x.toNat - 48)) else none := by
  induction l with
  | nil =>
    intro m
    by_cases h : isDig x = true
    · rw [List.nil_append, parseL_yes _ _ _ h]
      simp [parseL, h]
    · rw [List.nil_append, parseL_no _ _ _ h]
      simp [parseL, h]
  | cons b l ih =>
    intro m
    rw [List.cons_append]
    by_cases h : isDig b = true
    · rw [parseL_yes _ _ _ h, parseL_yes _ _ _ h, ih]
    · rw [parseL_no _ _ _ h, parseL_no _ _ _ h]
      rfl
theorem ofNat_dig (d : Nat) (h : d < 10) : (UInt8.ofNat (48 + d)).toNat = 48 + d := by
  rw [UInt8.toNat_ofNat']
  omega
theorem isDig_ofNat (d : Nat) (h : d < 10) : isDig (UInt8.ofNat (48 + d)) = true := (isDig_iff _).2 (by rw [ofNat_dig d h]; omega)
theorem parse_dec (u : Nat) : parseL 0 (Lib.decDigits u) = some u ∧ ∀ b ∈ Lib.decDigits u, isDig b = true := by
  induction u using Nat.strongRecOn with
  | _ u ih =>
    rw [Lib.decDigits]
    by_cases c : u < 10
    · rw [dif_pos c]
      refine ⟨?_, fun b hb => ?_⟩
      · rw [parseL_yes _ _ _ (isDig_ofNat u c), ofNat_dig u c]
        simp [parseL]
      · rw [List.mem_singleton.1 hb]
        exact isDig_ofNat u c
    · rw [dif_neg c]
      obtain ⟨h1, h2⟩ := ih (u / 10) (by omega)
      refine ⟨?_, fun b hb => ?_⟩
      · rw [parseL_append, h1, Option.bind_some, if_pos (isDig_ofNat _ (Nat.mod_lt _ (by omega))), ofNat_dig _ (Nat.mod_lt _ (by omega))]
        exact congrArg some (by omega)
      · rcases List.mem_append.1 hb with hb | hb
        · exact h2 b hb
        · rw [List.mem_singleton.1 hb]
          exact isDig_ofNat _ (Nat.mod_lt _ (by omega))
theorem dec_len (u : Nat) (h : u < 10 ^ 13) : 1 ≤ (Lib.decDigits u).length ∧ (Lib.decDigits u).length ≤ 13 := by
  by_cases c : u = 0
  · subst c
    rw [Lib.decDigits_one (by omega)]
    exact ⟨Nat.le_refl _, by simp⟩
  · rw [← digs_dec u c]
    exact ⟨by rw [digs_pos u c, List.length_append, List.length_singleton]; omega, digs_len 13 u h⟩
theorem itoa_nat (u : Nat) : Lib.itoa (u : Int) = Lib.decDigits u := Lib.itoa_nonneg u
theorem parse_itoa (u : Nat) (h : u ≤ 1000000000000) : parseR (Lib.itoa (u : Int)) = ((u : Int), true) := by
  rw [itoa_nat]
  have hl := dec_len u (by omega)
  rw [show parseR (Lib.decDigits u) = parseFin (Lib.decDigits u) (parseL 0 (Lib.decDigits u)) from if_pos hl, (parse_dec u).1]
  exact parseFin_yes _ _ ⟨h, itoa_nat u⟩
theorem tmod_twice (a b : Int) (h1 : 1 ≤ b) (h2 : b ≤ 1000000000000) : Int.tmod (wrap64 (Int.tmod a b + b)) b = a % b := by
  have hlt : Int.tmod a b < b := Int.tmod_lt_of_pos a (by omega)
  have hgt : -b < Int.tmod a b := by
    have h := Int.tmod_lt_of_pos (-a) (show 0 < b by omega)
    rw [Int.neg_tmod] at h
    omega
  rw [w64 (by omega) (by omega), Int.tmod_eq_emod_of_nonneg (by omega), Int.add_emod_right]
  have e : Int.tmod a b = a - b * (a.tdiv b) := Int.tmod_def a b
  rw [e, Int.sub_mul_emod_self_left]
theorem impl_Mod_val (a b : Int) (h1 : 1 ≤ b) (h2 : b ≤ 1000000000000) : impl_Mod.f a b = some (a % b) := by
  unfold impl_Mod.f
  rw [inRange_val]
  simp only [Option.bind_some, h1, h2, and_self, decide_true, if_true]
  rw [if_neg (by omega), tmod_twice a b h1 h2]
theorem l1New_l0 (l : List Int) (hl : l.length ≤ 1099511627776) : ∀ (d i : Nat) (h : Int), i + d = l.length → ∃ h', Ev (fun k => spec_l1New.l0 k l h (i : Int)) (l, 0, h') := by
  intro d
  induction d with
  | zero =>
    intro i h hd
    exact ⟨h, Ev.step (fun _ => spec_l1New.l0.eq_2 ..) (ev_neg (by omega) (Ev.now _))⟩
  | succ d ih =>
    intro i h hd
    by_cases h4 : (i : Int) < 4000
    · obtain ⟨h', e⟩ := ih (i + 1) _ (by omega)
      refine ⟨h', Ev.step (fun _ => spec_l1New.l0.eq_2 ..) (ev_pos (by omega) (ev_pos h4 (ev_pos (by omega) ?_)))⟩
      rw [w64 (x := (i : Int) + 1) (by omega) (by omega)]
      exact e
    · exact ⟨h, Ev.step (fun _ => spec_l1New.l0.eq_2 ..) (ev_pos (by omega) (ev_neg h4 (Ev.now _)))⟩
theorem l1New_ev (l : List Int) (hl : l.length ≤ 1099511627776) : ∃ h, Ev (fun k => spec_l1New.f k l) (l, 0, h) := by
  unfold spec_l1New.f
  exact l1New_l0 l hl l.length 0 _ (by omega)
theorem and255 (y : Int) : 0 ≤ Go.bits .and .i64 y 255 ∧ Go.bits .and .i64 y 255 ≤ 255 := by
  have h : (BitVec.ofInt 64 y &&& BitVec.ofInt 64 255).toNat ≤ 255 := by
    rw [BitVec.toNat_and]
    exact Nat.le_trans Nat.and_le_right (by decide)
  have e : Go.bits .and .i64 y 255 = IntKind.i64.wrap ((BitVec.ofInt 64 y &&& BitVec.ofInt 64 255).toNat : Int) := rfl
  rw [e, IntKind.wrap_i64]
  omega
theorem l1Byte_some (b : List Int) (hb : b.length ≤ 1099511627776) (i h : Int) (h0 : 0 ≤ i) (h1 : i ≤ 1099511627776) : ∃ x i' h', spec_l1Byte.f b i h = some (x, i', h') ∧ 0 ≤ x ∧ x ≤ 255 ∧ 0 ≤ i' ∧ i' ≤ 1099511627776 := by
  unfold spec_l1Byte.f
  by_cases c : i < (b.length : Int)
  · rw [if_pos c, if_pos h0, w64 (x := i + 1) (by omega) (by omega)]
    exact ⟨_, _, _, rfl, (and255 _).1, (and255 _).2, by omega, by omega⟩
  · rw [if_neg c]
    exact ⟨_, _, _, rfl, (and255 _).1, (and255 _).2, h0, h1⟩
theorem l1Below_some (b : List Int) (hb : b.length ≤ 1099511627776) (i h n : Int) (h0 : 0 ≤ i) (h1 : i ≤ 1099511627776) : ∃ x i' h', spec_l1Below.f b i h n = some (x, i', h') ∧ 0 ≤ x ∧ (0 < n → x < n) ∧ (n ≤ 0 → x = 0) ∧ 0 ≤ i' ∧ i' ≤ 1099511627776 := by
  unfold spec_l1Below.f
  by_cases c : n ≤ 0
  · rw [if_pos c]
    exact ⟨_, _, _, rfl, by omega, fun h => by omega, fun _ => rfl, h0, h1⟩
  rw [if_neg c]
  by_cases c2 : n ≤ 256
  · rw [if_pos c2]
    obtain ⟨x, i', h', e, hx0, hx1, hi0, hi1⟩ := l1Byte_some b hb i h h0 h1
    rw [e, Option.bind_some, if_neg (by omega)]
    refine ⟨_, _, _, rfl, ?_, fun _ => ?_, fun h => by omega, hi0, hi1⟩
    · rw [Int.tmod_eq_emod_of_nonneg hx0]; exact Int.emod_nonneg _ (by omega)
    · rw [Int.tmod_eq_emod_of_nonneg hx0]; exact Int.emod_lt_of_pos _ (by omega)
  · rw [if_neg c2]
    obtain ⟨x, i', h', e, hx0, hx1, hi0, hi1⟩ := l1Byte_some b hb i h h0 h1
    rw [e, Option.bind_some]
    obtain ⟨y, i2, h2, e2, hy0, hy1, hi20, hi21⟩ := l1Byte_some b hb i' h' hi0 hi1
    rw [e2, Option.bind_some]
    obtain ⟨z, i3, h3, e3, hz0, hz1, hi30, hi31⟩ := l1Byte_some b hb i2 h2 hi20 hi21
    rw [e3, Option.bind_some, if_neg (by omega)]
    have ew : wrap64 ((wrap64 ((wrap64 (x * 65536)) + (wrap64 (y * 256)))) + z) = x * 65536 + y * 256 + z := by
      rw [w64 (x := x * 65536) (by omega) (by omega), w64 (x := y * 256) (by omega) (by omega), w64 (x := x * 65536 + y * 256) (by omega) (by omega), w64 (by omega) (by omega)]
    refine ⟨_, _, _, rfl, ?_, fun _ => ?_, fun h => by omega, hi30, hi31⟩
    · rw [ew, Int.tmod_eq_emod_of_nonneg (by omega)]; exact Int.emod_nonneg _ (by omega)
    · rw [ew, Int.tmod_eq_emod_of_nonneg (by omega)]; exact Int.emod_lt_of_pos _ (by omega)
theorem l1Once_some (b : List Int) (hb : b.length ≤ 1099511627776) (i h n : Int) (h0 : 0 ≤ i) (h1 : i ≤ 1099511627776) : ∃ x i' h', spec_l1Once.f b i h n = some (x, i', h') ∧ 0 ≤ i' ∧ i' ≤ 1099511627776 := by
  unfold spec_l1Once.f
  obtain ⟨x, i', h', e, _, _, _, hi0, hi1⟩ := l1Below_some b hb i h n h0 h1
  rw [e, Option.bind_some]
  exact ⟨_, _, _, rfl, hi0, hi1⟩
theorem l1Int_some (b : List Int) (hb : b.length ≤ 1099511627776) (i h : Int) (l : List Int) (hl : 0 < l.length) (h0 : 0 ≤ i) (h1 : i ≤ 1099511627776) : ∃ x i' h', spec_l1Int.f b i h l = some (x, i', h') ∧ x ∈ l ∧ 0 ≤ i' ∧ i' ≤ 1099511627776 := by
  unfold spec_l1Int.f
  obtain ⟨x, i', h', e, hx0, hx1, _, hi0, hi1⟩ := l1Below_some b hb i h (l.length : Int) h0 h1
  have hx := hx1 (by omega)
  rw [e, Option.bind_some, if_pos hx0, if_pos hx]
  refine ⟨_, _, _, rfl, ?_, hi0, hi1⟩
  obtain ⟨j, rfl⟩ := Int.eq_ofNat_of_zero_le hx0
  show rd l (j : Int) ∈ l
  rw [rd_at l j (by omega)]
  exact List.getElem_mem _
theorem l1Num_some (b : List Int) (hb : b.length ≤ 1099511627776) (i h : Int) (h0 : 0 ≤ i) (h1 : i ≤ 1099511627776) : ∃ x i' h', spec_l1Num.f b i h = some (x, i', h') ∧ 0 ≤ x ∧ x ≤ 1000000000000 ∧ 0 ≤ i' ∧ i' ≤ 1099511627776 := by
  unfold spec_l1Num.f
  obtain ⟨x, i', h', e, hx0, hx1, _, hi0, hi1⟩ := l1Below_some b hb i h 4 h0 h1
  rw [e, Option.bind_some]
  by_cases c0 : x = 0
  · obtain ⟨y, i2, h2, e2, hy0, hy1, _, hi20, hi21⟩ := l1Below_some b hb i' h' 2000 hi0 hi1
    have := hy1 (by omega)
    rw [if_pos c0, e2, Option.bind_some]
    exact ⟨_, _, _, rfl, by omega, by omega, hi20, hi21⟩
  rw [if_neg c0]
  by_cases c1 : x = 1
  · obtain ⟨y, i2, h2, e2, hm, hi20, hi21⟩ := l1Int_some b hb i' h' [0, 1, 127, 128, 2147483646, 2147483647, 1000000000000] (by decide) hi0 hi1
    rw [if_pos c1, e2, Option.bind_some]
    simp only [List.mem_cons, List.not_mem_nil, or_false] at hm
    exact ⟨_, _, _, rfl, by omega, by omega, hi20, hi21⟩
  rw [if_neg c1]
  by_cases c2 : x = 2
  · obtain ⟨y, i2, h2, e2, hy0, hy1, _, hi20, hi21⟩ := l1Below_some b hb i' h' 1000000 hi0 hi1
    obtain ⟨z, i3, h3, e3, hz0, hz1, _, hi30, hi31⟩ := l1Below_some b hb i2 h2 1000000 hi20 hi21
    have hy := hy1 (by omega)
    have hz := hz1 (by omega)
    rw [if_pos c2, e2, Option.bind_some, e3, Option.bind_some]
    have hm0 : 0 ≤ y * z := Int.mul_nonneg hy0 hz0
    have hm1 : y * z ≤ 1000000 * 1000000 := Int.mul_le_mul (by omega) (by omega) hz0 (by omega)
    rw [w64 (x := y * z) (by omega) (by omega)]
    exact ⟨_, _, _, rfl, hm0, by omega, hi30, hi31⟩
  · obtain ⟨y, i2, h2, e2, hy0, hy1, _, hi20, hi21⟩ := l1Below_some b hb i' h' 20 hi0 hi1
    have := hy1 (by omega)
    rw [if_neg c2, e2, Option.bind_some]
    exact ⟨_, _, _, rfl, by omega, by omega, hi20, hi21⟩
theorem wf64_mk {x : Int} (h0 : -9223372036854775808 ≤ x) (h1 : x ≤ 9223372036854775807) : (Lit.int .i64 x).wf = true := by
  simp [Lit.wf, IntKind.min, IntKind.max, IntKind.signed, IntKind.bits]
  omega
theorem l1Raw_some (b : List Int) (hb : b.length ≤ 1099511627776) (i h : Int) (h0 : 0 ≤ i) (h1 : i ≤ 1099511627776) : ∃ x i' h', spec_l1Raw.f b i h = some (x, i', h') ∧ (Lit.int .i64 x).wf = true ∧ 0 ≤ i' ∧ i' ≤ 1099511627776 := by
  unfold spec_l1Raw.f spec_l1Odd.f
  obtain ⟨x, i', h', e, hi0, hi1⟩ := l1Once_some b hb i h 2 h0 h1
  rw [e, Option.bind_some]
  by_cases c : x = true
  · obtain ⟨y, i2, h2, e2, hm, hi20, hi21⟩ := l1Int_some b hb i' h' [(-1), 0, 1, 2, 255, 256, 65535, 2147483647, 2147483648, 4294967295, 4294967296, (-2147483648), 9223372036854775807, (-9223372036854775808)] (by decide) hi0 hi1
    rw [if_pos c, e2, Option.bind_some]
    simp only [List.mem_cons, List.not_mem_nil, or_false] at hm
    exact ⟨_, _, _, rfl, wf64_mk (show _ ≤ y by omega) (show y ≤ _ by omega), hi20, hi21⟩
  · obtain ⟨y, i2, h2, e2, hm, hi20, hi21⟩ := l1Int_some b hb i' h' [(-1), 1000000000000, 1000000000001] (by decide) hi0 hi1
    rw [if_neg c, e2, Option.bind_some]
    simp only [List.mem_cons, List.not_mem_nil, or_false] at hm
    exact ⟨_, _, _, rfl, wf64_mk (show _ ≤ y by omega) (show y ≤ _ by omega), hi20, hi21⟩
theorem l1One_some (b : List Int) (hb : b.length ≤ 1099511627776) (i h : Int) (h0 : 0 ≤ i) (h1 : i ≤ 1099511627776) : ∃ x i' h', spec_l1One.f b i h = some (x, i', h') ∧ (Lit.int .i64 x).wf = true ∧ 0 ≤ i' ∧ i' ≤ 1099511627776 := by
  unfold spec_l1One.f
  obtain ⟨x, i', h', e, hi0, hi1⟩ := l1Once_some b hb i h 6 h0 h1
  rw [e, Option.bind_some]
  by_cases c : x = true
  · obtain ⟨y, i2, h2, e2, hm, hi20, hi21⟩ := l1Raw_some b hb i' h' hi0 hi1
    rw [if_pos c, e2, Option.bind_some]
    exact ⟨_, _, _, rfl, hm, hi20, hi21⟩
  · obtain ⟨y, i2, h2, e2, hy0, hy1, hi20, hi21⟩ := l1Num_some b hb i' h' hi0 hi1
    rw [if_neg c, e2, Option.bind_some]
    exact ⟨_, _, _, rfl, wf64_mk (by omega) (by omega), hi20, hi21⟩
theorem l1Str_some (b : List Int) (hb : b.length ≤ 1099511627776) (i h : Int) (l : List ByteArray) (hl : 0 < l.length) (h0 : 0 ≤ i) (h1 : i ≤ 1099511627776) : ∃ x i' h', spec_l1Str.f b i h l = some (x, i', h') ∧ x ∈ l ∧ 0 ≤ i' ∧ i' ≤ 1099511627776 := by
  unfold spec_l1Str.f
  obtain ⟨x, i', h', e, hx0, hx1, _, hi0, hi1⟩ := l1Below_some b hb i h (l.length : Int) h0 h1
  have hx := hx1 (by omega)
  rw [e, Option.bind_some, if_pos hx0, if_pos hx]
  refine ⟨_, _, _, rfl, ?_, hi0, hi1⟩
  obtain ⟨j, rfl⟩ := Int.eq_ofNat_of_zero_le hx0
  have hj : j < l.length := by omega
  show rdOf ByteArray.empty l (j : Int) ∈ l
  unfold rdOf
  rw [Int.toNat_natCast, List.getD_eq_getElem?_getD, List.getElem?_eq_getElem hj]
  exact List.getElem_mem hj
theorem bl_ex (s : ByteArray) (n : Nat) (h : s.size ≤ n) : ∃ l : List UInt8, s = bl l ∧ l.length ≤ n := ⟨s.data.toList, (bl_of s).symm, by rw [Array.length_toList]; exact h⟩
theorem itoa_neg (m : Int) (h : m < 0) : Lib.itoa m = 45 :: Lib.decDigits m.natAbs := if_pos h
theorem parse_itoa_any (m : Int) : parseR (Lib.itoa m) = if 0 ≤ m ∧ m ≤ 1000000000000 then (m, true) else (0, false) := by
  by_cases h0 : m < 0
  · rw [if_neg (by omega), itoa_neg m h0]
    have e : parseL 0 (45 :: Lib.decDigits m.natAbs) = none := parseL_no _ _ _ (by decide)
    unfold parseR
    rw [e]
    split <;> rfl
  · obtain ⟨u, rfl⟩ := Int.eq_ofNat_of_zero_le (show 0 ≤ m by omega)
    by_cases h1 : u ≤ 1000000000000
    · rw [parse_itoa u h1, if_pos ⟨by omega, by omega⟩]
    · rw [if_neg (by omega), itoa_nat]
      unfold parseR
      rw [(parse_dec u).1, parseFin_no _ _ (fun w => h1 w.1)]
      split <;> rfl
theorem parseR_ok (l : List UInt8) (h : (parseR l).2 = true) : Lib.itoa (parseR l).1 = l ∧ 0 ≤ (parseR l).1 ∧ (parseR l).1 ≤ 1000000000000 := by
  by_cases c : 1 ≤ l.length ∧ l.length ≤ 13
  · rw [show parseR l = parseFin l (parseL 0 l) from if_pos c] at h ⊢
    cases e : parseL 0 l with
    | none => rw [e] at h; cases h
    | some m =>
      rw [e] at h
      by_cases c2 : m ≤ 1000000000000 ∧ Lib.itoa (m : Int) = l
      · rw [parseFin_yes _ _ c2]
        exact ⟨c2.2, by show 0 ≤ (m : Int); omega, by show (m : Int) ≤ _; omega⟩
      · rw [parseFin_no _ _ c2] at h
        cases h
  · rw [show parseR l = (0, false) from if_neg c] at h
    cases h
theorem drawParse_ev (l : List Int) (hl : l.length ≤ 1048576) : ∃ s : List UInt8, Ev (fun k => spec_DrawParseInt.f k l) (bl s) ∧ s.length ≤ 100 := by
  unfold spec_DrawParseInt.f
  obtain ⟨h, e1⟩ := l1New_ev l (by omega)
  obtain ⟨x, i2, h2, e2, hi20, hi21⟩ := l1Once_some l (by omega) 0 h 2 (by omega) (by omega)
  by_cases c : x = true
  · obtain ⟨y, i3, h3, e3, hm, _, _⟩ := l1Str_some l (by omega) i2 h2 [(⟨#[]⟩ : ByteArray), (⟨#[48]⟩ : ByteArray), (⟨#[48, 48]⟩ : ByteArray), (⟨#[45, 49]⟩ : ByteArray), (⟨#[48, 49]⟩ : ByteArray), (⟨#[55]⟩ : ByteArray), (⟨#[49, 48, 48, 48, 48, 48, 48, 48, 48, 48, 48, 48, 48]⟩ : ByteArray), (⟨#[49, 48, 48, 48, 48, 48, 48, 48, 48, 48, 48, 48, 49]⟩ : ByteArray), (⟨#[57, 57, 57, 57, 57, 57, 57, 57, 57, 57, 57, 57, 57, 57]⟩ : ByteArray), (⟨#[49, 120]⟩ : ByteArray), (⟨#[32, 49]⟩ : ByteArray)] (by simp) hi20 hi21
    have hs : y.size ≤ 100 := by
      simp only [List.mem_cons, List.not_mem_nil, or_false] at hm
      rcases hm with rfl | rfl | rfl | rfl | rfl | rfl | rfl | rfl | rfl | rfl | rfl <;> decide
    obtain ⟨s, rfl, hsl⟩ := bl_ex y 100 hs
    exact ⟨s, Ev.bind e1 (ev_bind0 e2 (ev_pos c (ev_bind0 e3 (Ev.now _)))), hsl⟩
  · obtain ⟨n, i3, h3, e3, hn0, hn1, _, _⟩ := l1Num_some l (by omega) i2 h2 hi20 hi21
    have hln := itoa_len n (by omega) (by omega)
    exact ⟨Lib.itoa n, Ev.bind e1 (ev_bind0 e2 (ev_neg c (ev_bind0 e3 (Ev.bind (spec_FormatInt_ev n (by omega) (by omega)) (Ev.now _))))), by omega⟩
theorem drawFormat_ev (l : List Int) (hl : l.length ≤ 1048576) : ∃ m : Int, Ev (fun k => spec_DrawFormatInt.f k l) m ∧ -9223372036854775808 ≤ m ∧ m ≤ 9223372036854775807 := by
  unfold spec_DrawFormatInt.f
  obtain ⟨h, e1⟩ := l1New_ev l (by omega)
  obtain ⟨m, i2, h2, e2, hw, _, _⟩ := l1One_some l (by omega) 0 h (by omega) (by omega)
  have := wf64 hw
  exact ⟨m, Ev.bind e1 (ev_bind0 e2 (Ev.now _)), this.1, this.2⟩
theorem drawDiv_ev (l : List Int) (hl : l.length ≤ 1048576) : ∃ a b : Int, Ev (fun k => spec_DrawCeilDiv.f k l) (a, b) ∧ -9223372036854775808 ≤ a ∧ a ≤ 9223372036854775807 ∧ -9223372036854775808 ≤ b ∧ b ≤ 9223372036854775807 := by
  unfold spec_DrawCeilDiv.f
  obtain ⟨h, e1⟩ := l1New_ev l (by omega)
  obtain ⟨a, i2, h2, e2, hw, hi0, hi1⟩ := l1One_some l (by omega) 0 h (by omega) (by omega)
  obtain ⟨b, i3, h3, e3, hw2, _, _⟩ := l1One_some l (by omega) i2 h2 hi0 hi1
  have w1 := wf64 hw
  have w2 := wf64 hw2
  exact ⟨a, b, Ev.bind e1 (ev_bind0 e2 (ev_bind0 e3 (Ev.now _))), w1.1, w1.2, w2.1, w2.2⟩
theorem impl_Mod_out (a b : Int) (h : ¬ (1 ≤ b ∧ b ≤ 1000000000000)) : impl_Mod.f a b = some 0 := by
  unfold impl_Mod.f
  rw [inRange_val, Option.bind_some, if_neg (by simpa using h)]
theorem impl_CeilDiv_out (a b : Int) (h : ¬ ((0 ≤ a ∧ a ≤ 1000000000000) ∧ 1 ≤ b ∧ b ≤ 1000000000000)) : impl_CeilDiv.f a b = some 0 := by
  unfold impl_CeilDiv.f
  rw [inRange_val, Option.bind_some]
  by_cases ha : 0 ≤ a ∧ a ≤ 1000000000000
  · rw [if_pos (decide_eq_true ha), inRange_val, Option.bind_some, if_neg (fun w => h ⟨ha, of_decide_eq_true w⟩)]
  · rw [if_neg (fun w => ha (of_decide_eq_true w))]
theorem impl_CeilDiv_in (a b : Int) (ha : 0 ≤ a ∧ a ≤ 1000000000000) (hb : 1 ≤ b ∧ b ≤ 1000000000000) : impl_CeilDiv.f a b = some ((a + b - 1) / b) := by
  unfold impl_CeilDiv.f
  rw [inRange_val, Option.bind_some, if_pos (decide_eq_true ha), inRange_val, Option.bind_some, if_pos (decide_eq_true hb), if_neg (by omega)]
  have hd0 : 0 ≤ (a + b - 1) / b := Int.ediv_nonneg (by omega) (by omega)
  have hd1 : (a + b - 1) / b ≤ a + b - 1 := Int.ediv_le_self _ (by omega)
  rw [w64 (x := a + b) (by omega) (by omega), w64 (x := a + b - 1) (by omega) (by omega), Int.tdiv_eq_ediv_of_nonneg (by omega), w64 (by omega) (by omega)]
theorem mod_back (a b : Int) (h1 : 1 ≤ b) (h2 : b ≤ 1000000000000) : Int.tmod (wrap64 (Int.tmod a b - a % b)) b = 0 := by
  have hlt : Int.tmod a b < b := Int.tmod_lt_of_pos a (by omega)
  have hgt : -b < Int.tmod a b := by
    have h := Int.tmod_lt_of_pos (-a) (show 0 < b by omega)
    rw [Int.neg_tmod] at h
    omega
  have m0 : 0 ≤ a % b := Int.emod_nonneg _ (by omega)
  have m1 : a % b < b := Int.emod_lt_of_pos _ (by omega)
  rw [w64 (by omega) (by omega)]
  have e1 : Int.tmod a b = a - b * (a.tdiv b) := Int.tmod_def a b
  have e2 : a % b = a - b * (a / b) := Int.emod_def a b
  have e3 : Int.tmod a b - a % b = b * (a / b - a.tdiv b) := by
    rw [e1, e2, Int.mul_sub]
    omega
  rw [e3]
  exact Int.mul_tmod_right _ _
theorem integers_j0 (a b : Int) (ha0 : -9223372036854775808 ≤ a) (ha1 : a ≤ 9223372036854775807) : ∃ q r, impl_CeilDiv.f a b = some q ∧ impl_Mod.f a b = some r ∧ Ev (fun k => laws_FnIntegers.j0 k a b q r false) true := by
  by_cases hb : 1 ≤ b ∧ b ≤ 1000000000000
  · have m0 : 0 ≤ a % b := Int.emod_nonneg _ (by omega)
    have m1 : a % b < b := Int.emod_lt_of_pos _ (by omega)
    have head : ∀ q, Ev (fun k => laws_FnIntegers.j2 k a b q false) true → Ev (fun k => laws_FnIntegers.j0 k a b q (a % b) false) true := by
      intro q h
      refine Ev.step (fun _ => laws_FnIntegers.j0.eq_2 ..) (ev_neg (by decide) (ev_neg (by omega) (Ev.step (fun _ => laws_FnIntegers.j1.eq_2 ..) (ev_neg (fun w => by have := of_decide_eq_true w; omega) (ev_neg (by omega) (ev_neg (by omega) (ev_neg (by omega) ?_)))))))
      rw [mod_back a b hb.1 hb.2]
      exact h
    by_cases ha : 0 ≤ a ∧ a ≤ 1000000000000
    · refine ⟨_, _, impl_CeilDiv_in a b ha hb, impl_Mod_val a b hb.1 hb.2, head _ ?_⟩
      have d1 : (a + b - 1) / b * b ≤ a + b - 1 := Int.ediv_mul_le _ (by omega)
      have d2 : a + b - 1 < ((a + b - 1) / b + 1) * b := Int.lt_ediv_add_one_mul_self _ (by omega)
      rw [Int.add_mul, Int.one_mul] at d2
      refine Ev.step (fun _ => laws_FnIntegers.j2.eq_2 ..) (ev_neg (by decide) (ev_neg (by omega) (ev_neg (by omega) ?_)))
      generalize (a + b - 1) / b * b = z at d1 d2 ⊢
      rw [w64 (x := z) (by omega) (by omega), w64 (x := z - a) (by omega) (by omega)]
      exact ev_pos (by omega) (ev_of (congrArg some (decide_eq_true (by omega))))
    · refine ⟨_, _, impl_CeilDiv_out a b (fun w => ha w.1), impl_Mod_val a b hb.1 hb.2, head _ ?_⟩
      refine Ev.step (fun _ => laws_FnIntegers.j2.eq_2 ..) (ev_neg (by decide) ?_)
      by_cases h0 : a < 0
      · exact ev_pos h0 (Ev.now _)
      · exact ev_neg h0 (ev_pos (by omega) (Ev.now _))
  · refine ⟨_, _, impl_CeilDiv_out a b (fun w => hb w.2), impl_Mod_out a b hb, ?_⟩
    refine Ev.step (fun _ => laws_FnIntegers.j0.eq_2 ..) (ev_neg (by decide) ?_)
    have tail : ∀ c : Bool, c = true → Ev (fun k => laws_FnIntegers.j1 k a b 0 0 c) true := by
      intro c hc
      exact Ev.step (fun _ => laws_FnIntegers.j1.eq_2 ..) (ev_pos hc (ev_pos rfl (Ev.now _)))
    by_cases h1 : b < 1
    · exact ev_pos h1 (tail _ rfl)
    · exact ev_neg h1 (tail _ (decide_eq_true (by omega)))
theorem FnIntegers : ∀ (x0 : List Int), (x0.length ≤ 9223372036854775807 ∧ ∀ y ∈ x0, (Lit.int .u8 y).wf = true) → ∃ k, laws_FnIntegers.f k x0 = some true := by
  intro l _
  refine Ev.rounds (g := fun k => laws_FnIntegers.f k l) ?_
  unfold laws_FnIntegers.f
  refine ev_bind0 rfl ?_
  by_cases hb : (l.length : Int) > 1048576
  · exact ev_pos (decide_eq_true hb) (Ev.now true)
  refine ev_neg (fun w => hb (of_decide_eq_true w)) ?_
  obtain ⟨s, es, hs⟩ := drawParse_ev l (by omega)
  obtain ⟨m, em, m0, m1⟩ := drawFormat_ev l (by omega)
  obtain ⟨a, b, eab, a0, a1, b0, b1⟩ := drawDiv_ev l (by omega)
  obtain ⟨q, r, eq, er, ej⟩ := integers_j0 a b a0 a1
  have hlm := itoa_len m m0 m1
  have pm := impl_ParseInt_ev (Lib.itoa m) (by omega)
  rw [parse_itoa_any] at pm
  refine Ev.bind es (Ev.bind (impl_ParseInt_ev s (by omega)) (Ev.bind em (ev_bind0 (impl_FormatInt_val m m0 m1) (Ev.bind pm (Ev.bind eab (ev_bind0 eq (ev_bind0 er ?_)))))))
  have tail : Ev (fun k => (if m ≥ 0 then (if ((if 0 ≤ m ∧ m ≤ 1000000000000 then (m, true) else (0, false)).2 != (decide (m ≤ 1000000000000))) = true then (laws_FnIntegers.j0 k a b q r true) else (if (if 0 ≤ m ∧ m ≤ 1000000000000 then (m, true) else (0, false)).2 = true then (laws_FnIntegers.j0 k a b q r ((if 0 ≤ m ∧ m ≤ 1000000000000 then (m, true) else (0, false)).1 != m)) else (laws_FnIntegers.j0 k a b q r false))) else (if ((if 0 ≤ m ∧ m ≤ 1000000000000 then (m, true) else (0, false)).2 != false) = true then (laws_FnIntegers.j0 k a b q r true) else (if (if 0 ≤ m ∧ m ≤ 1000000000000 then (m, true) else (0, false)).2 = true then (laws_FnIntegers.j0 k a b q r ((if 0 ≤ m ∧ m ≤ 1000000000000 then (m, true) else (0, false)).1 != m)) else (laws_FnIntegers.j0 k a b q r false))))) true := by
    by_cases h0 : m ≥ 0
    · by_cases h1 : m ≤ 1000000000000
      · rw [show (if 0 ≤ m ∧ m ≤ 1000000000000 then (m, true) else (0, false)) = (m, true) from if_pos ⟨h0, h1⟩]
        refine ev_pos h0 (ev_neg (by simp [h1]) (ev_pos rfl ?_))
        rw [show (m != m) = false by simp]
        exact ej
      · rw [show (if 0 ≤ m ∧ m ≤ 1000000000000 then (m, true) else (0, false)) = (0, false) from if_neg (fun w => h1 w.2)]
        exact ev_pos h0 (ev_neg (by simp [h1]) (ev_neg (by decide) ej))
    · rw [show (if 0 ≤ m ∧ m ≤ 1000000000000 then (m, true) else (0, false)) = (0, false) from if_neg (fun w => h0 w.1)]
      exact ev_neg h0 (ev_neg (by decide) (ev_neg (by decide) ej))
  by_cases hok : (parseR s).2 = true
  · obtain ⟨p1, p2, p3⟩ := parseR_ok s hok
    refine ev_pos hok (ev_bind0 (impl_FormatInt_val _ (by omega) (by omega)) (ev_pos (by rw [bl_toList, bl_toList]; exact p1) tail))
  · exact ev_neg hok tail

end Go.Proofs.YtgcidlnhgpjdpadDoor.Pure
