/- The pure statement behind the law FnExactParseInt: over numbers and lists the law answers true, at every input that the row's bounds let in. -/
import Derived.Test.YtgcidlnhgpjdpadDoorQFnExactParseIntx1
import Derived.Test.YtgcidlnhgpjdpadDoorQFnExactParseIntg
namespace Go.Proofs.YtgcidlnhgpjdpadDoor.Pure
open Go Go.RowKit Go.Proofs.YtgcidlnhgpjdpadDoor.QFnExactParseInt Go.Proofs.YtgcidlnhgpjdpadDoorW.PrintWords Go.Proofs.YtgcidlnhgpjdpadDoorW.PrintLast Go.Proofs.YtgcidlnhgpjdpadDoorW.PrintMore
set_option linter.unusedVariables false
set_option linter.unusedSimpArgs false
set_option maxRecDepth 100000

theorem w64 {x : Int} (h0 : -9223372036854775808 ≤ x) (h1 : x ≤ 9223372036854775807) : wrap64 x = x := by unfold wrap64; omega
theorem ev_pos {α : Type} {c : Prop} [Decidable c] {g f : Nat → Option α} {r : α} (h : c) (k : Ev g r) : Ev (fun n => if c then g n else f n) r := by
  obtain ⟨K, hK⟩ := k
  exact ⟨K, fun n hn => (if_pos h).trans (hK n hn)⟩
theorem ev_neg {α : Type} {c : Prop} [Decidable c] {g f : Nat → Option α} {r : α} (h : ¬ c) (k : Ev f r) : Ev (fun n => if c then g n else f n) r := by
  obtain ⟨K, hK⟩ := k
  exact ⟨K, fun n hn => (if_neg h).trans (hK n hn)⟩
theorem ev_bind0 {α β : Type} {o : Option α} {f : Nat → α → Option β} {a : α} {r : β} (h : o = some a) (k : Ev (fun n => f n a) r) : Ev (fun n => o.bind (f n)) r := by
  subst h
  exact k
theorem ev_of {α : Type} {o : Option α} {r : α} (h : o = some r) : Ev (fun _ => o) r := ⟨0, fun _ _ => h⟩
theorem l1In_val (a b c : Int) : spec_l1In.f a b c = some (decide (b ≤ a ∧ a ≤ c)) := by
  unfold spec_l1In.f
  by_cases h : a ≥ b
  · rw [if_pos h]; simp [h]
  · rw [if_neg h]; simp [h]
def bl (l : List UInt8) : ByteArray := ⟨l.toArray⟩
theorem bl_append (a b : List UInt8) : bl a ++ bl b = bl (a ++ b) := by
  apply ByteArray.ext
  rw [ByteArray.data_append]
  simp [bl]
theorem bl_size (a : List UInt8) : (bl a).size = a.length := by simp [bl, ByteArray.size]
theorem bl_toList (a : List UInt8) : (bl a).toList = a := by rw [ByteArray.toList_eq]; simp [bl]
theorem bl_of (s : ByteArray) : bl s.data.toList = s := by cases s; simp [bl]
theorem strOfNums_one (z : Int) : strOfNums [z] = bl [UInt8.ofNat z.toNat] := by
  apply ByteArray.ext
  apply Array.ext'
  rw [strOfNums_data]
  simp [bl]
def digs (u : Nat) : List UInt8 := if h : u = 0 then [] else digs (u / 10) ++ [UInt8.ofNat (48 + u % 10)]
termination_by u
decreasing_by omega
theorem digs_zero : digs 0 = [] := by rw [digs]; rfl
theorem digs_pos (u : Nat) (h : ¬ u = 0) : digs u = digs (u / 10) ++ [UInt8.ofNat (48 + u % 10)] := by
  rw [digs, dif_neg h]
theorem digs_dec (u : Nat) (h : ¬ u = 0) : digs u = Lib.decDigits u := by
  induction u using Nat.strongRecOn with
  | _ u ih =>
    rw [digs_pos u h, Lib.decDigits]
    by_cases c : u < 10
    · rw [dif_pos c, show u / 10 = 0 by omega, digs_zero, show u % 10 = u by omega, List.nil_append]
    · rw [dif_neg c, ih (u / 10) (by omega) (by omega)]
theorem spec_FormatInt_l0 (n : Int) : ∀ (d : Nat) (x : Int) (l : List UInt8), x.natAbs < 10 ^ d → l.length + d ≤ 100 → -9223372036854775808 ≤ x → x ≤ 9223372036854775807 → Ev (fun k => spec_FormatInt.l0 k n (bl l) x) (if n < 0 then bl (45 :: (digs x.natAbs ++ l)) else bl (digs x.natAbs ++ l)) := by
  intro d
  have fin : ∀ (l : List UInt8), l.length ≤ 100 → Ev (fun k => spec_FormatInt.l0 k n (bl l) 0) (if n < 0 then bl (45 :: l) else bl l) := by
    intro l hl
    refine Ev.step (fun _ => spec_FormatInt.l0.eq_2 ..) (ev_pos rfl ?_)
    by_cases c : n < 0
    · rw [show (if n < 0 then bl (45 :: l) else bl l) = bl (45 :: l) from if_pos c]
      refine ev_pos c (ev_pos (by rw [bl_size]; omega) (ev_of ?_))
      have e : (⟨#[45]⟩ : ByteArray) = bl [45] := rfl
      rw [e, bl_append]
      rfl
    · rw [show (if n < 0 then bl (45 :: l) else bl l) = bl l from if_neg c]
      exact ev_neg c (Ev.now _)
  induction d with
  | zero =>
    intro x l hx hl _ _
    obtain rfl : x = 0 := by simp at hx; exact hx
    have h := fin l (by omega)
    rw [show (0 : Int).natAbs = 0 from rfl, digs_zero, List.nil_append]
    exact h
  | succ d ih =>
    intro x l hx hl h0 h1
    by_cases c : x = 0
    · subst c
      have h := fin l (by omega)
      rw [show (0 : Int).natAbs = 0 from rfl, digs_zero, List.nil_append]
      exact h
    · have hu : ¬ x.natAbs = 0 := by omega
      have hq : (Int.tdiv x 10).natAbs = x.natAbs / 10 := by rw [Int.natAbs_tdiv]; rfl
      have hm : (Int.tmod x 10).natAbs = x.natAbs % 10 := by rw [Int.natAbs_tmod]; rfl
      have hm9 : x.natAbs % 10 < 10 := Nat.mod_lt _ (by omega)
      have hq2 : Int.tdiv x 10 * 10 + Int.tmod x 10 = x := Int.tdiv_mul_add_tmod x 10
      have e1 : digs x.natAbs ++ l = digs (Int.tdiv x 10).natAbs ++ (UInt8.ofNat (48 + x.natAbs % 10) :: l) := by
        rw [digs_pos _ hu, hq, List.append_assoc]
        rfl
      have key := ih (Int.tdiv x 10) (UInt8.ofNat (48 + x.natAbs % 10) :: l) (by rw [hq, Nat.pow_succ] at *; omega) (by rw [List.length_cons]; omega) (by omega) (by omega)
      rw [e1]
      refine Ev.step (fun _ => spec_FormatInt.l0.eq_2 ..) (ev_neg c ?_)
      have step : ∀ (z : Int), z = (48 + x.natAbs % 10 : Nat) → Ev (fun k => (some ([z] : List Int)).bind fun y => if (strOfNums y).size + (bl l).size ≤ 9223372036854775807 then spec_FormatInt.l0 k n (strOfNums y ++ bl l) (wrap64 (Int.tdiv x 10)) else none) (if n < 0 then bl (45 :: (digs (Int.tdiv x 10).natAbs ++ (UInt8.ofNat (48 + x.natAbs % 10) :: l))) else bl (digs (Int.tdiv x 10).natAbs ++ (UInt8.ofNat (48 + x.natAbs % 10) :: l))) := by
        intro z hz
        refine ev_bind0 rfl (ev_pos (by rw [strOfNums_one, bl_size, bl_size, List.length_singleton]; omega) ?_)
        rw [w64 (x := Int.tdiv x 10) (by omega) (by omega), strOfNums_one, bl_append, hz, Int.toNat_natCast]
        exact key
      by_cases cm : Int.tmod x 10 < 0
      · refine ev_pos cm (step _ ?_)
        rw [w64 (x := -(Int.tmod x 10)) (by omega) (by omega), w64 (x := 48 + -(Int.tmod x 10)) (by omega) (by omega)]
        omega
      · refine ev_neg cm (step _ ?_)
        rw [w64 (x := 48 + Int.tmod x 10) (by omega) (by omega)]
        omega
theorem spec_FormatInt_ev (n : Int) (h0 : -9223372036854775808 ≤ n) (h1 : n ≤ 9223372036854775807) : Ev (fun k => spec_FormatInt.f k n) (bl (Lib.itoa n)) := by
  unfold spec_FormatInt.f
  by_cases c : n = 0
  · refine ev_pos c (ev_of ?_)
    subst c
    have e : Lib.itoa 0 = [48] := by
      unfold Lib.itoa
      rw [if_neg (by omega)]
      exact Lib.decDigits_one (i := 0) (by omega)
    rw [e]
    rfl
  · refine ev_neg c ?_
    have h := spec_FormatInt_l0 n 20 n [] (by omega) (by simp) h0 h1
    have e : (if n < 0 then bl (45 :: (digs n.natAbs ++ [])) else bl (digs n.natAbs ++ [])) = bl (Lib.itoa n) := by
      rw [List.append_nil, digs_dec _ (by omega)]
      unfold Lib.itoa
      by_cases cn : n < 0
      · rw [if_pos cn, if_pos cn]
      · rw [if_neg cn, if_neg cn, show n.toNat = n.natAbs by omega]
    rw [e] at h
    exact h
theorem impl_FormatInt_val (n : Int) (h0 : -9223372036854775808 ≤ n) (h1 : n ≤ 9223372036854775807) : impl_FormatInt.f n = some (bl (Lib.itoa n)) := by
  unfold impl_FormatInt.f
  have e : ∀ (o : Option ByteArray), o = some (bl (Lib.itoa n)) → (o.bind fun t => some t) = some (bl (Lib.itoa n)) := by
    intro o h
    rw [h]
    rfl
  exact e _ (if_pos ⟨h0, h1⟩)
theorem bt_bl (l : List UInt8) (i : Nat) (h : i < l.length) : bt (bl l) (i : Int) = ((l[i]).toNat : Int) := by
  unfold bt
  rw [dif_pos (show ((i : Int)).toNat < (bl l).size by rw [bl_size]; exact h)]
  rfl
def isDig (b : UInt8) : Bool := decide (48 ≤ b.toNat) && decide (b.toNat ≤ 57)
def parseL (m : Nat) : List UInt8 → Option Nat
  | [] => some m
  | b :: l => if isDig b = true then parseL (10 * m + (b.toNat - 48)) l else none
def parseFin (l : List UInt8) : Option Nat → Int × Bool
  | none => (0, false)
  | some m => if m ≤ 1000000000000 ∧ Lib.itoa (m : Int) = l then ((m : Int), true) else (0, false)
def parseR (l : List UInt8) : Int × Bool := if 1 ≤ l.length ∧ l.length ≤ 13 then parseFin l (parseL 0 l) else (0, false)
theorem parseFin_yes (l : List UInt8) (m : Nat) (h : m ≤ 1000000000000 ∧ Lib.itoa (m : Int) = l) : parseFin l (some m) = ((m : Int), true) := if_pos h
theorem parseFin_no (l : List UInt8) (m : Nat) (h : ¬ (m ≤ 1000000000000 ∧ Lib.itoa (m : Int) = l)) : parseFin l (some m) = (0, false) := if_neg h
theorem parseL_yes (m : Nat) (b : UInt8) (l : List UInt8) (h : isDig b = true) : parseL m (b :: l) = parseL (10 * m + (b.toNat - 48)) l := if_pos h
theorem parseL_no (m : Nat) (b : UInt8) (l : List UInt8) (h : ¬ isDig b = true) : parseL m (b :: l) = none := if_neg h
theorem isDig_iff (b : UInt8) : isDig b = true ↔ 48 ≤ b.toNat ∧ b.toNat ≤ 57 := by
  unfold isDig
  rw [Bool.and_eq_true, decide_eq_true_eq, decide_eq_true_eq]
theorem pow_step (m i : Nat) (d : Nat) (hd : d ≤ 9) (h : m < 10 ^ i) : 10 * m + d < 10 ^ (i + 1) := by
  rw [Nat.pow_succ]
  omega
theorem pow_13 (m i : Nat) (h : m < 10 ^ i) (hi : i ≤ 13) : m < 10000000000000 :=
  Nat.lt_of_lt_of_le h (Nat.pow_le_pow_right (by omega) hi)
theorem spec_ParseInt_l0 (l : List UInt8) (hl : l.length ≤ 13) : ∀ (d i m : Nat), i + d = l.length → m < 10 ^ i → Ev (fun k => spec_ParseInt.l0 k (bl l) (m : Int) (i : Int)) (parseFin l (parseL m (l.drop i))) := by
  intro d
  induction d with
  | zero =>
    intro i m hd hm
    have hb := pow_13 m i hm (by omega)
    rw [List.drop_eq_nil_of_le (by omega)]
    refine Ev.step (fun _ => spec_ParseInt.l0.eq_2 ..) (ev_neg (by rw [bl_size]; omega) ?_)
    show Ev _ (parseFin l (some m))
    by_cases h1 : (m : Int) > 1000000000000
    · rw [parseFin_no _ _ (fun w => by omega)]
      exact ev_pos h1 (Ev.now _)
    · refine ev_neg h1 (Ev.bind (spec_FormatInt_ev m (by omega) (by omega)) ?_)
      by_cases h2 : Lib.itoa (m : Int) = l
      · rw [parseFin_yes _ _ ⟨by omega, h2⟩]
        exact ev_pos (by rw [bl_toList, bl_toList]; exact h2) (Ev.now _)
      · rw [parseFin_no _ _ (fun w => h2 w.2)]
        exact ev_neg (by rw [bl_toList, bl_toList]; exact h2) (Ev.now _)
  | succ d ih =>
    intro i m hd hm
    have hlt : i < l.length := by omega
    have hb := pow_13 m i hm (by omega)
    rw [List.drop_eq_getElem_cons hlt]
    refine Ev.step (fun _ => spec_ParseInt.l0.eq_2 ..) (ev_pos (by rw [bl_size]; omega) (ev_pos (by omega) ?_))
    rw [bt_bl l i hlt]
    have h255 : (l[i]).toNat < 256 := (l[i]).toNat_lt
    rw [w64 (x := ((l[i]).toNat : Int)) (by omega) (by omega)]
    refine ev_bind0 (l1In_val ..) ?_
    by_cases h : isDig l[i] = true
    · have hr := (isDig_iff _).1 h
      rw [parseL_yes _ _ _ h]
      refine ev_pos (decide_eq_true (by omega)) ?_
      rw [w64 (x := 10 * (m : Int)) (by omega) (by omega), w64 (x := (i : Int) + 1) (by omega) (by omega), w64 (by omega) (by omega), show (10 * (m : Int) + (((l[i]).toNat : Int) - 48) % 256) = ((10 * m + ((l[i]).toNat - 48) : Nat) : Int) by omega]
      exact ih (i + 1) _ (by omega) (pow_step m i _ (by omega) hm)
    · rw [parseL_no _ _ _ h]
      exact ev_neg (fun w => h ((isDig_iff _).2 (by have := of_decide_eq_true w; omega))) (Ev.now _)
theorem impl_ParseInt_l0 (l : List UInt8) (hl : l.length ≤ 13) : ∀ (d i m : Nat), i + d = l.length → m < 10 ^ i → Ev (fun k => impl_ParseInt.l0 k (bl l) (m : Int) (l.length : Int) (i : Int)) (parseFin l (parseL m (l.drop i))) := by
  intro d
  induction d with
  | zero =>
    intro i m hd hm
    have hb := pow_13 m i hm (by omega)
    rw [List.drop_eq_nil_of_le (by omega)]
    refine Ev.step (fun _ => impl_ParseInt.l0.eq_2 ..) (ev_neg (by omega) ?_)
    show Ev _ (parseFin l (some m))
    by_cases h1 : (m : Int) > 1000000000000
    · rw [parseFin_no _ _ (fun w => by omega)]
      exact ev_pos h1 (Ev.now _)
    · refine ev_neg h1 (ev_bind0 (impl_FormatInt_val m (by omega) (by omega)) ?_)
      by_cases h2 : Lib.itoa (m : Int) = l
      · rw [parseFin_yes _ _ ⟨by omega, h2⟩]
        exact ev_pos (by rw [bl_toList, bl_toList]; exact h2) (Ev.now _)
      · rw [parseFin_no _ _ (fun w => h2 w.2)]
        exact ev_neg (by rw [bl_toList, bl_toList]; exact h2) (Ev.now _)
  | succ d ih =>
    intro i m hd hm
    have hlt : i < l.length := by omega
    have hb := pow_13 m i hm (by omega)
    rw [List.drop_eq_getElem_cons hlt]
    refine Ev.step (fun _ => impl_ParseInt.l0.eq_2 ..) (ev_pos (by omega) (ev_pos (by omega) (ev_pos (by rw [bl_size]; omega) ?_)))
    rw [bt_bl l i hlt]
    have h255 : (l[i]).toNat < 256 := (l[i]).toNat_lt
    by_cases h1 : ((l[i]).toNat : Int) < 48
    · rw [parseL_no _ _ _ (fun w => by have := (isDig_iff _).1 w; omega)]
      exact ev_pos h1 (Ev.now _)
    refine ev_neg h1 ?_
    by_cases h2 : ((l[i]).toNat : Int) > 57
    · rw [parseL_no _ _ _ (fun w => by have := (isDig_iff _).1 w; omega)]
      exact ev_pos h2 (Ev.now _)
    refine ev_neg h2 ?_
    rw [parseL_yes _ _ _ ((isDig_iff _).2 (by omega)), w64 (x := (m : Int) * 10) (by omega) (by omega), w64 (x := (i : Int) + 1) (by omega) (by omega), w64 (by omega) (by omega), show ((m : Int) * 10 + (((l[i]).toNat : Int) - 48) % 256) = ((10 * m + ((l[i]).toNat - 48) : Nat) : Int) by omega]
    exact ih (i + 1) _ (by omega) (pow_step m i _ (by omega) hm)
theorem spec_ParseInt_ev (l : List UInt8) : Ev (fun k => spec_ParseInt.f k (bl l)) (parseR l) := by
  unfold spec_ParseInt.f
  rw [bl_size]
  refine ev_bind0 (l1In_val ..) ?_
  by_cases h : 1 ≤ l.length ∧ l.length ≤ 13
  · rw [show parseR l = parseFin l (parseL 0 l) from if_pos h]
    exact ev_pos (decide_eq_true (by omega)) (spec_ParseInt_l0 l h.2 l.length 0 0 (by omega) (by omega))
  · rw [show parseR l = (0, false) from if_neg h]
    exact ev_neg (fun w => h (by have := of_decide_eq_true w; omega)) (Ev.now _)
theorem impl_ParseInt_ev (l : List UInt8) (hb : l.length ≤ 9223372036854775807) : Ev (fun k => impl_ParseInt.f k (bl l)) (parseR l) := by
  unfold impl_ParseInt.f
  rw [bl_size]
  by_cases h0 : (l.length : Int) = 0
  · rw [show parseR l = (0, false) from if_neg (by omega)]
    exact ev_pos h0 (Ev.step (fun _ => impl_ParseInt.j0.eq_2 ..) (ev_pos rfl (Ev.now _)))
  refine ev_neg h0 (Ev.step (fun _ => impl_ParseInt.j0.eq_2 ..) ?_)
  by_cases h : l.length ≤ 13
  · rw [show parseR l = parseFin l (parseL 0 l) from if_pos (by omega), bl_size]
    exact ev_neg (fun w => by have := of_decide_eq_true w; omega) (impl_ParseInt_l0 l h l.length 0 0 (by omega) (by omega))
  · rw [show parseR l = (0, false) from if_neg (by omega)]
    exact ev_pos (decide_eq_true (by omega)) (Ev.now _)
theorem FnExactParseInt : ∀ (x0 : ByteArray), x0.size ≤ 140737488351232 → ∃ k, laws_FnExactParseInt.f k x0 = some true := by
  intro s hs
  refine Ev.rounds (g := fun k => laws_FnExactParseInt.f k s) ?_
  unfold laws_FnExactParseInt.f
  by_cases h : (s.size : Int) > 1048576
  · exact ev_pos h (Ev.now true)
  refine ev_neg h ?_
  rw [← bl_of s]
  exact Ev.bind (spec_ParseInt_ev s.data.toList) (Ev.bind (impl_ParseInt_ev s.data.toList (by rw [Array.length_toList]; show s.size ≤ _; omega)) (ev_pos rfl (ev_neg (by simp) (Ev.now true))))

end Go.Proofs.YtgcidlnhgpjdpadDoor.Pure
