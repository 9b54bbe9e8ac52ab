/- The pure statement behind the law FnResources: over numbers and lists the law answers true, at every input that the row's bounds let in. -/
import Derived.Test.YtgcidlnhgpjdpadDoorQFnResourcesx7
import Derived.Lib.ItoaLen
import Derived.Test.YtgcidlnhgpjdpadDoorQFnResourcesg
namespace Go.Proofs.YtgcidlnhgpjdpadDoor.Pure
open Go Go.RowKit Go.Proofs.YtgcidlnhgpjdpadDoor.QFnResources Go.Proofs.YtgcidlnhgpjdpadDoorW.PrintWords Go.Proofs.YtgcidlnhgpjdpadDoorW.PrintLast Go.Proofs.YtgcidlnhgpjdpadDoorW.PrintMore
set_option linter.unusedVariables false
set_option linter.unusedSimpArgs false
set_option maxRecDepth 100000

theorem w64 {x : Int} (h0 : -9223372036854775808 ≤ x) (h1 : x ≤ 9223372036854775807) : wrap64 x = x := by unfold wrap64; omega
theorem ev_pos {α : Type} {c : Prop} [Decidable c] {g f : Nat → Option α} {r : α} (h : c) (k : Ev g r) : Ev (fun n => if c then g n else f n) r := by
  obtain ⟨K, hK⟩ := k
  exact ⟨K, fun n hn => (if_pos h).trans (hK n hn)⟩
theorem ev_neg {α : Type} {c : Prop} [Decidable c] {g f : Nat → Option α} {r : α} (h : ¬ c) (k : Ev f r) : Ev (fun n => if c then g n else f n) r := by
  obtain ⟨K, hK⟩ := k
  exact ⟨K, fun n hn => (if_neg h).trans (hK n hn)⟩
theorem ev_bind0 {α β : Type} {o : Option α} {f : Nat → α → Option β} {a : α} {r : β} (h : o = some a) (k : Ev (fun n => f n a) r) : Ev (fun n => o.bind (f n)) r := by
  subst h
  exact k
theorem ev_of {α : Type} {o : Option α} {r : α} (h : o = some r) : Ev (fun _ => o) r := ⟨0, fun _ _ => h⟩
theorem rd_at (xs : List Int) (i : Nat) (h : i < xs.length) : rd xs (i : Int) = xs[i] := by
  unfold rd
  rw [Int.toNat_natCast, List.getD_eq_getElem?_getD, List.getElem?_eq_getElem h]
  rfl
theorem inRange_val (a b c : Int) : impl_InRange.f a b c = some (decide (b ≤ a ∧ a ≤ c)) := by
  unfold impl_InRange.f
  by_cases h : b ≤ a
  · rw [if_pos h]; simp [h]
  · rw [if_neg h]; simp [h]
def bl (l : List UInt8) : ByteArray := ⟨l.toArray⟩
theorem bl_append (a b : List UInt8) : bl a ++ bl b = bl (a ++ b) := by
  apply ByteArray.ext
  rw [ByteArray.data_append]
  simp [bl]
theorem bl_size (a : List UInt8) : (bl a).size = a.length := by simp [bl, ByteArray.size]
theorem bl_toList (a : List UInt8) : (bl a).toList = a := by rw [ByteArray.toList_eq]; simp [bl]
theorem itoa_len (n : Int) (h0 : -9223372036854775808 ≤ n) (h1 : n ≤ 9223372036854775807) : (Lib.itoa n).length ≤ 21 := Lib.itoa_length_le n h0 h1
theorem impl_FormatInt_val (n : Int) (h0 : -9223372036854775808 ≤ n) (h1 : n ≤ 9223372036854775807) : impl_FormatInt.f n = some (bl (Lib.itoa n)) := by
  unfold impl_FormatInt.f
  have e : ∀ (o : Option ByteArray), o = some (bl (Lib.itoa n)) → (o.bind fun t => some t) = some (bl (Lib.itoa n)) := by
    intro o h
    rw [h]
    rfl
  exact e _ (if_pos ⟨h0, h1⟩)
def isAddr (a b c : Int) : Bool := decide (1 ≤ a ∧ a ≤ 9) && (decide (0 ≤ b ∧ b ≤ 99) && decide (0 ≤ c ∧ c ≤ 99))
theorem impl_IsAddress_val (a b c : Int) : impl_IsAddress.f a b c = some (isAddr a b c) := by
  unfold impl_IsAddress.f isAddr
  simp only [inRange_val, Option.bind_some]
  by_cases h1 : 1 ≤ a ∧ a ≤ 9 <;> by_cases h2 : 0 ≤ b ∧ b ≤ 99 <;> simp [h1, h2]
theorem isAddr_range (a b c : Int) (h : isAddr a b c = true) : 1 ≤ a ∧ a ≤ 9 ∧ 0 ≤ b ∧ b ≤ 99 ∧ 0 ≤ c ∧ c ≤ 99 := by
  unfold isAddr at h
  simp only [Bool.and_eq_true, decide_eq_true_eq] at h
  omega
def addrText (a b c : Int) : List UInt8 := Lib.itoa a ++ [47] ++ Lib.itoa b ++ (if c = 0 then [] else 63 :: Lib.itoa c)
theorem addrText_zero (a b : Int) : addrText a b 0 = Lib.itoa a ++ [47] ++ Lib.itoa b := by
  unfold addrText
  rw [if_pos rfl, List.append_nil]
theorem addrText_pos (a b c : Int) (h : ¬ c = 0) : addrText a b c = Lib.itoa a ++ [47] ++ Lib.itoa b ++ 63 :: Lib.itoa c := by
  unfold addrText
  rw [if_neg h]
theorem impl_AddressText_val (a b c : Int) : impl_AddressText.f a b c = some (if isAddr a b c = true then bl (addrText a b c) else bl []) := by
  have key : Ev (fun _ => impl_AddressText.f a b c) (if isAddr a b c = true then bl (addrText a b c) else bl []) := by
    unfold impl_AddressText.f
    refine ev_bind0 (impl_IsAddress_val a b c) ?_
    by_cases h : isAddr a b c = true
    · rw [show (if isAddr a b c = true then bl (addrText a b c) else bl []) = bl (addrText a b c) from if_pos h]
      have hr := isAddr_range a b c h
      have la := itoa_len a (by omega) (by omega)
      have lb := itoa_len b (by omega) (by omega)
      have lc := itoa_len c (by omega) (by omega)
      have e47 : (⟨#[47]⟩ : ByteArray) = bl [47] := rfl
      have e63 : (⟨#[63]⟩ : ByteArray) = bl [63] := rfl
      refine ev_pos h (ev_bind0 (impl_FormatInt_val a (by omega) (by omega)) (ev_pos (by rw [bl_size]; omega) (ev_bind0 (impl_FormatInt_val b (by omega) (by omega)) ?_)))
      rw [e47, e63, bl_append, bl_append]
      refine ev_pos (by rw [bl_size, bl_size, List.length_append, List.length_singleton]; omega) ?_
      by_cases hc : c = 0
      · subst hc
        rw [addrText_zero]
        exact ev_pos rfl (Ev.now _)
      · rw [addrText_pos _ _ _ hc]
        refine ev_neg hc (ev_bind0 (impl_FormatInt_val c (by omega) (by omega)) (ev_pos (by rw [bl_size]; omega) ?_))
        rw [bl_append]
        refine ev_pos (by rw [bl_size, bl_size, List.length_append, List.length_append, List.length_append, List.length_singleton, List.length_singleton]; omega) (ev_of ?_)
        rw [bl_append]
        rfl
    · rw [show (if isAddr a b c = true then bl (addrText a b c) else bl []) = bl [] from if_neg h]
      exact ev_neg h (Ev.now _)
  obtain ⟨K, hK⟩ := key
  exact hK K (Nat.le_refl _)
def okB (l : List Int) : Bool := l.all fun x => decide (0 ≤ x ∧ x ≤ 255)
theorem impl_allIn_l0 (xs : List Int) (hn : xs.length ≤ 1099511627776) : ∀ (d i : Nat), i + d = xs.length → Ev (fun k => impl_allIn.l0 k 0 255 xs (xs.length : Int) (i : Int)) (okB (xs.drop i)) := by
  intro d
  induction d with
  | zero =>
    intro i hd
    refine Ev.step (fun _ => impl_allIn.l0.eq_2 ..) (ev_neg (by omega) (ev_of ?_))
    rw [List.drop_eq_nil_of_le (by omega)]
    rfl
  | succ d ih =>
    intro i hd
    have hlt : i < xs.length := by omega
    refine Ev.step (fun _ => impl_allIn.l0.eq_2 ..) (ev_pos (by omega) (ev_pos (by omega) (ev_pos (by omega) (ev_bind0 (inRange_val _ _ _) ?_))))
    rw [rd_at xs i hlt, List.drop_eq_getElem_cons hlt, okB, List.all_cons]
    by_cases h : 0 ≤ xs[i]'hlt ∧ xs[i]'hlt ≤ 255
    · refine ev_pos (decide_eq_true h) ?_
      rw [w64 (by omega) (by omega), decide_eq_true h, Bool.true_and]
      exact ih (i + 1) (by omega)
    · refine ev_neg (by simp only [decide_eq_true_eq]; exact h) (ev_of ?_)
      rw [decide_eq_false h, Bool.false_and]
theorem impl_allIn_ev (xs : List Int) (hn : xs.length ≤ 1099511627776) : Ev (fun k => impl_allIn.f k xs 0 255) (okB xs) := by
  unfold impl_allIn.f
  exact impl_allIn_l0 xs hn xs.length 0 (by omega)
def zeroA (a b c : Int) : Bool := a == 0 && (b == 0 && (c == 0))
def isRes (k : Int) (l : List Int) (a b c : Int) : Bool :=
  if k = 1 ∨ k = 2 then decide (l.length ≤ 6) && (okB l && zeroA a b c)
  else if k = 3 then decide (l.length = 0) && isAddr a b c
  else if k = 4 then decide (l.length = 0) && zeroA a b c else false
theorem impl_IsResource_ev (k : Int) (l : List Int) (a b c : Int) (hn : l.length ≤ 1099511627776) : Ev (fun n => impl_IsResource.f n k l a b c) (isRes k l a b c) := by
  have body : ∀ q : Bool, (q = true ↔ k = 1 ∨ k = 2) → Ev (fun n => impl_IsResource.j0 n k q k l a b c) (isRes k l a b c) := by
    intro q hq
    refine Ev.step (fun _ => impl_IsResource.j0.eq_2 ..) ?_
    by_cases h : q = true
    · refine ev_pos h ?_
      have e : isRes k l a b c = (decide (l.length ≤ 6) && (okB l && zeroA a b c)) := by unfold isRes; rw [if_pos (hq.1 h)]
      rw [e]
      by_cases hl : l.length ≤ 6
      · refine ev_pos (by omega) (Ev.bind (impl_allIn_ev l hn) ?_)
        rw [decide_eq_true hl, Bool.true_and]
        by_cases ho : okB l = true
        · refine ev_pos ho (ev_of ?_)
          rw [ho, Bool.true_and]
          rfl
        · refine ev_neg ho (ev_of ?_)
          rw [Bool.eq_false_iff.2 ho, Bool.false_and]
      · refine ev_neg (by omega) (ev_of ?_)
        rw [decide_eq_false hl, Bool.false_and]
    · refine ev_neg h ?_
      have hk : ¬ (k = 1 ∨ k = 2) := fun hh => h (hq.2 hh)
      by_cases h3 : k = 3
      · have e : isRes k l a b c = (decide (l.length = 0) && isAddr a b c) := by unfold isRes; rw [if_neg hk, if_pos h3]
        rw [e]
        refine ev_pos h3 ?_
        by_cases hl : l.length = 0
        · refine ev_pos (by omega) (ev_bind0 (impl_IsAddress_val _ _ _) (ev_of ?_))
          rw [decide_eq_true hl, Bool.true_and]
        · refine ev_neg (by omega) (ev_of ?_)
          rw [decide_eq_false hl, Bool.false_and]
      · refine ev_neg h3 ?_
        by_cases h4 : k = 4
        · have e : isRes k l a b c = (decide (l.length = 0) && zeroA a b c) := by unfold isRes; rw [if_neg hk, if_neg h3, if_pos h4]
          rw [e]
          refine ev_pos h4 ?_
          by_cases hl : l.length = 0
          · refine ev_pos (by omega) (ev_of ?_)
            rw [decide_eq_true hl, Bool.true_and]
            rfl
          · refine ev_neg (by omega) (ev_of ?_)
            rw [decide_eq_false hl, Bool.false_and]
        · have e : isRes k l a b c = false := by unfold isRes; rw [if_neg hk, if_neg h3, if_neg h4]
          rw [e]
          exact ev_neg h4 (Ev.now _)
  unfold impl_IsResource.f
  by_cases h1 : k = 1
  · exact ev_pos h1 (body _ (by simp [h1]))
  · exact ev_neg h1 (body _ (by simp [h1]))
theorem impl_AddressText_yes (a b c : Int) (h : isAddr a b c = true) : impl_AddressText.f a b c = some (bl (addrText a b c)) := by
  have e := impl_AddressText_val a b c
  rw [if_pos h] at e
  exact e
theorem addrText_len (a b c : Int) (h : isAddr a b c = true) : (addrText a b c).length ≤ 70 := by
  have hr := isAddr_range a b c h
  have la := itoa_len a (by omega) (by omega)
  have lb := itoa_len b (by omega) (by omega)
  have lc := itoa_len c (by omega) (by omega)
  by_cases hc : c = 0
  · subst hc
    rw [addrText_zero, List.length_append, List.length_append, List.length_singleton]
    omega
  · rw [addrText_pos _ _ _ hc, List.length_append, List.length_append, List.length_append, List.length_singleton, List.length_cons]
    omega
def txtFrom (s : List UInt8) (l : List Int) : List UInt8 := l.foldl (fun s n => s ++ 32 :: Lib.itoa n) s
theorem impl_ResourceText_l0 (l : List Int) (hn : l.length ≤ 6) (ho : ∀ x ∈ l, 0 ≤ x ∧ x ≤ 255) : ∀ (d i : Nat) (s : List UInt8), i + d = l.length → s.length + 22 * d ≤ 1000 → Ev (fun n => impl_ResourceText.l0 n (bl s) l (l.length : Int) (i : Int)) (bl (txtFrom s (l.drop i))) := by
  intro d
  induction d with
  | zero =>
    intro i s hd hs
    refine Ev.step (fun _ => impl_ResourceText.l0.eq_2 ..) (ev_neg (by omega) (ev_of ?_))
    rw [List.drop_eq_nil_of_le (by omega)]
    rfl
  | succ d ih =>
    intro i s hd hs
    have hlt : i < l.length := by omega
    have hx := ho _ (List.getElem_mem hlt)
    have hl := itoa_len l[i] (by omega) (by omega)
    have e32 : (⟨#[32]⟩ : ByteArray) = bl [32] := rfl
    refine Ev.step (fun _ => impl_ResourceText.l0.eq_2 ..) (ev_pos (by omega) (ev_pos (by omega) (ev_pos (by omega) ?_)))
    rw [rd_at l i hlt, w64 (x := (i : Int) + 1) (by omega) (by omega), e32]
    refine ev_bind0 (impl_FormatInt_val _ (by omega) (by omega)) (ev_pos (by rw [bl_size]; omega) ?_)
    rw [bl_append]
    refine ev_pos (by rw [bl_size, bl_size, List.length_append, List.length_singleton]; omega) ?_
    rw [bl_append, List.singleton_append]
    rw [List.drop_eq_getElem_cons hlt]
    exact ih (i + 1) (s ++ 32 :: Lib.itoa l[i]) (by omega) (by rw [List.length_append, List.length_cons]; omega)
def resT (k : Int) (l : List Int) (a b c : Int) : List UInt8 :=
  if k = 3 then [109, 111, 118, 101, 32] ++ addrText a b c
  else if k = 4 then [110, 111, 110, 101]
  else if k = 1 then txtFrom [112, 97, 103, 101] l else txtFrom [100, 97, 116, 97] l
theorem isRes_cases (k : Int) (l : List Int) (a b c : Int) (h : isRes k l a b c = true) : ((k = 1 ∨ k = 2) ∧ l.length ≤ 6 ∧ ∀ x ∈ l, 0 ≤ x ∧ x ≤ 255) ∨ (k = 3 ∧ l = [] ∧ isAddr a b c = true) ∨ (k = 4 ∧ l = []) := by
  unfold isRes at h
  by_cases h12 : k = 1 ∨ k = 2
  · rw [if_pos h12, Bool.and_eq_true, Bool.and_eq_true, decide_eq_true_eq] at h
    refine .inl ⟨h12, h.1, fun x hx => ?_⟩
    exact of_decide_eq_true (List.all_eq_true.1 h.2.1 x hx)
  · rw [if_neg h12] at h
    by_cases h3 : k = 3
    · rw [if_pos h3, Bool.and_eq_true, decide_eq_true_eq] at h
      exact .inr (.inl ⟨h3, List.eq_nil_of_length_eq_zero h.1, h.2⟩)
    · rw [if_neg h3] at h
      by_cases h4 : k = 4
      · rw [if_pos h4, Bool.and_eq_true, decide_eq_true_eq] at h
        exact .inr (.inr ⟨h4, List.eq_nil_of_length_eq_zero h.1⟩)
      · rw [if_neg h4] at h
        cases h
theorem impl_ResourceText_yes (k : Int) (l : List Int) (a b c : Int) (hn : l.length ≤ 1099511627776) (h : isRes k l a b c = true) : Ev (fun n => impl_ResourceText.f n k l a b c) (bl (resT k l a b c)) := by
  unfold impl_ResourceText.f
  refine Ev.bind (impl_IsResource_ev k l a b c hn) (ev_pos h ?_)
  rcases isRes_cases k l a b c h with ⟨h12, hl, ho⟩ | ⟨h3, hl, ha⟩ | ⟨h4, hl⟩
  · rcases h12 with rfl | rfl
    · refine ev_neg (by decide) (ev_neg (by decide) (ev_pos rfl (Ev.step (fun _ => impl_ResourceText.j0.eq_2 ..) ?_)))
      exact impl_ResourceText_l0 l hl ho l.length 0 [112, 97, 103, 101] (by omega) (by simp; omega)
    · refine ev_neg (by decide) (ev_neg (by decide) (ev_neg (by decide) (Ev.step (fun _ => impl_ResourceText.j0.eq_2 ..) ?_)))
      exact impl_ResourceText_l0 l hl ho l.length 0 [100, 97, 116, 97] (by omega) (by simp; omega)
  · subst h3 hl
    have e5 : (⟨#[109, 111, 118, 101, 32]⟩ : ByteArray) = bl [109, 111, 118, 101, 32] := rfl
    have hal := addrText_len a b c ha
    refine ev_pos rfl (ev_bind0 (impl_AddressText_yes a b c ha) (ev_pos (by rw [bl_size]; omega) (ev_of ?_)))
    rw [e5, bl_append]
    rfl
  · subst h4 hl
    exact ev_neg (by decide) (ev_pos rfl (Ev.now _))
theorem impl_ResourceText_no (k : Int) (l : List Int) (a b c : Int) (hn : l.length ≤ 1099511627776) (h : ¬ isRes k l a b c = true) : Ev (fun n => impl_ResourceText.f n k l a b c) (bl []) := by
  unfold impl_ResourceText.f
  exact Ev.bind (impl_IsResource_ev k l a b c hn) (ev_neg h (Ev.now _))
def resInts (a0 : Int) (l : List Int) (a2 a3 a4 : Int) : List Int := [a0, a2, a3, a4, (l.length : Int)] ++ l
theorem resInts_len (a0 : Int) (l : List Int) (a2 a3 a4 : Int) : (resInts a0 l a2 a3 a4).length = l.length + 5 := by simp [resInts]
theorem impl_ResourceInts_val (a0 : Int) (l : List Int) (a2 a3 a4 : Int) (hl : l.length ≤ 1099511627776) : impl_ResourceInts.f a0 l a2 a3 a4 = some (resInts a0 l a2 a3 a4) := by
  unfold impl_ResourceInts.f
  rw [Option.bind_some, if_pos (by simp only [List.length_cons, List.length_nil]; omega)]
  rfl
theorem slices_Equal_int_int_l0 (xs ys : List Int) (hl : xs.length = ys.length) (hn : xs.length ≤ 9223372036854775807) : ∀ (d i : Nat), i + d = xs.length → Ev (fun k => slices_Equal_int_int.l0 k xs ys (xs.length : Int) (i : Int)) (decide (xs.drop i = ys.drop i)) := by
  intro d
  induction d with
  | zero =>
    intro i hd
    refine Ev.step (fun _ => slices_Equal_int_int.l0.eq_2 ..) (ev_neg (by omega) (ev_of ?_))
    rw [List.drop_eq_nil_of_le (by omega), List.drop_eq_nil_of_le (by omega)]
    rfl
  | succ d ih =>
    intro i hd
    refine Ev.step (fun _ => slices_Equal_int_int.l0.eq_2 ..) (ev_pos (by omega) (ev_pos (by omega) (ev_pos (by omega) (ev_pos (by omega) ?_))))
    rw [rd_at xs i (by omega), rd_at ys i (by omega), List.drop_eq_getElem_cons (show i < xs.length by omega), List.drop_eq_getElem_cons (show i < ys.length by omega)]
    by_cases he : xs[i]'(by omega) = ys[i]'(by omega)
    · refine ev_pos he ?_
      rw [w64 (by omega) (by omega)]
      have h := ih (i + 1) (by omega)
      simp only [he, List.cons.injEq, true_and]
      exact h
    · exact ev_neg he (ev_of (congrArg some (decide_eq_false (fun h => he (List.cons.inj h).1)).symm))
theorem slices_Equal_int_int_ev (xs ys : List Int) (hn : xs.length ≤ 9223372036854775807) : Ev (fun k => slices_Equal_int_int.f k xs ys) (decide (xs = ys)) := by
  unfold slices_Equal_int_int.f
  by_cases hl : xs.length = ys.length
  · exact ev_pos (by omega) (slices_Equal_int_int_l0 xs ys hl hn xs.length 0 (by omega))
  · refine ev_neg (by omega) (ev_of ?_)
    rw [decide_eq_false (fun h => hl (by rw [h]))]
theorem l1New_l0 (l : List Int) (hl : l.length ≤ 1099511627776) : ∀ (d i : Nat) (h : Int), i + d = l.length → ∃ h', Ev (fun k => spec_l1New.l0 k l h (i : Int)) (l, 0, h') := by
  intro d
  induction d with
  | zero =>
    intro i h hd
    exact ⟨h, Ev.step (fun _ => spec_l1New.l0.eq_2 ..) (ev_neg (by omega) (Ev.now _))⟩
  | succ d ih =>
    intro i h hd
    by_cases h4 : (i : Int) < 4000
    · obtain ⟨h', e⟩ := ih (i + 1) _ (by omega)
      refine ⟨h', Ev.step (fun _ => spec_l1New.l0.eq_2 ..) (ev_pos (by omega) (ev_pos h4 (ev_pos (by omega) ?_)))⟩
      rw [w64 (x := (i : Int) + 1) (by omega) (by omega)]
      exact e
    · exact ⟨h, Ev.step (fun _ => spec_l1New.l0.eq_2 ..) (ev_pos (by omega) (ev_neg h4 (Ev.now _)))⟩
theorem l1New_ev (l : List Int) (hl : l.length ≤ 1099511627776) : ∃ h, Ev (fun k => spec_l1New.f k l) (l, 0, h) := by
  unfold spec_l1New.f
  exact l1New_l0 l hl l.length 0 _ (by omega)
theorem and255 (y : Int) : 0 ≤ Go.bits .and .i64 y 255 ∧ Go.bits .and .i64 y 255 ≤ 255 := by
  have h : (BitVec.ofInt 64 y &&& BitVec.ofInt 64 255).toNat ≤ 255 := by
    rw [BitVec.toNat_and]
    exact Nat.le_trans Nat.and_le_right (by decide)
  have e : Go.bits .and .i64 y 255 = IntKind.i64.wrap ((BitVec.ofInt 64 y &&& BitVec.ofInt 64 255).toNat : Int) := rfl
  rw [e, IntKind.wrap_i64]
  omega
theorem l1Byte_some (b : List Int) (hb : b.length ≤ 1099511627776) (i h : Int) (h0 : 0 ≤ i) (h1 : i ≤ 1099511627776) : ∃ x i' h', spec_l1Byte.f b i h = some (x, i', h') ∧ 0 ≤ x ∧ x ≤ 255 ∧ 0 ≤ i' ∧ i' ≤ 1099511627776 := by
  unfold spec_l1Byte.f
  by_cases c : i < (b.length : Int)
  · rw [if_pos c, if_pos h0, w64 (x := i + 1) (by omega) (by omega)]
    exact ⟨_, _, _, rfl, (and255 _).1, (and255 _).2, by omega, by omega⟩
  · rw [if_neg c]
    exact ⟨_, _, _, rfl, (and255 _).1, (and255 _).2, h0, h1⟩
theorem l1Below_some (b : List Int) (hb : b.length ≤ 1099511627776) (i h n : Int) (h0 : 0 ≤ i) (h1 : i ≤ 1099511627776) : ∃ x i' h', spec_l1Below.f b i h n = some (x, i', h') ∧ 0 ≤ x ∧ (0 < n → x < n) ∧ (n ≤ 0 → x = 0) ∧ 0 ≤ i' ∧ i' ≤ 1099511627776 := by
  unfold spec_l1Below.f
  by_cases c : n ≤ 0
  · rw [if_pos c]
    exact ⟨_, _, _, rfl, by omega, fun h => by omega, fun _ => rfl, h0, h1⟩
  rw [if_neg c]
  by_cases c2 : n ≤ 256
  · rw [if_pos c2]
    obtain ⟨x, i', h', e, hx0, hx1, hi0, hi1⟩ := l1Byte_some b hb i h h0 h1
    rw [e, Option.bind_some, if_neg (by omega)]
    refine ⟨_, _, _, rfl, ?_, fun _ => ?_, fun h => by omega, hi0, hi1⟩
    · rw [Int.tmod_eq_emod_of_nonneg hx0]; exact Int.emod_nonneg _ (by omega)
    · rw [Int.tmod_eq_emod_of_nonneg hx0]; exact Int.emod_lt_of_pos _ (by omega)
  · rw [if_neg c2]
    obtain ⟨x, i', h', e, hx0, hx1, hi0, hi1⟩ := l1Byte_some b hb i h h0 h1
    rw [e, Option.bind_some]
    obtain ⟨y, i2, h2, e2, hy0, hy1, hi20, hi21⟩ := l1Byte_some b hb i' h' hi0 hi1
    rw [e2, Option.bind_some]
    obtain ⟨z, i3, h3, e3, hz0, hz1, hi30, hi31⟩ := l1Byte_some b hb i2 h2 hi20 hi21
    rw [e3, Option.bind_some, if_neg (by omega)]
    have ew : wrap64 ((wrap64 ((wrap64 (x * 65536)) + (wrap64 (y * 256)))) + z) = x * 65536 + y * 256 + z := by
      rw [w64 (x := x * 65536) (by omega) (by omega), w64 (x := y * 256) (by omega) (by omega), w64 (x := x * 65536 + y * 256) (by omega) (by omega), w64 (by omega) (by omega)]
    refine ⟨_, _, _, rfl, ?_, fun _ => ?_, fun h => by omega, hi30, hi31⟩
    · rw [ew, Int.tmod_eq_emod_of_nonneg (by omega)]; exact Int.emod_nonneg _ (by omega)
    · rw [ew, Int.tmod_eq_emod_of_nonneg (by omega)]; exact Int.emod_lt_of_pos _ (by omega)
theorem l1Once_some (b : List Int) (hb : b.length ≤ 1099511627776) (i h n : Int) (h0 : 0 ≤ i) (h1 : i ≤ 1099511627776) : ∃ x i' h', spec_l1Once.f b i h n = some (x, i', h') ∧ 0 ≤ i' ∧ i' ≤ 1099511627776 := by
  unfold spec_l1Once.f
  obtain ⟨x, i', h', e, _, _, _, hi0, hi1⟩ := l1Below_some b hb i h n h0 h1
  rw [e, Option.bind_some]
  exact ⟨_, _, _, rfl, hi0, hi1⟩
theorem l1Int_some (b : List Int) (hb : b.length ≤ 1099511627776) (i h : Int) (l : List Int) (hl : 0 < l.length) (h0 : 0 ≤ i) (h1 : i ≤ 1099511627776) : ∃ x i' h', spec_l1Int.f b i h l = some (x, i', h') ∧ x ∈ l ∧ 0 ≤ i' ∧ i' ≤ 1099511627776 := by
  unfold spec_l1Int.f
  obtain ⟨x, i', h', e, hx0, hx1, _, hi0, hi1⟩ := l1Below_some b hb i h (l.length : Int) h0 h1
  have hx := hx1 (by omega)
  rw [e, Option.bind_some, if_pos hx0, if_pos hx]
  refine ⟨_, _, _, rfl, ?_, hi0, hi1⟩
  obtain ⟨j, rfl⟩ := Int.eq_ofNat_of_zero_le hx0
  show rd l (j : Int) ∈ l
  rw [rd_at l j (by omega)]
  exact List.getElem_mem _
theorem l4Draw_some (b : List Int) (hb : b.length ≤ 1099511627776) (i h : Int) (h0 : 0 ≤ i) (h1 : i ≤ 1099511627776) : ∃ x y z i' h', spec_l4Draw.f b i h = some (x, y, z, i', h') ∧ (1 ≤ x ∧ x ≤ 3) ∧ (0 ≤ y ∧ y ≤ 2) ∧ (0 ≤ z ∧ z ≤ 2) ∧ 0 ≤ i' ∧ i' ≤ 1099511627776 := by
  unfold spec_l4Draw.f
  obtain ⟨x, i2, h2, e2, hx0, hx1, _, hi20, hi21⟩ := l1Below_some b hb i h 3 h0 h1
  obtain ⟨y, i3, h3, e3, hy0, hy1, _, hi30, hi31⟩ := l1Below_some b hb i2 h2 3 hi20 hi21
  obtain ⟨z, i4, h4, e4, hz0, hz1, _, hi40, hi41⟩ := l1Below_some b hb i3 h3 3 hi30 hi31
  have hx := hx1 (by omega)
  have hy := hy1 (by omega)
  have hz := hz1 (by omega)
  rw [e2, Option.bind_some, e3, Option.bind_some, e4, Option.bind_some, w64 (x := 1 + x) (by omega) (by omega)]
  exact ⟨_, _, _, _, _, rfl, by omega, by omega, by omega, hi40, hi41⟩
theorem l5Body_l0 (b : List Int) (hb : b.length ≤ 1099511627776) : ∀ (d : Nat) (out : List Int) (i h : Int), out.length + d ≤ 100 → (∀ x ∈ out, 0 ≤ x ∧ x ≤ 8) → 0 ≤ i → i ≤ 1099511627776 →
    ∃ (r : List Int) (i' h' : Int), Ev (fun k => spec_l5Body.l0 k out (d : Int) b i h) (r, i', h') ∧ r.length ≤ out.length + d ∧ (∀ x ∈ r, 0 ≤ x ∧ x ≤ 8) ∧ 0 ≤ i' ∧ i' ≤ 1099511627776 := by
  intro d
  induction d with
  | zero =>
    intro out i h hl hw h0 h1
    exact ⟨out, i, h, Ev.step (fun _ => spec_l5Body.l0.eq_2 ..) (ev_neg (by omega) (Ev.now _)), by omega, hw, h0, h1⟩
  | succ d ih =>
    intro out i h hl hw h0 h1
    obtain ⟨x, i2, h2, e2, hx0, hx1, _, hi0, hi1⟩ := l1Below_some b hb i h 9 h0 h1
    have hx := hx1 (by omega)
    obtain ⟨r, i', h', e, hr, hrw, hi20, hi21⟩ := ih (out ++ [x]) i2 h2 (by rw [List.length_append, List.length_singleton]; omega) (fun y hy => by
      rcases List.mem_append.1 hy with hy | hy
      · exact hw y hy
      · have := List.mem_singleton.1 hy
        omega) hi0 hi1
    rw [List.length_append, List.length_singleton] at hr
    refine ⟨r, i', h', Ev.step (fun _ => spec_l5Body.l0.eq_2 ..) (ev_pos (by omega) (ev_bind0 e2 (ev_pos (by omega) ?_))), by omega, hrw, hi20, hi21⟩
    rw [w64 (by omega) (by omega), show ((d + 1 : Nat) : Int) - 1 = (d : Int) by omega]
    exact e
theorem l5Body_ev (b : List Int) (hb : b.length ≤ 1099511627776) (i h : Int) (h0 : 0 ≤ i) (h1 : i ≤ 1099511627776) :
    ∃ (r : List Int) (i' h' : Int), Ev (fun k => spec_l5Body.f k b i h) (r, i', h') ∧ r.length ≤ 4 ∧ (∀ x ∈ r, 0 ≤ x ∧ x ≤ 8) ∧ 0 ≤ i' ∧ i' ≤ 1099511627776 := by
  unfold spec_l5Body.f
  obtain ⟨x, i2, h2, e2, hx0, hx1, _, hi0, hi1⟩ := l1Below_some b hb i h 5 h0 h1
  have hx := hx1 (by omega)
  obtain ⟨r, i', h', e, hr, hrw, hi20, hi21⟩ := l5Body_l0 b hb x.toNat [] i2 h2 (by simp only [List.length_nil]; omega) (fun y hy => by simp at hy) hi0 hi1
  rw [Int.toNat_of_nonneg hx0] at e
  rw [List.length_nil] at hr
  exact ⟨r, i', h', ev_bind0 e2 e, by omega, hrw, hi20, hi21⟩
theorem l5Draw_ev (b : List Int) (hb : b.length ≤ 1099511627776) (i h : Int) (h0 : 0 ≤ i) (h1 : i ≤ 1099511627776) :
    ∃ (kd : Int) (r : List Int) (x y z i' h' : Int), Ev (fun k => spec_l5Draw.f k b i h) (kd, r, x, y, z, i', h') ∧ (1 ≤ kd ∧ kd ≤ 4) ∧ r.length ≤ 4 ∧ (∀ u ∈ r, 0 ≤ u ∧ u ≤ 8) ∧
      ((kd = 3 ∧ r = [] ∧ (1 ≤ x ∧ x ≤ 3) ∧ (0 ≤ y ∧ y ≤ 2) ∧ (0 ≤ z ∧ z ≤ 2)) ∨ (kd ≠ 3 ∧ x = 0 ∧ y = 0 ∧ z = 0 ∧ (kd = 4 → r = []))) ∧ 0 ≤ i' ∧ i' ≤ 1099511627776 := by
  unfold spec_l5Draw.f
  obtain ⟨q, i2, h2, e2, hq0, hq1, _, hi0, hi1⟩ := l1Below_some b hb i h 6 h0 h1
  by_cases c0 : q = 0
  · obtain ⟨x, y, z, i3, h3, e3, hx, hy, hz, hi30, hi31⟩ := l4Draw_some b hb i2 h2 hi0 hi1
    exact ⟨3, [], x, y, z, i3, h3, ev_bind0 e2 (ev_pos c0 (ev_bind0 e3 (Ev.now _))), by omega, by simp, fun u hu => by simp at hu, .inl ⟨rfl, rfl, hx, hy, hz⟩, hi30, hi31⟩
  by_cases c1 : q = 1
  · exact ⟨4, [], 0, 0, 0, i2, h2, ev_bind0 e2 (ev_neg c0 (ev_pos c1 (Ev.now _))), by omega, by simp, fun u hu => by simp at hu, .inr ⟨by omega, rfl, rfl, rfl, fun _ => rfl⟩, hi0, hi1⟩
  obtain ⟨t, i3, h3, e3, ht0, ht1, _, hi30, hi31⟩ := l1Below_some b hb i2 h2 2 hi0 hi1
  have ht := ht1 (by omega)
  obtain ⟨r, i4, h4, e4, hr, hw, hi40, hi41⟩ := l5Body_ev b hb i3 h3 hi30 hi31
  refine ⟨1 + t, r, 0, 0, 0, i4, h4, ev_bind0 e2 (ev_neg c0 (ev_neg c1 (ev_bind0 e3 (Ev.bind e4 (ev_of ?_))))), by omega, hr, hw, .inr ⟨by omega, rfl, rfl, rfl, fun h => by omega⟩, hi40, hi41⟩
  rw [w64 (x := 1 + t) (by omega) (by omega)]
theorem l4Raw_some (b : List Int) (hb : b.length ≤ 1099511627776) (i h : Int) (h0 : 0 ≤ i) (h1 : i ≤ 1099511627776) : ∃ x i' h', spec_l4Raw.f b i h = some (x, i', h') ∧ (-9223372036854775808 ≤ x ∧ x ≤ 9223372036854775807) ∧ 0 ≤ i' ∧ i' ≤ 1099511627776 := by
  unfold spec_l4Raw.f
  obtain ⟨y, i2, h2, e2, hm, hi20, hi21⟩ := l1Int_some b hb i h [(-1), 0, 9, 10, 99, 100, 9223372036854775807, (-9223372036854775808)] (by decide) h0 h1
  rw [e2, Option.bind_some]
  simp only [List.mem_cons, List.not_mem_nil, or_false] at hm
  exact ⟨_, _, _, rfl, by show _ ≤ y ∧ y ≤ _; omega, hi20, hi21⟩
theorem l4Any_some (b : List Int) (hb : b.length ≤ 1099511627776) (i h : Int) (h0 : 0 ≤ i) (h1 : i ≤ 1099511627776) : ∃ x y z i' h', spec_l4Any.f b i h = some (x, y, z, i', h') ∧ (-9223372036854775808 ≤ x ∧ x ≤ 9223372036854775807) ∧ (-9223372036854775808 ≤ y ∧ y ≤ 9223372036854775807) ∧ (-9223372036854775808 ≤ z ∧ z ≤ 9223372036854775807) ∧ 0 ≤ i' ∧ i' ≤ 1099511627776 := by
  unfold spec_l4Any.f
  obtain ⟨x, y, z, i2, h2, e, hx, hy, hz, hi0, hi1⟩ := l4Draw_some b hb i h h0 h1
  obtain ⟨q, i3, h3, e3, _, _, _, hi30, hi31⟩ := l1Below_some b hb i2 h2 9 hi0 hi1
  obtain ⟨r, i4, h4, e4, hr, hi40, hi41⟩ := l4Raw_some b hb i3 h3 hi30 hi31
  rw [e, Option.bind_some, e3, Option.bind_some]
  by_cases c0 : q = 0
  · rw [if_pos c0, e4, Option.bind_some]
    exact ⟨_, _, _, _, _, rfl, hr, by show _ ≤ y ∧ y ≤ _; omega, by show _ ≤ z ∧ z ≤ _; omega, hi40, hi41⟩
  rw [if_neg c0]
  by_cases c1 : q = 1
  · rw [if_pos c1, e4, Option.bind_some]
    exact ⟨_, _, _, _, _, rfl, by show _ ≤ x ∧ x ≤ _; omega, hr, by show _ ≤ z ∧ z ≤ _; omega, hi40, hi41⟩
  rw [if_neg c1]
  by_cases c2 : q = 2
  · rw [if_pos c2, e4, Option.bind_some]
    exact ⟨_, _, _, _, _, rfl, by show _ ≤ x ∧ x ≤ _; omega, by show _ ≤ y ∧ y ≤ _; omega, hr, hi40, hi41⟩
  · rw [if_neg c2]
    exact ⟨_, _, _, _, _, rfl, by show _ ≤ x ∧ x ≤ _; omega, by show _ ≤ y ∧ y ≤ _; omega, by show _ ≤ z ∧ z ≤ _; omega, hi30, hi31⟩
theorem l5Any_ev (b : List Int) (hb : b.length ≤ 1099511627776) (i h : Int) (h0 : 0 ≤ i) (h1 : i ≤ 1099511627776) :
    ∃ (kd : Int) (r : List Int) (x y z i' h' : Int), Ev (fun k => spec_l5Any.f k b i h) (kd, r, x, y, z, i', h') ∧ r.length ≤ 7 ∧ 0 ≤ i' ∧ i' ≤ 1099511627776 := by
  unfold spec_l5Any.f
  obtain ⟨kd, r, x, y, z, i2, h2, e, _, hr, _, _, hi0, hi1⟩ := l5Draw_ev b hb i h h0 h1
  obtain ⟨q, i3, h3, e3, _, _, _, hi30, hi31⟩ := l1Below_some b hb i2 h2 9 hi0 hi1
  by_cases c0 : q = 0
  · obtain ⟨u, i4, h4, e4, _, hi40, hi41⟩ := l1Int_some b hb i3 h3 [0, 5, 3, 4] (by decide) hi30 hi31
    exact ⟨_, _, _, _, _, _, _, Ev.bind e (ev_bind0 e3 (ev_pos c0 (ev_bind0 e4 (Ev.now _)))), by show r.length ≤ _; omega, hi40, hi41⟩
  by_cases c1 : q = 1
  · obtain ⟨u, i4, h4, e4, _, hi40, hi41⟩ := l1Int_some b hb i3 h3 [(-1), 255, 256] (by decide) hi30 hi31
    exact ⟨_, _, _, _, _, _, _, Ev.bind e (ev_bind0 e3 (ev_neg c0 (ev_pos c1 (ev_bind0 e4 (ev_pos (show r.length < _ by omega) (Ev.now _)))))), by show (r ++ [u]).length ≤ _; rw [List.length_append, List.length_singleton]; omega, hi40, hi41⟩
  by_cases c2 : q = 2
  · exact ⟨_, _, _, _, _, _, _, Ev.bind e (ev_bind0 e3 (ev_neg c0 (ev_neg c1 (ev_pos c2 (Ev.now _))))), by show ([1, 2, 3, 4, 5, 6, 7] : List Int).length ≤ _; simp, hi30, hi31⟩
  by_cases c3 : q = 3
  · obtain ⟨u, v, s, i4, h4, e4, _, _, _, hi40, hi41⟩ := l4Any_some b hb i3 h3 hi30 hi31
    exact ⟨_, _, _, _, _, _, _, Ev.bind e (ev_bind0 e3 (ev_neg c0 (ev_neg c1 (ev_neg c2 (ev_pos c3 (ev_bind0 e4 (Ev.now _))))))), by show r.length ≤ _; omega, hi40, hi41⟩
  · exact ⟨_, _, _, _, _, _, _, Ev.bind e (ev_bind0 e3 (ev_neg c0 (ev_neg c1 (ev_neg c2 (ev_neg c3 (Ev.now _)))))), by show r.length ≤ _; omega, hi30, hi31⟩
theorem eqRes_ev (a0 : Int) (l : List Int) (a2 a3 a4 : Int) (b0 : Int) (m : List Int) (b2 b3 b4 : Int) (hl : l.length ≤ 9223372036854775807) : Ev (fun k => impl_EqualResources.f k a0 l a2 a3 a4 b0 m b2 b3 b4) (decide (a0 = b0 ∧ (a2 == b2 && (a3 == b3 && (a4 == b4))) = true ∧ l = m)) := by
  unfold impl_EqualResources.f
  by_cases h : a0 = b0
  · refine ev_pos h ?_
    by_cases h2 : (a2 == b2 && (a3 == b3 && (a4 == b4))) = true
    · refine ev_pos h2 ?_
      rw [show decide (a0 = b0 ∧ (a2 == b2 && (a3 == b3 && (a4 == b4))) = true ∧ l = m) = decide (l = m) from decide_eq_decide.2 ⟨fun w => w.2.2, fun w => ⟨h, h2, w⟩⟩]
      exact Ev.bind (slices_Equal_int_int_ev l m hl) (Ev.now _)
    · exact ev_neg h2 (ev_of (congrArg some (decide_eq_false (fun w => h2 w.2.1)).symm))
  · exact ev_neg h (ev_of (congrArg some (decide_eq_false (fun w => h w.1)).symm))
theorem sameInts_l0g (xs ys : List Int) (hl : xs.length = ys.length) (hn : xs.length ≤ 9223372036854775807) : ∀ (d i : Nat), i + d = xs.length → Ev (fun k => laws_sameInts.l0 k xs ys (i : Int)) (decide (xs.drop i = ys.drop i)) := by
  intro d
  induction d with
  | zero =>
    intro i hd
    refine Ev.step (fun _ => laws_sameInts.l0.eq_2 ..) (ev_neg (by omega) (ev_of ?_))
    rw [List.drop_eq_nil_of_le (by omega), List.drop_eq_nil_of_le (by omega)]
    rfl
  | succ d ih =>
    intro i hd
    refine Ev.step (fun _ => laws_sameInts.l0.eq_2 ..) (ev_pos (by omega) (ev_pos (by omega) (ev_pos (by omega) ?_)))
    rw [rd_at xs i (by omega), rd_at ys i (by omega), List.drop_eq_getElem_cons (show i < xs.length by omega), List.drop_eq_getElem_cons (show i < ys.length by omega)]
    by_cases he : xs[i]'(by omega) = ys[i]'(by omega)
    · refine ev_pos he ?_
      rw [w64 (by omega) (by omega)]
      have h := ih (i + 1) (by omega)
      simp only [he, List.cons.injEq, true_and]
      exact h
    · exact ev_neg he (ev_of (congrArg some (decide_eq_false (fun h => he (List.cons.inj h).1)).symm))
theorem sameInts_g (xs ys : List Int) (hn : xs.length ≤ 9223372036854775807) : Ev (fun k => laws_sameInts.f k xs ys) (decide (xs = ys)) := by
  unfold laws_sameInts.f
  by_cases hl : xs.length = ys.length
  · exact ev_pos (by omega) (sameInts_l0g xs ys hl hn xs.length 0 (by omega))
  · refine ev_neg (by omega) (ev_of ?_)
    rw [decide_eq_false (fun h => hl (by rw [h]))]
theorem resInts_same (a0 : Int) (l : List Int) (a2 a3 a4 : Int) (b0 : Int) (m : List Int) (b2 b3 b4 : Int) : decide (a0 = b0 ∧ (a2 == b2 && (a3 == b3 && (a4 == b4))) = true ∧ l = m) = decide (resInts a0 l a2 a3 a4 = resInts b0 m b2 b3 b4) := by
  refine decide_eq_decide.2 ⟨fun w => ?_, fun w => ?_⟩
  · obtain ⟨h0, h1, h2⟩ := w
    simp only [Bool.and_eq_true, beq_iff_eq] at h1
    obtain ⟨h3, h4, h5⟩ := h1
    subst h0 h2 h3 h4 h5
    rfl
  · unfold resInts at w
    simp only [List.cons_append, List.nil_append, List.cons.injEq] at w
    obtain ⟨h0, h1, h2, h3, _, h4⟩ := w
    refine ⟨h0, ?_, h4⟩
    simp [h1, h2, h3]
theorem resT_ne (k : Int) (l : List Int) (a b c : Int) : resT k l a b c ≠ [] := by
  have ht : ∀ (l : List Int) (s : List UInt8), s ≠ [] → txtFrom s l ≠ [] := by
    intro l
    induction l with
    | nil => exact fun s h => h
    | cons x l ih => exact fun s h => ih _ (by simp)
  unfold resT
  split
  · simp
  split
  · simp
  split
  · exact ht _ _ (by simp)
  · exact ht _ _ (by simp)
theorem drawRes_ev (l : List Int) (hl : l.length ≤ 1048576) : ∃ (kd : Int) (r : List Int) (x y z : Int), Ev (fun k => spec_DrawIsResource.f k l) (kd, r, x, y, z) ∧ r.length ≤ 7 := by
  unfold spec_DrawIsResource.f
  obtain ⟨h, e1⟩ := l1New_ev l (by omega)
  obtain ⟨kd, r, x, y, z, i2, h2, e2, hr, _, _⟩ := l5Any_ev l (by omega) 0 h (by omega) (by omega)
  exact ⟨kd, r, x, y, z, Ev.bind e1 (Ev.bind e2 (Ev.now _)), hr⟩
abbrev Two5 := Int × List Int × Int × Int × Int × Int × List Int × Int × Int × Int
theorem drawTwo_ev (l : List Int) (hl : l.length ≤ 1048576) : ∃ R : Two5, Ev (fun k => spec_DrawEqualResources.f k l) R ∧ R.2.1.length ≤ 7 ∧ R.2.2.2.2.2.2.1.length ≤ 7 := by
  unfold spec_DrawEqualResources.f
  obtain ⟨h, e1⟩ := l1New_ev l (by omega)
  obtain ⟨kd, r, x, y, z, i2, h2, e2, hr, hi0, hi1⟩ := l5Any_ev l (by omega) 0 h (by omega) (by omega)
  obtain ⟨q, i3, h3, e3, hi30, hi31⟩ := l1Once_some l (by omega) i2 h2 2 hi0 hi1
  by_cases c : q = true
  · have ec : spec_l5Copy.f kd r x y z = some (kd, r, x, y, z) := by
      unfold spec_l5Copy.f
      rw [Option.bind_some, if_pos (by simp; omega), List.nil_append]
    exact ⟨(kd, r, x, y, z, kd, r, x, y, z), Ev.bind e1 (Ev.bind e2 (ev_bind0 e3 (ev_pos c (ev_bind0 ec (Ev.now _))))), hr, hr⟩
  · obtain ⟨kd', r', x', y', z', i4, h4, e4, hr', _, _⟩ := l5Any_ev l (by omega) i3 h3 hi30 hi31
    exact ⟨(kd, r, x, y, z, kd', r', x', y', z'), Ev.bind e1 (Ev.bind e2 (ev_bind0 e3 (ev_neg c (Ev.bind e4 (Ev.now _))))), hr, hr'⟩
theorem resources_j0 (l : List Int) (hl : l.length ≤ 1048576) : Ev (fun k => laws_FnResources.j0 k l false) true := by
  obtain ⟨R, e, h1, h2⟩ := drawTwo_ev l hl
  refine Ev.step (fun _ => laws_FnResources.j0.eq_2 ..) (ev_neg (by decide) (Ev.bind e ?_))
  refine Ev.bind (eqRes_ev _ _ _ _ _ _ _ _ _ _ (by omega)) (ev_bind0 (impl_ResourceInts_val _ _ _ _ _ (by omega)) (ev_bind0 (impl_ResourceInts_val _ _ _ _ _ (by omega)) (Ev.bind (sameInts_g _ _ (by rw [resInts_len]; omega)) ?_)))
  rw [resInts_same]
  refine ev_pos (by simp) (Ev.bind (eqRes_ev _ _ _ _ _ _ _ _ _ _ (by omega)) (ev_of ?_))
  exact congrArg some (decide_eq_true ⟨rfl, by simp, rfl⟩)
theorem FnResources : ∀ (x0 : List Int), (x0.length ≤ 9223372036854775807 ∧ ∀ y ∈ x0, (Lit.int .u8 y).wf = true) → ∃ k, laws_FnResources.f k x0 = some true := by
  intro l _
  refine Ev.rounds (g := fun k => laws_FnResources.f k l) ?_
  unfold laws_FnResources.f
  refine ev_bind0 rfl ?_
  by_cases hb : (l.length : Int) > 1048576
  · exact ev_pos (decide_eq_true hb) (Ev.now true)
  refine ev_neg (fun w => hb (of_decide_eq_true w)) ?_
  obtain ⟨kd, r, x, y, z, e, hr⟩ := drawRes_ev l (by omega)
  refine Ev.bind e ?_
  have tail : Ev (fun k => (impl_SizeOf.f kd r x y z).bind fun t328 => (if t328 = (wrap64 ((r.length : Int) + 1)) then ((impl_ResourceInts.f kd r x y z).bind fun t329 => (laws_FnResources.j0 k l ((t329.length : Int) != (wrap64 ((r.length : Int) + 5))))) else (laws_FnResources.j0 k l true))) true := by
    refine ev_bind0 rfl (ev_pos rfl (ev_bind0 (impl_ResourceInts_val _ _ _ _ _ (by omega)) ?_))
    rw [resInts_len, w64 (by omega) (by omega), show (((r.length + 5 : Nat) : Int) != ((r.length : Int) + 5)) = false by simp]
    exact resources_j0 l (by omega)
  by_cases h : isRes kd r x y z = true
  · refine Ev.bind (impl_ResourceText_yes kd r x y z (by omega) h) (Ev.bind (impl_IsResource_ev kd r x y z (by omega)) (ev_neg ?_ tail))
    rw [bl_toList, h]
    simp [resT_ne]
  · refine Ev.bind (impl_ResourceText_no kd r x y z (by omega) h) (Ev.bind (impl_IsResource_ev kd r x y z (by omega)) (ev_neg ?_ tail))
    rw [bl_toList, Bool.eq_false_iff.2 h]
    simp

end Go.Proofs.YtgcidlnhgpjdpadDoor.Pure
