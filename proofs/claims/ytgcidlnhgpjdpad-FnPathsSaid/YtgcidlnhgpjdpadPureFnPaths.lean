/- The pure statement behind the law FnPaths: over numbers and lists the law answers true, at every input that the row's bounds let in. -/
import Derived.Test.YtgcidlnhgpjdpadQFnPathsx6
import Derived.Test.YtgcidlnhgpjdpadQFnPathsg
namespace Go.Proofs.Ytgcidlnhgpjdpad.Pure
open Go Go.RowKit Go.Proofs.Ytgcidlnhgpjdpad.QFnPaths Go.Proofs.YtgcidlnhgpjdpadW.PrintWords Go.Proofs.YtgcidlnhgpjdpadW.PrintLast Go.Proofs.YtgcidlnhgpjdpadW.PrintMore
set_option linter.unusedVariables false
set_option linter.unusedSimpArgs false
set_option maxRecDepth 100000

theorem w64 {x : Int} (h0 : -9223372036854775808 ≤ x) (h1 : x ≤ 9223372036854775807) : wrap64 x = x := by unfold wrap64; omega
theorem ev_pos {α : Type} {c : Prop} [Decidable c] {g f : Nat → Option α} {r : α} (h : c) (k : Ev g r) : Ev (fun n => if c then g n else f n) r := by
  obtain ⟨K, hK⟩ := k
  exact ⟨K, fun n hn => (if_pos h).trans (hK n hn)⟩
theorem ev_neg {α : Type} {c : Prop} [Decidable c] {g f : Nat → Option α} {r : α} (h : ¬ c) (k : Ev f r) : Ev (fun n => if c then g n else f n) r := by
  obtain ⟨K, hK⟩ := k
  exact ⟨K, fun n hn => (if_neg h).trans (hK n hn)⟩
theorem ev_bind0 {α β : Type} {o : Option α} {f : Nat → α → Option β} {a : α} {r : β} (h : o = some a) (k : Ev (fun n => f n a) r) : Ev (fun n => o.bind (f n)) r := by
  subst h
  exact k
theorem ev_of {α : Type} {o : Option α} {r : α} (h : o = some r) : Ev (fun _ => o) r := ⟨0, fun _ _ => h⟩
theorem rd_at (xs : List Int) (i : Nat) (h : i < xs.length) : rd xs (i : Int) = xs[i] := by
  unfold rd
  rw [Int.toNat_natCast, List.getD_eq_getElem?_getD, List.getElem?_eq_getElem h]
  rfl
theorem l1In_val (a b c : Int) : spec_l1In.f a b c = some (decide (b ≤ a ∧ a ≤ c)) := by
  unfold spec_l1In.f
  by_cases h : a ≥ b
  · rw [if_pos h]; simp [h]
  · rw [if_neg h]; simp [h]
theorem inRange_val (a b c : Int) : impl_InRange.f a b c = some (decide (b ≤ a ∧ a ≤ c)) := by
  unfold impl_InRange.f
  by_cases h : b ≤ a
  · rw [if_pos h]; simp [h]
  · rw [if_neg h]; simp [h]
theorem tmod_twice (a b : Int) (h1 : 1 ≤ b) (h2 : b ≤ 1000000000000) : Int.tmod (wrap64 (Int.tmod a b + b)) b = a % b := by
  have hlt : Int.tmod a b < b := Int.tmod_lt_of_pos a (by omega)
  have hgt : -b < Int.tmod a b := by
    have h := Int.tmod_lt_of_pos (-a) (show 0 < b by omega)
    rw [Int.neg_tmod] at h
    omega
  rw [w64 (by omega) (by omega), Int.tmod_eq_emod_of_nonneg (by omega), Int.add_emod_right]
  have e : Int.tmod a b = a - b * (a.tdiv b) := Int.tmod_def a b
  rw [e, Int.sub_mul_emod_self_left]
theorem spec_Mod_val (a b : Int) (h1 : 1 ≤ b) (h2 : b ≤ 1000000000000) : spec_Mod.f a b = some (a % b) := by
  unfold spec_Mod.f
  rw [l1In_val]
  simp only [Option.bind_some, h1, h2, and_self, decide_true, if_true]
  rw [if_neg (by omega), tmod_twice a b h1 h2]
theorem impl_Mod_val (a b : Int) (h1 : 1 ≤ b) (h2 : b ≤ 1000000000000) : impl_Mod.f a b = some (a % b) := by
  unfold impl_Mod.f
  rw [inRange_val]
  simp only [Option.bind_some, h1, h2, and_self, decide_true, if_true]
  rw [if_neg (by omega), tmod_twice a b h1 h2]
def hstep (h v : Int) : Int := (h * 1000003 + v % 2147483647 + 13) % 2147483647
def hashOf (l : List Int) : Int := l.foldl hstep 11
theorem hstep_range (h v : Int) : 0 ≤ hstep h v ∧ hstep h v < 2147483647 := by unfold hstep; omega
theorem hfold_range (l : List Int) : ∀ h : Int, 0 ≤ h → h < 2147483647 → 0 ≤ l.foldl hstep h ∧ l.foldl hstep h < 2147483647 := by
  induction l with
  | nil => intro h h0 h1; exact ⟨h0, h1⟩
  | cons v l ih => intro h _ _; exact ih _ (hstep_range h v).1 (hstep_range h v).2
theorem hashOf_range (l : List Int) : 0 ≤ hashOf l ∧ hashOf l < 2147483647 := hfold_range l 11 (by omega) (by omega)
theorem hstep_wrap (h v : Int) (h0 : 0 ≤ h) (h1 : h < 2147483647) : Int.tmod (wrap64 ((wrap64 ((wrap64 (h * 1000003)) + v % 2147483647)) + 13)) 2147483647 = hstep h v := by
  have e1 : wrap64 (h * 1000003) = h * 1000003 := w64 (by omega) (by omega)
  have e2 : wrap64 (h * 1000003 + v % 2147483647) = h * 1000003 + v % 2147483647 := w64 (by omega) (by omega)
  rw [e1, e2, w64 (by omega) (by omega), Int.tmod_eq_emod_of_nonneg (by omega)]
  rfl
theorem spec_Hash_l0 (xs : List Int) (hn : xs.length ≤ 4611686018427387904) : ∀ (d i : Nat) (h : Int), i + d = xs.length → 0 ≤ h → h < 2147483647 → Ev (fun k => spec_Hash.l0 k xs h (i : Int)) ((xs.drop i).foldl hstep h) := by
  intro d
  induction d with
  | zero =>
    intro i h hd h0 h1
    refine Ev.step (fun _ => spec_Hash.l0.eq_2 ..) (ev_neg (by omega) (ev_of ?_))
    rw [List.drop_eq_nil_of_le (by omega)]
    rfl
  | succ d ih =>
    intro i h hd h0 h1
    refine Ev.step (fun _ => spec_Hash.l0.eq_2 ..) (ev_pos (by omega) (ev_pos (by omega) (ev_bind0 (spec_Mod_val _ _ (by omega) (by omega)) ?_)))
    rw [hstep_wrap h _ h0 h1, w64 (by omega) (by omega), List.drop_eq_getElem_cons (show i < xs.length by omega), List.foldl_cons, ← rd_at xs i (by omega)]
    exact ih (i + 1) _ (by omega) (hstep_range _ _).1 (hstep_range _ _).2
theorem spec_Hash_ev (xs : List Int) (hn : xs.length ≤ 4611686018427387904) : Ev (fun k => spec_Hash.f k xs) (hashOf xs) := by
  unfold spec_Hash.f
  exact spec_Hash_l0 xs hn xs.length 0 11 (by omega) (by omega) (by omega)
theorem impl_Hash_l0 (xs : List Int) (hn : xs.length ≤ 4611686018427387904) : ∀ (d i : Nat) (h : Int), i + d = xs.length → 0 ≤ h → h < 2147483647 → Ev (fun k => impl_Hash.l0 k h xs (xs.length : Int) (i : Int)) ((xs.drop i).foldl hstep h) := by
  intro d
  induction d with
  | zero =>
    intro i h hd h0 h1
    refine Ev.step (fun _ => impl_Hash.l0.eq_2 ..) (ev_neg (by omega) (ev_of ?_))
    rw [List.drop_eq_nil_of_le (by omega)]
    rfl
  | succ d ih =>
    intro i h hd h0 h1
    refine Ev.step (fun _ => impl_Hash.l0.eq_2 ..) (ev_pos (by omega) (ev_pos (by omega) (ev_pos (by omega) (ev_bind0 (impl_Mod_val _ _ (by omega) (by omega)) ?_))))
    rw [hstep_wrap h _ h0 h1, w64 (by omega) (by omega), List.drop_eq_getElem_cons (show i < xs.length by omega), List.foldl_cons, ← rd_at xs i (by omega)]
    exact ih (i + 1) _ (by omega) (hstep_range _ _).1 (hstep_range _ _).2
theorem impl_Hash_ev (xs : List Int) (hn : xs.length ≤ 4611686018427387904) : Ev (fun k => impl_Hash.f k xs) (hashOf xs) := by
  unfold impl_Hash.f
  exact impl_Hash_l0 xs hn xs.length 0 11 (by omega) (by omega) (by omega)
theorem half_val (n : Nat) (h : n ≤ 4611686018427387904) : wrap64 (Int.tdiv (wrap64 ((n : Int) + 1)) 2) = (((n + 1) / 2 : Nat) : Int) := by
  rw [w64 (x := (n : Int) + 1) (by omega) (by omega), Int.tdiv_eq_ediv_of_nonneg (by omega), w64 (by omega) (by omega)]
  omega
theorem at_val (a b : Int) : impl_at.f a b = some (decide (0 ≤ a ∧ a < b)) := by
  unfold impl_at.f
  by_cases h : a ≥ 0
  · rw [if_pos h]; simp [h]
  · rw [if_neg h]; simp [h]
def rootOf (l : List Int) : Int :=
  if l.length = 0 then 0 else if l.length = 1 then rd l 0 else hashOf [rootOf (l.take ((l.length + 1) / 2)), rootOf (l.drop ((l.length + 1) / 2))]
termination_by l.length
decreasing_by
  · rw [List.length_take]; omega
  · rw [List.length_drop]; omega
theorem rootOf_nil (l : List Int) (h : l.length = 0) : rootOf l = 0 := by rw [rootOf, if_pos h]
theorem rootOf_one (l : List Int) (h : l.length = 1) : rootOf l = rd l 0 := by rw [rootOf, if_neg (by omega), if_pos h]
theorem rootOf_more (l : List Int) (h : 2 ≤ l.length) : rootOf l = hashOf [rootOf (l.take ((l.length + 1) / 2)), rootOf (l.drop ((l.length + 1) / 2))] := by rw [rootOf, if_neg (by omega), if_neg (by omega)]
theorem spec_RootOf_le : ∀ (n : Nat) (l : List Int), l.length ≤ n → l.length ≤ 4611686018427387904 → Ev (fun k => spec_RootOf.f k l) (rootOf l) := by
  intro n
  induction n with
  | zero =>
    intro l h hb
    refine Ev.step (fun _ => spec_RootOf.f.eq_2 ..) (ev_pos (by omega) (ev_of ?_))
    rw [rootOf_nil l (by omega)]
  | succ n ih =>
    intro l h hb
    refine Ev.step (fun _ => spec_RootOf.f.eq_2 ..) ?_
    by_cases h0 : l.length = 0
    · refine ev_pos (by omega) (ev_of ?_)
      rw [rootOf_nil l h0]
    refine ev_neg (by omega) ?_
    by_cases h1 : l.length = 1
    · refine ev_pos (by omega) (ev_pos (by omega) (ev_of ?_))
      rw [rootOf_one l h1]
    refine ev_neg (by omega) ?_
    rw [half_val _ hb, Int.toNat_natCast]
    refine ev_pos (by omega) (ev_pos (by omega) ?_)
    refine Ev.bind (ih _ (by rw [List.length_take]; omega) (by rw [List.length_take]; omega)) ?_
    refine Ev.bind (ih _ (by rw [List.length_drop]; omega) (by rw [List.length_drop]; omega)) ?_
    rw [rootOf_more l (by omega)]
    exact Ev.bind (spec_Hash_ev _ (by simp)) (Ev.now _)
theorem spec_RootOf_ev (l : List Int) (hb : l.length ≤ 4611686018427387904) : Ev (fun k => spec_RootOf.f k l) (rootOf l) := spec_RootOf_le l.length l (Nat.le_refl _) hb
theorem impl_RootOf_le : ∀ (n : Nat) (l : List Int), l.length ≤ n → l.length ≤ 4611686018427387904 → Ev (fun k => impl_RootOf.f k l) (rootOf l) := by
  intro n
  induction n with
  | zero =>
    intro l h hb
    refine Ev.step (fun _ => impl_RootOf.f.eq_2 ..) (ev_pos (by omega) (ev_of ?_))
    rw [rootOf_nil l (by omega)]
  | succ n ih =>
    intro l h hb
    refine Ev.step (fun _ => impl_RootOf.f.eq_2 ..) ?_
    by_cases h0 : l.length = 0
    · refine ev_pos (by omega) (ev_of ?_)
      rw [rootOf_nil l h0]
    refine ev_neg (by omega) ?_
    by_cases h1 : l.length = 1
    · refine ev_pos (by omega) (ev_pos (by omega) (ev_of ?_))
      rw [rootOf_one l h1]
    refine ev_neg (by omega) ?_
    rw [half_val _ hb, Int.toNat_natCast]
    refine ev_pos (by omega) (ev_pos (by omega) ?_)
    refine Ev.bind (ih _ (by rw [List.length_take]; omega) (by rw [List.length_take]; omega)) ?_
    refine Ev.bind (ih _ (by rw [List.length_drop]; omega) (by rw [List.length_drop]; omega)) ?_
    rw [rootOf_more l (by omega)]
    exact Ev.bind (impl_Hash_ev _ (by simp)) (Ev.now _)
theorem impl_RootOf_ev (l : List Int) (hb : l.length ≤ 4611686018427387904) : Ev (fun k => impl_RootOf.f k l) (rootOf l) := impl_RootOf_le l.length l (Nat.le_refl _) hb
def pathTo (l : List Int) (i : Nat) : List Int :=
  if l.length < 2 then [] else
  if i < (l.length + 1) / 2 then pathTo (l.take ((l.length + 1) / 2)) i ++ [rootOf (l.drop ((l.length + 1) / 2))]
  else pathTo (l.drop ((l.length + 1) / 2)) (i - (l.length + 1) / 2) ++ [rootOf (l.take ((l.length + 1) / 2))]
termination_by l.length
decreasing_by
  · rw [List.length_take]; omega
  · rw [List.length_drop]; omega
theorem pathTo_nil (l : List Int) (i : Nat) (h : l.length < 2) : pathTo l i = [] := by rw [pathTo, if_pos h]
theorem pathTo_left (l : List Int) (i : Nat) (h : ¬ l.length < 2) (hi : i < (l.length + 1) / 2) : pathTo l i = pathTo (l.take ((l.length + 1) / 2)) i ++ [rootOf (l.drop ((l.length + 1) / 2))] := by rw [pathTo, if_neg h, if_pos hi]
theorem pathTo_right (l : List Int) (i : Nat) (h : ¬ l.length < 2) (hi : ¬ i < (l.length + 1) / 2) : pathTo l i = pathTo (l.drop ((l.length + 1) / 2)) (i - (l.length + 1) / 2) ++ [rootOf (l.take ((l.length + 1) / 2))] := by rw [pathTo, if_neg h, if_neg hi]
theorem pathTo_len : ∀ (n : Nat) (l : List Int) (i : Nat), l.length ≤ n → (pathTo l i).length ≤ l.length := by
  intro n
  induction n with
  | zero => intro l i h; rw [pathTo_nil l i (by omega)]; simp
  | succ n ih =>
    intro l i h
    by_cases h2 : l.length < 2
    · rw [pathTo_nil l i h2]; simp
    · by_cases hi : i < (l.length + 1) / 2
      · have := ih (l.take ((l.length + 1) / 2)) i (by rw [List.length_take]; omega)
        rw [List.length_take] at this
        rw [pathTo_left l i h2 hi, List.length_append, List.length_singleton]
        omega
      · have := ih (l.drop ((l.length + 1) / 2)) (i - (l.length + 1) / 2) (by rw [List.length_drop]; omega)
        rw [List.length_drop] at this
        rw [pathTo_right l i h2 hi, List.length_append, List.length_singleton]
        omega
def pathAt (l : List Int) (a : Int) : List Int := if 0 ≤ a ∧ a < (l.length : Int) then pathTo l a.toNat else []
theorem spec_PathTo_le : ∀ (n : Nat) (l : List Int) (i : Nat), l.length ≤ n → l.length ≤ 1099511627776 → i < l.length → Ev (fun k => spec_PathTo.f k l (i : Int)) (pathTo l i) := by
  intro n
  induction n with
  | zero => intro l i h hb hi; omega
  | succ n ih =>
    intro l i h hb hi
    refine Ev.step (fun _ => spec_PathTo.f.eq_2 ..) (ev_bind0 rfl (ev_bind0 (l1In_val _ _ _) (ev_pos ?_ ?_)))
    · rw [w64 (by omega) (by omega)]
      exact decide_eq_true (by omega)
    refine Ev.step (fun _ => spec_PathTo.j0.eq_2 ..) ?_
    by_cases h2 : l.length < 2
    · rw [pathTo_nil l i h2]
      exact ev_pos (decide_eq_true (by omega)) (Ev.now _)
    refine ev_neg (by simp only [decide_eq_true_eq]; omega) ?_
    rw [half_val _ (by omega), Int.toNat_natCast]
    by_cases hlt : i < (l.length + 1) / 2
    · rw [pathTo_left l i h2 hlt]
      refine ev_pos (by omega) (ev_pos (by omega) (ev_pos (by omega) ?_))
      refine Ev.bind (ih _ i (by rw [List.length_take]; omega) (by rw [List.length_take]; omega) (by rw [List.length_take]; omega)) ?_
      refine Ev.bind (spec_RootOf_ev _ (by rw [List.length_drop]; omega)) (ev_pos ?_ (Ev.now _))
      have := pathTo_len _ (l.take ((l.length + 1) / 2)) i (Nat.le_refl _)
      rw [List.length_take] at this
      omega
    · rw [pathTo_right l i h2 hlt]
      refine ev_neg (by omega) (ev_pos (by omega) (ev_pos (by omega) ?_))
      rw [w64 (by omega) (by omega), show (i : Int) - (((l.length + 1) / 2 : Nat) : Int) = ((i - (l.length + 1) / 2 : Nat) : Int) by omega]
      refine Ev.bind (ih _ _ (by rw [List.length_drop]; omega) (by rw [List.length_drop]; omega) (by rw [List.length_drop]; omega)) ?_
      refine Ev.bind (spec_RootOf_ev _ (by rw [List.length_take]; omega)) (ev_pos ?_ (Ev.now _))
      have := pathTo_len _ (l.drop ((l.length + 1) / 2)) (i - (l.length + 1) / 2) (Nat.le_refl _)
      rw [List.length_drop] at this
      omega
theorem spec_PathTo_ev (l : List Int) (a : Int) (hb : l.length ≤ 1099511627776) : Ev (fun k => spec_PathTo.f k l a) (pathAt l a) := by
  unfold pathAt
  by_cases h : 0 ≤ a ∧ a < (l.length : Int)
  · rw [if_pos h]
    have e := spec_PathTo_le l.length l a.toNat (Nat.le_refl _) hb (by omega)
    rw [Int.toNat_of_nonneg h.1] at e
    exact e
  · rw [if_neg h]
    refine Ev.step (fun _ => spec_PathTo.f.eq_2 ..) (ev_bind0 rfl (ev_bind0 (l1In_val _ _ _) (ev_neg ?_ ?_)))
    · rw [w64 (by omega) (by omega)]
      simp only [decide_eq_true_eq]
      omega
    · exact Ev.step (fun _ => spec_PathTo.j0.eq_2 ..) (ev_pos rfl (Ev.now _))
theorem impl_PathTo_le : ∀ (n : Nat) (l : List Int) (i : Nat), l.length ≤ n → l.length ≤ 1099511627776 → i < l.length → Ev (fun k => impl_PathTo.f k l (i : Int)) (pathTo l i) := by
  intro n
  induction n with
  | zero => intro l i h hb hi; omega
  | succ n ih =>
    intro l i h hb hi
    refine Ev.step (fun _ => impl_PathTo.f.eq_2 ..) (ev_bind0 (at_val _ _) (ev_pos (decide_eq_true (by omega)) ?_))
    refine Ev.step (fun _ => impl_PathTo.j0.eq_2 ..) ?_
    by_cases h2 : l.length < 2
    · rw [pathTo_nil l i h2]
      exact ev_pos (beq_iff_eq.2 (by omega)) (Ev.now _)
    refine ev_neg (by simp only [beq_iff_eq]; omega) ?_
    rw [half_val _ (by omega), Int.toNat_natCast]
    by_cases hlt : i < (l.length + 1) / 2
    · rw [pathTo_left l i h2 hlt]
      refine ev_pos (by omega) (ev_pos (by omega) (ev_pos (by omega) ?_))
      refine Ev.bind (ih _ i (by rw [List.length_take]; omega) (by rw [List.length_take]; omega) (by rw [List.length_take]; omega)) ?_
      refine Ev.bind (impl_RootOf_ev _ (by rw [List.length_drop]; omega)) (ev_pos ?_ (Ev.now _))
      have := pathTo_len _ (l.take ((l.length + 1) / 2)) i (Nat.le_refl _)
      rw [List.length_take] at this
      omega
    · rw [pathTo_right l i h2 hlt]
      refine ev_neg (by omega) (ev_pos (by omega) (ev_pos (by omega) ?_))
      rw [w64 (by omega) (by omega), show (i : Int) - (((l.length + 1) / 2 : Nat) : Int) = ((i - (l.length + 1) / 2 : Nat) : Int) by omega]
      refine Ev.bind (ih _ _ (by rw [List.length_drop]; omega) (by rw [List.length_drop]; omega) (by rw [List.length_drop]; omega)) ?_
      refine Ev.bind (impl_RootOf_ev _ (by rw [List.length_take]; omega)) (ev_pos ?_ (Ev.now _))
      have := pathTo_len _ (l.drop ((l.length + 1) / 2)) (i - (l.length + 1) / 2) (Nat.le_refl _)
      rw [List.length_drop] at this
      omega
theorem impl_PathTo_ev (l : List Int) (a : Int) (hb : l.length ≤ 1099511627776) : Ev (fun k => impl_PathTo.f k l a) (pathAt l a) := by
  unfold pathAt
  by_cases h : 0 ≤ a ∧ a < (l.length : Int)
  · rw [if_pos h]
    have e := impl_PathTo_le l.length l a.toNat (Nat.le_refl _) hb (by omega)
    rw [Int.toNat_of_nonneg h.1] at e
    exact e
  · rw [if_neg h]
    refine Ev.step (fun _ => impl_PathTo.f.eq_2 ..) (ev_bind0 (at_val _ _) (ev_neg (by simp only [decide_eq_true_eq]; exact h) ?_))
    exact Ev.step (fun _ => impl_PathTo.j0.eq_2 ..) (ev_pos rfl (Ev.now _))
def sidesOf (n i : Nat) : List Bool :=
  if n ≤ 1 then [] else
  if (n + 1) / 2 ≤ i then true :: sidesOf (n - (n + 1) / 2) (i - (n + 1) / 2) else false :: sidesOf ((n + 1) / 2) i
termination_by n
theorem sidesOf_nil (n i : Nat) (h : n ≤ 1) : sidesOf n i = [] := by rw [sidesOf, if_pos h]
theorem sidesOf_right (n i : Nat) (h : ¬ n ≤ 1) (hi : (n + 1) / 2 ≤ i) : sidesOf n i = true :: sidesOf (n - (n + 1) / 2) (i - (n + 1) / 2) := by rw [sidesOf, if_neg h, if_pos hi]
theorem sidesOf_left (n i : Nat) (h : ¬ n ≤ 1) (hi : ¬ (n + 1) / 2 ≤ i) : sidesOf n i = false :: sidesOf ((n + 1) / 2) i := by rw [sidesOf, if_neg h, if_neg hi]
def turnStep (d : Int) (p : Int × Bool) : Int := if p.2 = true then hashOf [p.1, d] else hashOf [d, p.1]
def climb : List Bool → List Int → Int → Int
  | [], _, d => d
  | s :: r, p, d => turnStep (climb r p.dropLast d) (rd p ((p.length - 1 : Nat) : Int), s)
theorem climb_fold : ∀ (w : List Bool) (p : List Int) (d : Int), p.length = w.length → (p.zip w.reverse).foldl turnStep d = climb w p d := by
  intro w
  induction w with
  | nil => intro p d h; simp [climb]
  | cons s r ih =>
    intro p d h
    have hp : p ≠ [] := by intro e; rw [e] at h; simp at h
    have e : p = p.dropLast ++ [p.getLast hp] := (List.dropLast_concat_getLast hp).symm
    have hl : p.dropLast.length = r.length := by rw [List.length_dropLast, h]; simp
    have hg : rd p ((p.length - 1 : Nat) : Int) = p.getLast hp := by
      rw [rd_at p _ (by have := List.length_pos_iff.2 hp; omega), List.getLast_eq_getElem]
    rw [climb, hg, ← ih p.dropLast d hl]
    conv => lhs; rw [e]
    rw [List.reverse_cons, List.zip_append (by rw [hl, List.length_reverse]), List.foldl_append]
    rfl
theorem impl_sides_l0 : ∀ (m n i : Nat) (out : List Bool), n ≤ m → n ≤ 1073741824 → i ≤ 1073741824 → out.length + n ≤ 4294967296 → Ev (fun k => impl_sides.l0 k (n : Int) (i : Int) out) (out ++ sidesOf n i) := by
  intro m
  induction m with
  | zero =>
    intro n i out h hn hi ho
    refine Ev.step (fun _ => impl_sides.l0.eq_2 ..) (ev_neg (by omega) (ev_of ?_))
    rw [sidesOf_nil n i (by omega), List.append_nil]
  | succ m ih =>
    intro n i out h hn hi ho
    refine Ev.step (fun _ => impl_sides.l0.eq_2 ..) ?_
    by_cases h1 : n ≤ 1
    · refine ev_neg (by omega) (ev_of ?_)
      rw [sidesOf_nil n i h1, List.append_nil]
    refine ev_pos (by omega) (ev_pos (by omega) (ev_bind0 rfl ?_))
    rw [half_val n (by omega)]
    by_cases hs : (n + 1) / 2 ≤ i
    · refine ev_pos (by omega) ?_
      have e := ih (n - (n + 1) / 2) (i - (n + 1) / 2) (out ++ [true]) (by omega) (by omega) (by omega) (by simp only [List.length_append, List.length_singleton]; omega)
      rw [w64 (by omega) (by omega), w64 (by omega) (by omega), show (n : Int) - (((n + 1) / 2 : Nat) : Int) = ((n - (n + 1) / 2 : Nat) : Int) by omega, show (i : Int) - (((n + 1) / 2 : Nat) : Int) = ((i - (n + 1) / 2 : Nat) : Int) by omega,
        show decide ((i : Int) ≥ (((n + 1) / 2 : Nat) : Int)) = true from decide_eq_true (by omega), sidesOf_right n i h1 hs]
      rw [List.append_assoc, List.singleton_append] at e
      exact e
    · refine ev_neg (by omega) ?_
      have e := ih ((n + 1) / 2) i (out ++ [false]) (by omega) (by omega) (by omega) (by simp only [List.length_append, List.length_singleton]; omega)
      rw [show decide ((i : Int) ≥ (((n + 1) / 2 : Nat) : Int)) = false from decide_eq_false (by omega), sidesOf_left n i h1 hs]
      rw [List.append_assoc, List.singleton_append] at e
      exact e
theorem impl_sides_ev (n i : Nat) (hn : n ≤ 1073741824) (hi : i ≤ 1073741824) : Ev (fun k => impl_sides.f k (n : Int) (i : Int)) (sidesOf n i) := by
  unfold impl_sides.f
  have e := impl_sides_l0 n n i [] (Nat.le_refl _) hn hi (by simp only [List.length_nil]; omega)
  rw [List.nil_append] at e
  exact e
def depthOf (a b : Int) : Int := if 1 ≤ a ∧ a ≤ 1000 ∧ 0 ≤ b ∧ b < a then ((sidesOf a.toNat b.toNat).length : Int) else -1
def checkPath (root n i d : Int) (p : List Int) : Bool :=
  decide (1 ≤ n ∧ n ≤ 1000 ∧ 0 ≤ i ∧ i < n ∧ p.length = (sidesOf n.toNat i.toNat).length ∧ climb (sidesOf n.toNat i.toNat) p d = root)
theorem impl_CheckPath_l0 (root : Int) (w : List Bool) (p : List Int) (hw : p.length = w.length) (hb : p.length ≤ 1073741824) : ∀ (e j : Nat) (d : Int), j + e = p.length → Ev (fun k => impl_CheckPath.l0 k root d w p (p.length : Int) (j : Int)) (decide (((p.zip w.reverse).drop j).foldl turnStep d = root)) := by
  intro e
  induction e with
  | zero =>
    intro j d h
    refine Ev.step (fun _ => impl_CheckPath.l0.eq_2 ..) (ev_neg (by omega) (ev_of ?_))
    rw [List.drop_eq_nil_of_le (by rw [List.length_zip, List.length_reverse]; omega), List.foldl_nil]
    rw [Option.some.injEq, Bool.eq_iff_iff]
    simp
  | succ e ih =>
    intro j d h
    have e1 : wrap64 ((wrap64 ((w.length : Int) - 1)) - (j : Int)) = ((w.length - 1 - j : Nat) : Int) := by
      rw [w64 (x := (w.length : Int) - 1) (by omega) (by omega), w64 (by omega) (by omega)]
      omega
    have e2 : rdOf false w ((w.length - 1 - j : Nat) : Int) = w.reverse[j]'(by rw [List.length_reverse]; omega) := by
      unfold rdOf
      rw [Int.toNat_natCast, List.getD_eq_getElem?_getD, List.getElem?_eq_getElem (by omega), List.getElem_reverse]
      rfl
    refine Ev.step (fun _ => impl_CheckPath.l0.eq_2 ..) (ev_pos (by omega) (ev_pos (by omega) (ev_pos (by omega) ?_)))
    rw [e1, e2, rd_at p j (by omega), w64 (x := (j : Int) + 1) (by omega) (by omega)]
    refine ev_pos (by omega) (ev_pos (by omega) ?_)
    have hz : j < (p.zip w.reverse).length := by rw [List.length_zip, List.length_reverse]; omega
    rw [List.drop_eq_getElem_cons hz, List.foldl_cons, List.getElem_zip]
    by_cases hs : w.reverse[j]'(by rw [List.length_reverse]; omega) = true
    · refine ev_pos hs (Ev.bind (impl_Hash_ev _ (by simp)) ?_)
      have t : turnStep d (p[j]'(by omega), w.reverse[j]'(by rw [List.length_reverse]; omega)) = hashOf [p[j]'(by omega), d] := by unfold turnStep; rw [if_pos hs]
      rw [t]
      exact ih (j + 1) _ (by omega)
    · refine ev_neg hs (Ev.bind (impl_Hash_ev _ (by simp)) ?_)
      have t : turnStep d (p[j]'(by omega), w.reverse[j]'(by rw [List.length_reverse]; omega)) = hashOf [d, p[j]'(by omega)] := by unfold turnStep; rw [if_neg hs]
      rw [t]
      exact ih (j + 1) _ (by omega)
theorem impl_CheckPath_ev (root n i d : Int) (p : List Int) (hl : p.length ≤ 1073741824) : Ev (fun k => impl_CheckPath.f k root n i d p) (checkPath root n i d p) := by
  unfold impl_CheckPath.f checkPath
  refine ev_bind0 (at_val _ _) ?_
  by_cases h : 0 ≤ i ∧ i < n
  · refine ev_pos (decide_eq_true h) (Ev.step (fun _ => impl_CheckPath.j0.eq_2 ..) ?_)
    by_cases h2 : n > 1000
    · refine ev_pos (decide_eq_true h2) (ev_of ?_)
      rw [decide_eq_false (by omega)]
    refine ev_neg (by simp only [decide_eq_true_eq]; exact h2) ?_
    have e := impl_sides_ev n.toNat i.toNat (by omega) (by omega)
    rw [Int.toNat_of_nonneg (by omega), Int.toNat_of_nonneg h.1] at e
    refine Ev.bind e ?_
    by_cases hp : p.length = (sidesOf n.toNat i.toNat).length
    · refine ev_pos (by omega) ?_
      have e2 := impl_CheckPath_l0 root (sidesOf n.toNat i.toNat) p hp hl p.length 0 d (by omega)
      rw [List.drop_zero, climb_fold _ _ _ hp] at e2
      have e3 : decide (1 ≤ n ∧ n ≤ 1000 ∧ 0 ≤ i ∧ i < n ∧ p.length = (sidesOf n.toNat i.toNat).length ∧ climb (sidesOf n.toNat i.toNat) p d = root) = decide (climb (sidesOf n.toNat i.toNat) p d = root) := by
        rw [decide_eq_decide]
        exact ⟨fun h => h.2.2.2.2.2, fun h' => ⟨by omega, by omega, h.1, h.2, hp, h'⟩⟩
      rw [e3]
      exact e2
    · refine ev_neg (by omega) (ev_of ?_)
      rw [decide_eq_false (fun h => hp h.2.2.2.2.1)]
  · refine ev_neg (by simp only [decide_eq_true_eq]; exact h) (Ev.step (fun _ => impl_CheckPath.j0.eq_2 ..) (ev_pos rfl (ev_of ?_)))
    rw [decide_eq_false (fun h' => h ⟨h'.2.2.1, h'.2.2.2.1⟩)]
theorem impl_DepthOf_ev (a b : Int) : Ev (fun k => impl_DepthOf.f k a b) (depthOf a b) := by
  unfold impl_DepthOf.f depthOf
  refine ev_bind0 (at_val _ _) ?_
  by_cases h : 0 ≤ b ∧ b < a
  · refine ev_pos (decide_eq_true h) ?_
    by_cases h2 : a > 1000
    · rw [if_neg (show ¬ (1 ≤ a ∧ a ≤ 1000 ∧ 0 ≤ b ∧ b < a) by omega)]
      exact ev_pos h2 (Ev.now _)
    · rw [if_pos (show 1 ≤ a ∧ a ≤ 1000 ∧ 0 ≤ b ∧ b < a by omega)]
      have e := impl_sides_ev a.toNat b.toNat (by omega) (by omega)
      rw [Int.toNat_of_nonneg (by omega), Int.toNat_of_nonneg h.1] at e
      exact ev_neg h2 (Ev.bind e (Ev.now _))
  · rw [if_neg (show ¬ (1 ≤ a ∧ a ≤ 1000 ∧ 0 ≤ b ∧ b < a) by omega)]
    exact ev_neg (by simp only [decide_eq_true_eq]; exact h) (Ev.now _)
theorem hstep_v (h v v' : Int) (e : hstep h v = hstep h v') : v % 2147483647 = v' % 2147483647 := by
  unfold hstep at e
  omega
theorem inv_step (d q : Int) (h : 1000003 * d = 2147483647 * q) : d = 2147483647 * (q * 1523789695 - 709572 * d) := by
  have h3 : 1000003 * d * 1523789695 = 2147483647 * q * 1523789695 := by rw [h]
  omega
theorem hstep_h (h h' v : Int) (h0 : 0 ≤ h) (h1 : h < 2147483647) (g0 : 0 ≤ h') (g1 : h' < 2147483647) (e : hstep h v = hstep h' v) : h = h' := by
  unfold hstep at e
  have a1 := Int.mul_ediv_add_emod (h * 1000003 + v % 2147483647 + 13) 2147483647
  have a2 := Int.mul_ediv_add_emod (h' * 1000003 + v % 2147483647 + 13) 2147483647
  generalize (h * 1000003 + v % 2147483647 + 13) / 2147483647 = q1 at a1
  generalize (h' * 1000003 + v % 2147483647 + 13) / 2147483647 = q2 at a2
  rw [e] at a1
  clear e
  generalize (h' * 1000003 + v % 2147483647 + 13) % 2147483647 = s at a1 a2
  generalize v % 2147483647 = u at a1 a2
  have a3 : 1000003 * (h - h') = 2147483647 * (q1 - q2) := by omega
  have a4 := inv_step (h - h') (q1 - q2) a3
  clear a1 a2 a3
  generalize (q1 - q2) * 1523789695 - 709572 * (h - h') = z at a4
  omega
theorem hash2_right (a b b' : Int) (e : hashOf [a, b] = hashOf [a, b']) : b % 2147483647 = b' % 2147483647 := hstep_v _ _ _ e
theorem hash2_left (a a' b : Int) (e : hashOf [a, b] = hashOf [a', b]) : a % 2147483647 = a' % 2147483647 :=
  hstep_v 11 a a' (hstep_h _ _ _ (hstep_range 11 a).1 (hstep_range 11 a).2 (hstep_range 11 a').1 (hstep_range 11 a').2 e)
theorem turn_inj (c c' x : Int) (s : Bool) (e : turnStep c (x, s) = turnStep c' (x, s)) : c % 2147483647 = c' % 2147483647 := by
  cases s
  · exact hash2_left c c' x e
  · exact hash2_right x c c' e
theorem turn_injx (c x x' : Int) (s : Bool) (e : turnStep c (x, s) = turnStep c (x', s)) : x % 2147483647 = x' % 2147483647 := by
  cases s
  · exact hash2_right c x x' e
  · exact hash2_left x x' c e
theorem turn_range (c : Int) (q : Int × Bool) : 0 ≤ turnStep c q ∧ turnStep c q < 2147483647 := by
  unfold turnStep
  split
  · exact hashOf_range _
  · exact hashOf_range _
theorem climb_injd : ∀ (w : List Bool) (p : List Int) (d d' : Int), climb w p d = climb w p d' → d % 2147483647 = d' % 2147483647
  | [], p, d, d', e => by
    rw [climb, climb] at e
    rw [e]
  | s :: [], p, d, d', e => by
    rw [climb, climb, climb, climb] at e
    exact turn_inj _ _ _ _ e
  | s :: t :: r, p, d, d', e => by
    rw [climb.eq_2 p d s, climb.eq_2 p d' s] at e
    have h := turn_inj _ _ _ _ e
    have r1 : ∀ d, 0 ≤ climb (t :: r) p.dropLast d ∧ climb (t :: r) p.dropLast d < 2147483647 := fun d => by
      rw [climb]
      exact turn_range _ _
    have a1 := r1 d
    have a2 := r1 d'
    exact climb_injd (t :: r) p.dropLast d d' (by omega)
theorem climb_set : ∀ (w : List Bool) (p : List Int) (d : Int) (k : Nat) (v : Int), p.length = w.length → (hk : k < p.length) → v % 2147483647 ≠ (p[k]'hk) % 2147483647 → climb w (p.set k v) d ≠ climb w p d
  | [], p, d, k, v, hl, hk, hv, e => by simp at hl; rw [hl] at hk; simp at hk
  | s :: r, p, d, k, v, hl, hk, hv, e => by
    rw [climb, climb] at e
    have hlen : (p.set k v).length = p.length := List.length_set ..
    rw [hlen] at e
    by_cases hlast : k = p.length - 1
    · have hd : (p.set k v).dropLast = p.dropLast := by
        rw [List.dropLast_eq_take, List.dropLast_eq_take, hlen, ← hlast, List.take_set_of_le (Nat.le_refl _)]
      have h1 : rd (p.set k v) ((p.length - 1 : Nat) : Int) = v := by
        rw [rd_at _ _ (by rw [hlen]; omega)]
        subst hlast
        simp
      have h2 : rd p ((p.length - 1 : Nat) : Int) = p[k]'hk := by
        rw [rd_at _ _ (by omega)]
        subst hlast
        rfl
      rw [hd, h1, h2] at e
      exact hv (turn_injx _ _ _ _ e)
    · have hd : (p.set k v).dropLast = p.dropLast.set k v := by
        rw [List.dropLast_eq_take, List.dropLast_eq_take, hlen, List.take_set]
      have h1 : rd (p.set k v) ((p.length - 1 : Nat) : Int) = rd p ((p.length - 1 : Nat) : Int) := by
        rw [rd_at _ _ (by rw [hlen]; omega), rd_at _ _ (by omega), List.getElem_set_ne (by omega)]
      rw [hd, h1] at e
      have hc := turn_inj _ _ _ _ e
      have hdl : p.dropLast.length = p.length - 1 := List.length_dropLast ..
      have hkd : k < p.dropLast.length := by omega
      have hg : p.dropLast[k]'hkd = p[k]'hk := by rw [List.getElem_dropLast]
      have hr : r.length = p.dropLast.length := by rw [hdl, hl]; simp
      have rr : ∀ q, 0 ≤ climb r q d ∧ climb r q d < 2147483647 := fun q => by
        cases r with
        | nil => simp at hr; omega
        | cons t r => rw [climb]; exact turn_range _ _
      have a1 := rr (p.dropLast.set k v)
      have a2 := rr p.dropLast
      exact climb_set r p.dropLast d k v hr.symm hkd (by rw [hg]; exact hv) (by omega)
theorem rootOf_range : ∀ (n : Nat) (l : List Int), l.length ≤ n → (∀ x ∈ l, 0 ≤ x ∧ x < 2147483647) → 0 ≤ rootOf l ∧ rootOf l < 2147483647 := by
  intro n l _ h
  by_cases h0 : l.length = 0
  · rw [rootOf_nil l h0]; omega
  by_cases h1 : l.length = 1
  · rw [rootOf_one l h1, show (0 : Int) = ((0 : Nat) : Int) from rfl, rd_at l 0 (by omega)]
    exact h _ (List.getElem_mem _)
  · rw [rootOf_more l (by omega)]
    exact hashOf_range _
theorem pathTo_range : ∀ (n : Nat) (l : List Int) (i : Nat), l.length ≤ n → (∀ x ∈ l, 0 ≤ x ∧ x < 2147483647) → ∀ y ∈ pathTo l i, 0 ≤ y ∧ y < 2147483647 := by
  intro n
  induction n with
  | zero => intro l i h _ y hy; rw [pathTo_nil l i (by omega)] at hy; simp at hy
  | succ n ih =>
    intro l i h hw y hy
    have ht : ∀ x ∈ l.take ((l.length + 1) / 2), 0 ≤ x ∧ x < 2147483647 := fun x hx => hw x (List.mem_of_mem_take hx)
    have hd : ∀ x ∈ l.drop ((l.length + 1) / 2), 0 ≤ x ∧ x < 2147483647 := fun x hx => hw x (List.mem_of_mem_drop hx)
    by_cases h2 : l.length < 2
    · rw [pathTo_nil l i h2] at hy; simp at hy
    by_cases hi : i < (l.length + 1) / 2
    · rw [pathTo_left l i h2 hi] at hy
      rcases List.mem_append.1 hy with hy | hy
      · exact ih _ i (by rw [List.length_take]; omega) ht y hy
      · rw [List.mem_singleton.1 hy]
        exact rootOf_range _ _ (Nat.le_refl _) hd
    · rw [pathTo_right l i h2 hi] at hy
      rcases List.mem_append.1 hy with hy | hy
      · exact ih _ _ (by rw [List.length_drop]; omega) hd y hy
      · rw [List.mem_singleton.1 hy]
        exact rootOf_range _ _ (Nat.le_refl _) ht
theorem climb_path : ∀ (n : Nat) (l : List Int) (i : Nat), l.length ≤ n → i < l.length → climb (sidesOf l.length i) (pathTo l i) (rd l (i : Int)) = rootOf l ∧ (pathTo l i).length = (sidesOf l.length i).length := by
  intro n
  induction n with
  | zero => intro l i h hi; omega
  | succ n ih =>
    intro l i h hi
    by_cases h2 : l.length < 2
    · rw [pathTo_nil l i h2, sidesOf_nil l.length i (by omega), climb, rootOf_one l (by omega), show i = 0 by omega]
      exact ⟨rfl, rfl⟩
    have cons_path : ∀ (s : Bool) (r : List Bool) (q : List Int) (x d : Int), climb (s :: r) (q ++ [x]) d = turnStep (climb r q d) (x, s) := by
      intro s r q x d
      rw [climb, List.dropLast_concat, rd_at _ _ (by simp)]
      simp
    by_cases hl : i < (l.length + 1) / 2
    · have ht : (l.take ((l.length + 1) / 2)).length = (l.length + 1) / 2 := by rw [List.length_take]; omega
      obtain ⟨e1, e2⟩ := ih (l.take ((l.length + 1) / 2)) i (by omega) (by omega)
      rw [ht] at e1 e2
      have hrd : rd (l.take ((l.length + 1) / 2)) (i : Int) = rd l (i : Int) := by
        rw [rd_at _ _ (by omega), rd_at _ _ hi, List.getElem_take]
      rw [pathTo_left l i h2 hl, sidesOf_left l.length i (by omega) (by omega), cons_path, ← hrd, e1, rootOf_more l (by omega)]
      refine ⟨rfl, ?_⟩
      rw [List.length_append, List.length_singleton, e2, List.length_cons]
    · have ht : (l.drop ((l.length + 1) / 2)).length = l.length - (l.length + 1) / 2 := by rw [List.length_drop]
      obtain ⟨e1, e2⟩ := ih (l.drop ((l.length + 1) / 2)) (i - (l.length + 1) / 2) (by omega) (by omega)
      rw [ht] at e1 e2
      have hrd : rd (l.drop ((l.length + 1) / 2)) ((i - (l.length + 1) / 2 : Nat) : Int) = rd l (i : Int) := by
        rw [rd_at _ _ (by omega), rd_at _ _ hi, List.getElem_drop]
        congr 1
        omega
      rw [pathTo_right l i h2 hl, sidesOf_right l.length i (by omega) (by omega), cons_path, ← hrd, e1, rootOf_more l (by omega)]
      refine ⟨rfl, ?_⟩
      rw [List.length_append, List.length_singleton, e2, List.length_cons]
def resInts (a0 : Int) (l : List Int) (a2 a3 a4 : Int) : List Int := [a0, a2, a3, a4, (l.length : Int)] ++ l
theorem resInts_len (a0 : Int) (l : List Int) (a2 a3 a4 : Int) : (resInts a0 l a2 a3 a4).length = l.length + 5 := by simp [resInts]
theorem spec_ResourceInts_val (a0 : Int) (l : List Int) (a2 a3 a4 : Int) (hl : l.length ≤ 1099511627776) : spec_ResourceInts.f a0 l a2 a3 a4 = some (resInts a0 l a2 a3 a4) := by
  unfold spec_ResourceInts.f
  rw [Option.bind_some, if_pos (by simp only [List.length_cons, List.length_nil]; omega)]
  rfl
theorem spec_DigestOf_ev (a0 : Int) (l : List Int) (a2 a3 a4 : Int) (hl : l.length ≤ 1099511627776) : Ev (fun k => spec_DigestOf.f k a0 l a2 a3 a4) (hashOf (resInts a0 l a2 a3 a4)) := by
  unfold spec_DigestOf.f
  exact ev_bind0 (spec_ResourceInts_val a0 l a2 a3 a4 hl) (Ev.bind (spec_Hash_ev _ (by rw [resInts_len]; omega)) (Ev.now _))
theorem big_val (l : List Int) : laws_big.f l = some (decide ((l.length : Int) > 1048576)) := rfl
theorem l1New_l0 (l : List Int) (hl : l.length ≤ 1099511627776) : ∀ (d i : Nat) (h : Int), i + d = l.length → ∃ h', Ev (fun k => spec_l1New.l0 k l h (i : Int)) (l, 0, h') := by
  intro d
  induction d with
  | zero =>
    intro i h hd
    exact ⟨h, Ev.step (fun _ => spec_l1New.l0.eq_2 ..) (ev_neg (by omega) (Ev.now _))⟩
  | succ d ih =>
    intro i h hd
    by_cases h4 : (i : Int) < 4000
    · obtain ⟨h', e⟩ := ih (i + 1) _ (by omega)
      refine ⟨h', Ev.step (fun _ => spec_l1New.l0.eq_2 ..) (ev_pos (by omega) (ev_pos h4 (ev_pos (by omega) ?_)))⟩
      rw [w64 (x := (i : Int) + 1) (by omega) (by omega)]
      exact e
    · exact ⟨h, Ev.step (fun _ => spec_l1New.l0.eq_2 ..) (ev_pos (by omega) (ev_neg h4 (Ev.now _)))⟩
theorem l1New_ev (l : List Int) (hl : l.length ≤ 1099511627776) : ∃ h, Ev (fun k => spec_l1New.f k l) (l, 0, h) := by
  unfold spec_l1New.f
  exact l1New_l0 l hl l.length 0 _ (by omega)
theorem and255 (y : Int) : 0 ≤ Go.bits .and .i64 y 255 ∧ Go.bits .and .i64 y 255 ≤ 255 := by
  have h : (BitVec.ofInt 64 y &&& BitVec.ofInt 64 255).toNat ≤ 255 := by
    rw [BitVec.toNat_and]
    exact Nat.le_trans Nat.and_le_right (by decide)
  have e : Go.bits .and .i64 y 255 = IntKind.i64.wrap ((BitVec.ofInt 64 y &&& BitVec.ofInt 64 255).toNat : Int) := rfl
  rw [e, IntKind.wrap_i64]
  omega
theorem l1Byte_some (b : List Int) (hb : b.length ≤ 1099511627776) (i h : Int) (h0 : 0 ≤ i) (h1 : i ≤ 1099511627776) : ∃ x i' h', spec_l1Byte.f b i h = some (x, i', h') ∧ 0 ≤ x ∧ x ≤ 255 ∧ 0 ≤ i' ∧ i' ≤ 1099511627776 := by
  unfold spec_l1Byte.f
  by_cases c : i < (b.length : Int)
  · rw [if_pos c, if_pos h0, w64 (x := i + 1) (by omega) (by omega)]
    exact ⟨_, _, _, rfl, (and255 _).1, (and255 _).2, by omega, by omega⟩
  · rw [if_neg c]
    exact ⟨_, _, _, rfl, (and255 _).1, (and255 _).2, h0, h1⟩
theorem l1Below_some (b : List Int) (hb : b.length ≤ 1099511627776) (i h n : Int) (h0 : 0 ≤ i) (h1 : i ≤ 1099511627776) : ∃ x i' h', spec_l1Below.f b i h n = some (x, i', h') ∧ 0 ≤ x ∧ (0 < n → x < n) ∧ (n ≤ 0 → x = 0) ∧ 0 ≤ i' ∧ i' ≤ 1099511627776 := by
  unfold spec_l1Below.f
  by_cases c : n ≤ 0
  · rw [if_pos c]
    exact ⟨_, _, _, rfl, by omega, fun h => by omega, fun _ => rfl, h0, h1⟩
  rw [if_neg c]
  by_cases c2 : n ≤ 256
  · rw [if_pos c2]
    obtain ⟨x, i', h', e, hx0, hx1, hi0, hi1⟩ := l1Byte_some b hb i h h0 h1
    rw [e, Option.bind_some, if_neg (by omega)]
    refine ⟨_, _, _, rfl, ?_, fun _ => ?_, fun h => by omega, hi0, hi1⟩
    · rw [Int.tmod_eq_emod_of_nonneg hx0]; exact Int.emod_nonneg _ (by omega)
    · rw [Int.tmod_eq_emod_of_nonneg hx0]; exact Int.emod_lt_of_pos _ (by omega)
  · rw [if_neg c2]
    obtain ⟨x, i', h', e, hx0, hx1, hi0, hi1⟩ := l1Byte_some b hb i h h0 h1
    rw [e, Option.bind_some]
    obtain ⟨y, i2, h2, e2, hy0, hy1, hi20, hi21⟩ := l1Byte_some b hb i' h' hi0 hi1
    rw [e2, Option.bind_some]
    obtain ⟨z, i3, h3, e3, hz0, hz1, hi30, hi31⟩ := l1Byte_some b hb i2 h2 hi20 hi21
    rw [e3, Option.bind_some, if_neg (by omega)]
    have ew : wrap64 ((wrap64 ((wrap64 (x * 65536)) + (wrap64 (y * 256)))) + z) = x * 65536 + y * 256 + z := by
      rw [w64 (x := x * 65536) (by omega) (by omega), w64 (x := y * 256) (by omega) (by omega), w64 (x := x * 65536 + y * 256) (by omega) (by omega), w64 (by omega) (by omega)]
    refine ⟨_, _, _, rfl, ?_, fun _ => ?_, fun h => by omega, hi30, hi31⟩
    · rw [ew, Int.tmod_eq_emod_of_nonneg (by omega)]; exact Int.emod_nonneg _ (by omega)
    · rw [ew, Int.tmod_eq_emod_of_nonneg (by omega)]; exact Int.emod_lt_of_pos _ (by omega)
theorem l1Int_some (b : List Int) (hb : b.length ≤ 1099511627776) (i h : Int) (l : List Int) (hl : 0 < l.length) (h0 : 0 ≤ i) (h1 : i ≤ 1099511627776) : ∃ x i' h', spec_l1Int.f b i h l = some (x, i', h') ∧ x ∈ l ∧ 0 ≤ i' ∧ i' ≤ 1099511627776 := by
  unfold spec_l1Int.f
  obtain ⟨x, i', h', e, hx0, hx1, _, hi0, hi1⟩ := l1Below_some b hb i h (l.length : Int) h0 h1
  have hx := hx1 (by omega)
  rw [e, Option.bind_some, if_pos hx0, if_pos hx]
  refine ⟨_, _, _, rfl, ?_, hi0, hi1⟩
  obtain ⟨j, rfl⟩ := Int.eq_ofNat_of_zero_le hx0
  show rd l (j : Int) ∈ l
  rw [rd_at l j (by omega)]
  exact List.getElem_mem _
theorem l4Draw_some (b : List Int) (hb : b.length ≤ 1099511627776) (i h : Int) (h0 : 0 ≤ i) (h1 : i ≤ 1099511627776) : ∃ x y z i' h', spec_l4Draw.f b i h = some (x, y, z, i', h') ∧ (1 ≤ x ∧ x ≤ 3) ∧ (0 ≤ y ∧ y ≤ 2) ∧ (0 ≤ z ∧ z ≤ 2) ∧ 0 ≤ i' ∧ i' ≤ 1099511627776 := by
  unfold spec_l4Draw.f
  obtain ⟨x, i2, h2, e2, hx0, hx1, _, hi20, hi21⟩ := l1Below_some b hb i h 3 h0 h1
  obtain ⟨y, i3, h3, e3, hy0, hy1, _, hi30, hi31⟩ := l1Below_some b hb i2 h2 3 hi20 hi21
  obtain ⟨z, i4, h4, e4, hz0, hz1, _, hi40, hi41⟩ := l1Below_some b hb i3 h3 3 hi30 hi31
  have hx := hx1 (by omega)
  have hy := hy1 (by omega)
  have hz := hz1 (by omega)
  rw [e2, Option.bind_some, e3, Option.bind_some, e4, Option.bind_some, w64 (x := 1 + x) (by omega) (by omega)]
  exact ⟨_, _, _, _, _, rfl, by omega, by omega, by omega, hi40, hi41⟩
theorem l5Body_l0 (b : List Int) (hb : b.length ≤ 1099511627776) : ∀ (d : Nat) (out : List Int) (i h : Int), out.length + d ≤ 100 → (∀ x ∈ out, 0 ≤ x ∧ x ≤ 8) → 0 ≤ i → i ≤ 1099511627776 →
    ∃ (r : List Int) (i' h' : Int), Ev (fun k => spec_l5Body.l0 k out (d : Int) b i h) (r, i', h') ∧ r.length ≤ out.length + d ∧ (∀ x ∈ r, 0 ≤ x ∧ x ≤ 8) ∧ 0 ≤ i' ∧ i' ≤ 1099511627776 := by
  intro d
  induction d with
  | zero =>
    intro out i h hl hw h0 h1
    exact ⟨out, i, h, Ev.step (fun _ => spec_l5Body.l0.eq_2 ..) (ev_neg (by omega) (Ev.now _)), by omega, hw, h0, h1⟩
  | succ d ih =>
    intro out i h hl hw h0 h1
    obtain ⟨x, i2, h2, e2, hx0, hx1, _, hi0, hi1⟩ := l1Below_some b hb i h 9 h0 h1
    have hx := hx1 (by omega)
    obtain ⟨r, i', h', e, hr, hrw, hi20, hi21⟩ := ih (out ++ [x]) i2 h2 (by rw [List.length_append, List.length_singleton]; omega) (fun y hy => by
      rcases List.mem_append.1 hy with hy | hy
      · exact hw y hy
      · have := List.mem_singleton.1 hy
        omega) hi0 hi1
    rw [List.length_append, List.length_singleton] at hr
    refine ⟨r, i', h', Ev.step (fun _ => spec_l5Body.l0.eq_2 ..) (ev_pos (by omega) (ev_bind0 e2 (ev_pos (by omega) ?_))), by omega, hrw, hi20, hi21⟩
    rw [w64 (by omega) (by omega), show ((d + 1 : Nat) : Int) - 1 = (d : Int) by omega]
    exact e
theorem l5Body_ev (b : List Int) (hb : b.length ≤ 1099511627776) (i h : Int) (h0 : 0 ≤ i) (h1 : i ≤ 1099511627776) :
    ∃ (r : List Int) (i' h' : Int), Ev (fun k => spec_l5Body.f k b i h) (r, i', h') ∧ r.length ≤ 4 ∧ (∀ x ∈ r, 0 ≤ x ∧ x ≤ 8) ∧ 0 ≤ i' ∧ i' ≤ 1099511627776 := by
  unfold spec_l5Body.f
  obtain ⟨x, i2, h2, e2, hx0, hx1, _, hi0, hi1⟩ := l1Below_some b hb i h 5 h0 h1
  have hx := hx1 (by omega)
  obtain ⟨r, i', h', e, hr, hrw, hi20, hi21⟩ := l5Body_l0 b hb x.toNat [] i2 h2 (by simp only [List.length_nil]; omega) (fun y hy => by simp at hy) hi0 hi1
  rw [Int.toNat_of_nonneg hx0] at e
  rw [List.length_nil] at hr
  exact ⟨r, i', h', ev_bind0 e2 e, by omega, hrw, hi20, hi21⟩
theorem l5Draw_ev (b : List Int) (hb : b.length ≤ 1099511627776) (i h : Int) (h0 : 0 ≤ i) (h1 : i ≤ 1099511627776) :
    ∃ (kd : Int) (r : List Int) (x y z i' h' : Int), Ev (fun k => spec_l5Draw.f k b i h) (kd, r, x, y, z, i', h') ∧ (1 ≤ kd ∧ kd ≤ 4) ∧ r.length ≤ 4 ∧ (∀ u ∈ r, 0 ≤ u ∧ u ≤ 8) ∧
      ((kd = 3 ∧ r = [] ∧ (1 ≤ x ∧ x ≤ 3) ∧ (0 ≤ y ∧ y ≤ 2) ∧ (0 ≤ z ∧ z ≤ 2)) ∨ (kd ≠ 3 ∧ x = 0 ∧ y = 0 ∧ z = 0 ∧ (kd = 4 → r = []))) ∧ 0 ≤ i' ∧ i' ≤ 1099511627776 := by
  unfold spec_l5Draw.f
  obtain ⟨q, i2, h2, e2, hq0, hq1, _, hi0, hi1⟩ := l1Below_some b hb i h 6 h0 h1
  by_cases c0 : q = 0
  · obtain ⟨x, y, z, i3, h3, e3, hx, hy, hz, hi30, hi31⟩ := l4Draw_some b hb i2 h2 hi0 hi1
    exact ⟨3, [], x, y, z, i3, h3, ev_bind0 e2 (ev_pos c0 (ev_bind0 e3 (Ev.now _))), by omega, by simp, fun u hu => by simp at hu, .inl ⟨rfl, rfl, hx, hy, hz⟩, hi30, hi31⟩
  by_cases c1 : q = 1
  · exact ⟨4, [], 0, 0, 0, i2, h2, ev_bind0 e2 (ev_neg c0 (ev_pos c1 (Ev.now _))), by omega, by simp, fun u hu => by simp at hu, .inr ⟨by omega, rfl, rfl, rfl, fun _ => rfl⟩, hi0, hi1⟩
  obtain ⟨t, i3, h3, e3, ht0, ht1, _, hi30, hi31⟩ := l1Below_some b hb i2 h2 2 hi0 hi1
  have ht := ht1 (by omega)
  obtain ⟨r, i4, h4, e4, hr, hw, hi40, hi41⟩ := l5Body_ev b hb i3 h3 hi30 hi31
  refine ⟨1 + t, r, 0, 0, 0, i4, h4, ev_bind0 e2 (ev_neg c0 (ev_neg c1 (ev_bind0 e3 (Ev.bind e4 (ev_of ?_))))), by omega, hr, hw, .inr ⟨by omega, rfl, rfl, rfl, fun h => by omega⟩, hi40, hi41⟩
  rw [w64 (x := 1 + t) (by omega) (by omega)]
theorem l6List_l0 (b : List Int) (hb : b.length ≤ 1099511627776) : ∀ (d : Nat) (out : List Int) (i h : Int), out.length + d ≤ 100 → (∀ x ∈ out, 0 ≤ x ∧ x < 2147483647) → 0 ≤ i → i ≤ 1099511627776 →
    ∃ (r : List Int) (i' h' : Int), Ev (fun k => spec_l6List.l0 k out (d : Int) b i h) (r, i', h') ∧ r.length ≤ out.length + d ∧ (∀ x ∈ r, 0 ≤ x ∧ x < 2147483647) ∧ 0 ≤ i' ∧ i' ≤ 1099511627776 := by
  intro d
  induction d with
  | zero =>
    intro out i h hl hw h0 h1
    exact ⟨out, i, h, Ev.step (fun _ => spec_l6List.l0.eq_2 ..) (ev_neg (by omega) (Ev.now _)), by omega, hw, h0, h1⟩
  | succ d ih =>
    intro out i h hl hw h0 h1
    obtain ⟨kd, body, x, y, z, i2, h2, e2, _, hbl, _, _, hi0, hi1⟩ := l5Draw_ev b hb i h h0 h1
    have eD := spec_DigestOf_ev kd body x y z (by omega)
    have hr := hashOf_range (resInts kd body x y z)
    obtain ⟨r, i', h', e, hrl, hrw, hi20, hi21⟩ := ih (out ++ [hashOf (resInts kd body x y z)]) i2 h2 (by rw [List.length_append, List.length_singleton]; omega) (fun y hy => by
      rcases List.mem_append.1 hy with hy | hy
      · exact hw y hy
      · rw [List.mem_singleton.1 hy]
        exact hr) hi0 hi1
    rw [List.length_append, List.length_singleton] at hrl
    refine ⟨r, i', h', Ev.step (fun _ => spec_l6List.l0.eq_2 ..) (ev_pos (by omega) (Ev.bind e2 (Ev.bind eD (ev_pos (by omega) ?_)))), by omega, hrw, hi20, hi21⟩
    rw [w64 (by omega) (by omega), show ((d + 1 : Nat) : Int) - 1 = (d : Int) by omega]
    exact e
theorem l6List_ev (b : List Int) (hb : b.length ≤ 1099511627776) (i h : Int) (h0 : 0 ≤ i) (h1 : i ≤ 1099511627776) :
    ∃ (r : List Int) (i' h' : Int), Ev (fun k => spec_l6List.f k b i h) (r, i', h') ∧ r.length ≤ 8 ∧ (∀ x ∈ r, 0 ≤ x ∧ x < 2147483647) ∧ 0 ≤ i' ∧ i' ≤ 1099511627776 := by
  unfold spec_l6List.f
  obtain ⟨x, i2, h2, e2, hx0, hx1, _, hi0, hi1⟩ := l1Below_some b hb i h 9 h0 h1
  have hx := hx1 (by omega)
  obtain ⟨r, i', h', e, hr, hrw, hi20, hi21⟩ := l6List_l0 b hb x.toNat [] i2 h2 (by simp only [List.length_nil]; omega) (fun y hy => by simp at hy) hi0 hi1
  rw [Int.toNat_of_nonneg hx0] at e
  rw [List.length_nil] at hr
  exact ⟨r, i', h', ev_bind0 e2 e, by omega, hrw, hi20, hi21⟩
theorem drawPath_ev (l : List Int) (hl : l.length ≤ 1048576) : ∃ (r : List Int) (a : Int), Ev (fun k => spec_DrawPathTo.f k l) (r, a) ∧ r.length ≤ 8 ∧ (∀ x ∈ r, 0 ≤ x ∧ x < 2147483647) := by
  unfold spec_DrawPathTo.f
  obtain ⟨h, e1⟩ := l1New_ev l (by omega)
  obtain ⟨r, i2, h2, e2, hr, hw, hi20, hi21⟩ := l6List_ev l (by omega) 0 h (by omega) (by omega)
  obtain ⟨a, i3, h3, e3, _, _, _, _, _⟩ := l1Below_some l (by omega) i2 h2 (wrap64 ((r.length : Int) + 2)) hi20 hi21
  exact ⟨r, _, Ev.bind e1 (Ev.bind e2 (ev_bind0 e3 (Ev.now _))), hr, hw⟩
theorem drawCheck_ev (l : List Int) (hl : l.length ≤ 1048576) : ∃ (x n j d : Int) (p : List Int), Ev (fun k => spec_DrawCheckPath.f k l) (x, n, j, d, p) ∧ p.length ≤ 100 := by
  unfold spec_DrawCheckPath.f
  obtain ⟨h, e1⟩ := l1New_ev l (by omega)
  obtain ⟨r, i2, h2, e2, hr, hw, hi20, hi21⟩ := l6List_ev l (by omega) 0 h (by omega) (by omega)
  obtain ⟨a, i3, h3, e3, ha0, _, _, hi30, hi31⟩ := l1Below_some l (by omega) i2 h2 (wrap64 ((r.length : Int) + 1)) hi20 hi21
  have e4 := spec_PathTo_ev r a (by omega)
  have hp : (pathAt r a).length ≤ r.length := by
    unfold pathAt
    split
    · exact pathTo_len _ r _ (Nat.le_refl _)
    · simp
  have j0 : ∀ d : Int, ∃ (x n j d' : Int) (p : List Int), Ev (fun k => spec_DrawCheckPath.j0 k r a (pathAt r a) d l i3 h3) (x, n, j, d', p) ∧ p.length ≤ 100 := by
    intro d
    have eR := spec_RootOf_ev r (by omega)
    obtain ⟨q, i4, h4, e5, _, _, _, hi40, hi41⟩ := l1Below_some l (by omega) i3 h3 9 hi30 hi31
    by_cases c0 : q = 0
    · exact ⟨_, _, _, _, _, Ev.step (fun _ => spec_DrawCheckPath.j0.eq_2 ..) (Ev.bind eR (ev_bind0 e5 (ev_pos c0 (Ev.now _)))), by omega⟩
    by_cases c1 : q = 1
    · exact ⟨_, _, _, _, _, Ev.step (fun _ => spec_DrawCheckPath.j0.eq_2 ..) (Ev.bind eR (ev_bind0 e5 (ev_neg c0 (ev_pos c1 (ev_pos (by omega) (Ev.now _)))))), by rw [List.length_append, List.length_singleton]; omega⟩
    by_cases c2 : q = 2
    · exact ⟨_, _, _, _, _, Ev.step (fun _ => spec_DrawCheckPath.j0.eq_2 ..) (Ev.bind eR (ev_bind0 e5 (ev_neg c0 (ev_neg c1 (ev_pos c2 (Ev.now _)))))), by omega⟩
    by_cases c3 : q = 3
    · obtain ⟨y, i5, h5, e6, _, _, _⟩ := l1Int_some l (by omega) i4 h4 [0, wrap64 ((r.length : Int) + 1), 1001, (-1), 9223372036854775807] (by simp) hi40 hi41
      exact ⟨_, _, _, _, _, Ev.step (fun _ => spec_DrawCheckPath.j0.eq_2 ..) (Ev.bind eR (ev_bind0 e5 (ev_neg c0 (ev_neg c1 (ev_neg c2 (ev_pos c3 (ev_bind0 e6 (Ev.now _)))))))), by omega⟩
    by_cases c4 : q = 4
    · obtain ⟨y, i5, h5, e6, _, _, _⟩ := l1Int_some l (by omega) i4 h4 [(-1), 0, 9, 10, 99, 100, 9223372036854775807, (-9223372036854775808)] (by simp) hi40 hi41
      have e7 : spec_l4Raw.f l i4 h4 = some (y, i5, h5) := by
        unfold spec_l4Raw.f
        rw [e6, Option.bind_some]
      exact ⟨_, _, _, _, _, Ev.step (fun _ => spec_DrawCheckPath.j0.eq_2 ..) (Ev.bind eR (ev_bind0 e5 (ev_neg c0 (ev_neg c1 (ev_neg c2 (ev_neg c3 (ev_pos c4 (ev_bind0 e7 (Ev.now _))))))))), by omega⟩
    · exact ⟨_, _, _, _, _, Ev.step (fun _ => spec_DrawCheckPath.j0.eq_2 ..) (Ev.bind eR (ev_bind0 e5 (ev_neg c0 (ev_neg c1 (ev_neg c2 (ev_neg c3 (ev_neg c4 (Ev.now _)))))))), by omega⟩
  by_cases c : a < (r.length : Int)
  · obtain ⟨x, n, j, d', p, e, hp⟩ := j0 (rd r a)
    exact ⟨x, n, j, d', p, Ev.bind e1 (Ev.bind e2 (ev_bind0 e3 (Ev.bind e4 (ev_pos c (ev_pos ha0 e))))), hp⟩
  · obtain ⟨x, n, j, d', p, e, hp⟩ := j0 5
    exact ⟨x, n, j, d', p, Ev.bind e1 (Ev.bind e2 (ev_bind0 e3 (Ev.bind e4 (ev_neg c e)))), hp⟩
theorem paths_end (l0 : List Int) (hl0 : l0.length ≤ 1048576) : Ev (fun k => (spec_DrawCheckPath.f k l0).bind fun bt353 => ((impl_CheckPath.f k bt353.1 bt353.2.1 bt353.2.2.1 bt353.2.2.2.1 bt353.2.2.2.2).bind fun t360 => (if t360 = true then ((impl_DepthOf.f k bt353.2.1 bt353.2.2.1).bind fun t361 => (some (t361 == (bt353.2.2.2.2.length : Int)))) else (some true)))) true := by
  obtain ⟨x, n, j, d, p, e, hp⟩ := drawCheck_ev l0 hl0
  refine Ev.bind e (Ev.bind (impl_CheckPath_ev x n j d p (by omega)) ?_)
  by_cases c : checkPath x n j d p = true
  · refine ev_pos c (Ev.bind (impl_DepthOf_ev n j) (ev_of ?_))
    have h := of_decide_eq_true c
    unfold depthOf
    rw [if_pos ⟨h.1, h.2.1, h.2.2.1, h.2.2.2.1⟩]
    rw [Option.some.injEq, beq_iff_eq]
    simp only
    omega
  · exact ev_neg c (Ev.now _)
theorem paths_l0 (l0 : List Int) (hl0 : l0.length ≤ 1048576) (l : List Int) (i : Nat) (hi : i < l.length) (hl : l.length ≤ 8) (hw : ∀ x ∈ l, 0 ≤ x ∧ x < 2147483647) : ∀ (d k : Nat), k + d = (pathTo l i).length → Ev (fun n => laws_FnPaths.l0 n l0 l (i : Int) (pathTo l i) (rootOf l) (k : Int)) true := by
  have hcp := climb_path _ l i (Nat.le_refl _) hi
  have hplen := pathTo_len _ l i (Nat.le_refl _)
  intro d
  induction d with
  | zero =>
    intro k hk
    exact Ev.step (fun _ => laws_FnPaths.l0.eq_2 ..) (ev_neg (by omega) (paths_end l0 hl0))
  | succ d ih =>
    intro k hk
    have hkl : k < (pathTo l i).length := by omega
    have hr := pathTo_range _ l i (Nat.le_refl _) hw _ (List.getElem_mem hkl)
    refine Ev.step (fun _ => laws_FnPaths.l0.eq_2 ..) (ev_pos (by omega) (ev_bind0 rfl (ev_pos (by rw [List.length_nil]; omega) (ev_bind0 rfl ?_))))
    rw [List.nil_append]
    refine ev_pos (by omega) (ev_pos (by omega) (ev_pos (by omega) (ev_pos (by omega) ?_)))
    rw [rd_at _ k hkl, w64 (x := (pathTo l i)[k]'hkl + 1) (by omega) (by omega), w64 (x := (k : Int) + 1) (by omega) (by omega), Int.toNat_natCast]
    refine Ev.bind (impl_CheckPath_ev _ _ _ _ _ (by rw [List.length_set]; omega)) (ev_neg ?_ (ih (k + 1) (by omega)))
    intro hc
    have h := of_decide_eq_true hc
    rw [Int.toNat_natCast, Int.toNat_natCast] at h
    refine climb_set (sidesOf l.length i) (pathTo l i) (rd l (i : Int)) k ((pathTo l i)[k]'hkl + 1) hcp.2 hkl (by omega) ?_
    rw [hcp.1]
    exact h.2.2.2.2.2
theorem FnPaths : ∀ (x0 : List Int), (x0.length ≤ 9223372036854775807 ∧ ∀ y ∈ x0, (Lit.int .u8 y).wf = true) → ∃ k, laws_FnPaths.f k x0 = some true := by
  intro l0 hl0
  obtain ⟨hl0, _⟩ := hl0
  refine Ev.rounds (g := fun k => laws_FnPaths.f k l0) ?_
  unfold laws_FnPaths.f
  refine ev_bind0 (big_val l0) ?_
  by_cases hb : (l0.length : Int) > 1048576
  · exact ev_pos (decide_eq_true hb) (Ev.now true)
  refine ev_neg (by simp only [decide_eq_true_eq]; exact hb) ?_
  obtain ⟨l, a, e, hl, hw⟩ := drawPath_ev l0 (by omega)
  refine Ev.bind e (Ev.bind (impl_PathTo_ev l a (by omega)) (Ev.bind (impl_RootOf_ev l (by omega)) ?_))
  by_cases hin : 0 ≤ a ∧ a < (l.length : Int)
  · have ep : pathAt l a = pathTo l a.toNat := by unfold pathAt; rw [if_pos hin]
    have ea : ((a.toNat : Nat) : Int) = a := Int.toNat_of_nonneg hin.1
    have hi : a.toNat < l.length := by omega
    have hcp := climb_path _ l a.toNat (Nat.le_refl _) hi
    rw [ea] at hcp
    have hplen := pathTo_len _ l a.toNat (Nat.le_refl _)
    have hra : 0 ≤ rd l a ∧ rd l a < 2147483647 := by
      rw [← ea, rd_at l _ hi]
      exact hw _ (List.getElem_mem hi)
    rw [ep]
    refine ev_neg (by simp only; omega) (Ev.step (fun _ => laws_FnPaths.j0.eq_2 ..) (ev_neg (by simp only [decide_eq_true_eq]; omega) (ev_pos hin.1 (ev_pos hin.2 ?_))))
    have c1 : checkPath (rootOf l) (l.length : Int) a (rd l a) (pathTo l a.toNat) = true := by
      refine decide_eq_true ⟨by omega, by omega, hin.1, hin.2, ?_⟩
      rw [Int.toNat_natCast]
      exact ⟨hcp.2, hcp.1⟩
    have c2 : checkPath (rootOf l) (l.length : Int) a (rd l a + 1) (pathTo l a.toNat) = false := by
      refine decide_eq_false (fun h => ?_)
      rw [Int.toNat_natCast] at h
      have hj := climb_injd _ _ _ _ (hcp.1.trans h.2.2.2.2.2.symm)
      omega
    have e1 := impl_CheckPath_ev (rootOf l) (l.length : Int) a (rd l a) (pathTo l a.toNat) (by omega)
    have e2 := impl_CheckPath_ev (rootOf l) (l.length : Int) a (rd l a + 1) (pathTo l a.toNat) (by omega)
    rw [c1] at e1
    rw [c2] at e2
    refine Ev.bind e1 (ev_pos rfl ?_)
    rw [w64 (x := rd l a + 1) (by omega) (by omega)]
    refine Ev.bind e2 (ev_neg (by decide) (Ev.bind (impl_DepthOf_ev _ _) (Ev.step (fun _ => laws_FnPaths.j1.eq_2 ..) (ev_neg ?_ ?_))))
    · unfold depthOf
      rw [if_pos (show 1 ≤ (l.length : Int) ∧ (l.length : Int) ≤ 1000 ∧ 0 ≤ a ∧ a < (l.length : Int) by omega), Int.toNat_natCast, hcp.2]
      simp
    · have h := paths_l0 l0 (by omega) l a.toNat hi hl hw (pathTo l a.toNat).length 0 (by omega)
      rw [ea] at h
      exact h
  · have ep : pathAt l a = [] := by unfold pathAt; rw [if_neg hin]
    rw [ep]
    have c0 : checkPath (rootOf l) (l.length : Int) a 5 [] = false := decide_eq_false (fun h => hin ⟨h.2.2.1, h.2.2.2.1⟩)
    have e0 := impl_CheckPath_ev (rootOf l) (l.length : Int) a 5 [] (by simp)
    rw [c0] at e0
    have dp : depthOf (l.length : Int) a = -1 := by
      unfold depthOf
      rw [if_neg (fun h => hin ⟨h.2.2.1, h.2.2.2⟩)]
    have ed := impl_DepthOf_ev (l.length : Int) a
    rw [dp] at ed
    have hj0 : Ev (fun k => laws_FnPaths.j0 k l0 l a [] (rootOf l) true) true :=
      Ev.step (fun _ => laws_FnPaths.j0.eq_2 ..) (ev_pos rfl (ev_pos rfl (Ev.bind ed (ev_pos rfl (Ev.bind e0 (Ev.now _))))))
    by_cases hn : a < 0
    · exact ev_pos hn hj0
    · refine ev_neg hn ?_
      rw [decide_eq_true (show a ≥ (l.length : Int) by omega)]
      exact hj0

end Go.Proofs.Ytgcidlnhgpjdpad.Pure
