/- The pure statement behind the law FnExactCheckPath: over numbers and lists the law answers true, at every input that the row's bounds let in. -/
import Derived.Test.YtgcidlnhgpjdpacQFnExactCheckPathx2
import Derived.Test.YtgcidlnhgpjdpacQFnExactCheckPathg
namespace Go.Proofs.Ytgcidlnhgpjdpac.Pure
open Go Go.RowKit Go.Proofs.Ytgcidlnhgpjdpac.QFnExactCheckPath Go.Proofs.YtgcidlnhgpjdpacW.PrintWords Go.Proofs.YtgcidlnhgpjdpacW.PrintLast Go.Proofs.YtgcidlnhgpjdpacW.PrintMore
set_option linter.unusedVariables false
set_option linter.unusedSimpArgs false
set_option maxRecDepth 100000

theorem w64 {x : Int} (h0 : -9223372036854775808 ≤ x) (h1 : x ≤ 9223372036854775807) : wrap64 x = x := by unfold wrap64; omega
theorem ev_pos {α : Type} {c : Prop} [Decidable c] {g f : Nat → Option α} {r : α} (h : c) (k : Ev g r) : Ev (fun n => if c then g n else f n) r := by
  obtain ⟨K, hK⟩ := k
  exact ⟨K, fun n hn => (if_pos h).trans (hK n hn)⟩
theorem ev_neg {α : Type} {c : Prop} [Decidable c] {g f : Nat → Option α} {r : α} (h : ¬ c) (k : Ev f r) : Ev (fun n => if c then g n else f n) r := by
  obtain ⟨K, hK⟩ := k
  exact ⟨K, fun n hn => (if_neg h).trans (hK n hn)⟩
theorem ev_bind0 {α β : Type} {o : Option α} {f : Nat → α → Option β} {a : α} {r : β} (h : o = some a) (k : Ev (fun n => f n a) r) : Ev (fun n => o.bind (f n)) r := by
  subst h
  exact k
theorem ev_of {α : Type} {o : Option α} {r : α} (h : o = some r) : Ev (fun _ => o) r := ⟨0, fun _ _ => h⟩
theorem rd_at (xs : List Int) (i : Nat) (h : i < xs.length) : rd xs (i : Int) = xs[i] := by
  unfold rd
  rw [Int.toNat_natCast, List.getD_eq_getElem?_getD, List.getElem?_eq_getElem h]
  rfl
theorem set_take {out xs : List Int} {i : Nat} (h : out.take i = xs.take i) (hl : out.length = xs.length) (hi : i < xs.length) : (out.set ((i : Int)).toNat (rd xs i)).take (i + 1) = xs.take (i + 1) := by
  rw [rd_at xs i hi, Int.toNat_natCast, List.take_succ_eq_append_getElem hi, List.take_succ_eq_append_getElem (by rw [List.length_set]; omega)]
  rw [List.take_set_of_le (Nat.le_refl _), h]
  simp
theorem toIntS_l0 (xs : List Int) (hn : xs.length ≤ 35184372088832) : ∀ (d i : Nat) (out : List Int), i + d = xs.length → out.length = xs.length → out.take i = xs.take i → Ev (fun k => laws_toIntS.l0 k xs out (i : Int)) xs := by
  intro d
  induction d with
  | zero =>
    intro i out hd hl ht
    refine Ev.step (fun _ => laws_toIntS.l0.eq_2 ..) (ev_neg (by omega) (ev_of ?_))
    rw [List.take_of_length_le (by omega), List.take_of_length_le (by omega)] at ht
    rw [ht]
  | succ d ih =>
    intro i out hd hl ht
    refine Ev.step (fun _ => laws_toIntS.l0.eq_2 ..) (ev_pos (by omega) (ev_pos (by omega) (ev_pos (by omega) ?_)))
    rw [w64 (by omega) (by omega)]
    exact ih (i + 1) _ (by omega) (by rw [List.length_set]; exact hl) (set_take ht hl (by omega))
theorem toIntS_ev (xs : List Int) (hn : xs.length ≤ 35184372088832) : Ev (fun k => laws_toIntS.f k xs) xs := by
  unfold laws_toIntS.f
  refine ev_pos (by omega) (ev_pos (by omega) ?_)
  exact toIntS_l0 xs hn xs.length 0 _ (by omega) (by simp) (by simp)
theorem eqIntS_l0 (xs : List Int) (hn : xs.length ≤ 9223372036854775807) : ∀ (d i : Nat), i + d = xs.length → Ev (fun k => laws_eqIntS.l0 k xs xs (i : Int)) true := by
  intro d
  induction d with
  | zero =>
    intro i hd
    exact Ev.step (fun _ => laws_eqIntS.l0.eq_2 ..) (ev_neg (by omega) (Ev.now true))
  | succ d ih =>
    intro i hd
    refine Ev.step (fun _ => laws_eqIntS.l0.eq_2 ..) (ev_pos (by omega) (ev_pos (by omega) (ev_pos (by omega) (ev_pos rfl ?_))))
    rw [w64 (by omega) (by omega)]
    exact ih (i + 1) (by omega)
theorem eqIntS_same (xs : List Int) (hn : xs.length ≤ 9223372036854775807) : Ev (fun k => laws_eqIntS.f k xs xs) true := by
  unfold laws_eqIntS.f
  exact ev_pos rfl (eqIntS_l0 xs hn xs.length 0 (by omega))
theorem l1In_val (a b c : Int) : spec_l1In.f a b c = some (decide (b ≤ a ∧ a ≤ c)) := by
  unfold spec_l1In.f
  by_cases h : a ≥ b
  · rw [if_pos h]; simp [h]
  · rw [if_neg h]; simp [h]
theorem inRange_val (a b c : Int) : impl_InRange.f a b c = some (decide (b ≤ a ∧ a ≤ c)) := by
  unfold impl_InRange.f
  by_cases h : b ≤ a
  · rw [if_pos h]; simp [h]
  · rw [if_neg h]; simp [h]
theorem tmod_twice (a b : Int) (h1 : 1 ≤ b) (h2 : b ≤ 1000000000000) : Int.tmod (wrap64 (Int.tmod a b + b)) b = a % b := by
  have hlt : Int.tmod a b < b := Int.tmod_lt_of_pos a (by omega)
  have hgt : -b < Int.tmod a b := by
    have h := Int.tmod_lt_of_pos (-a) (show 0 < b by omega)
    rw [Int.neg_tmod] at h
    omega
  rw [w64 (by omega) (by omega), Int.tmod_eq_emod_of_nonneg (by omega), Int.add_emod_right]
  have e : Int.tmod a b = a - b * (a.tdiv b) := Int.tmod_def a b
  rw [e, Int.sub_mul_emod_self_left]
theorem spec_Mod_val (a b : Int) (h1 : 1 ≤ b) (h2 : b ≤ 1000000000000) : spec_Mod.f a b = some (a % b) := by
  unfold spec_Mod.f
  rw [l1In_val]
  simp only [Option.bind_some, h1, h2, and_self, decide_true, if_true]
  rw [if_neg (by omega), tmod_twice a b h1 h2]
theorem impl_Mod_val (a b : Int) (h1 : 1 ≤ b) (h2 : b ≤ 1000000000000) : impl_Mod.f a b = some (a % b) := by
  unfold impl_Mod.f
  rw [inRange_val]
  simp only [Option.bind_some, h1, h2, and_self, decide_true, if_true]
  rw [if_neg (by omega), tmod_twice a b h1 h2]
def hstep (h v : Int) : Int := (h * 1000003 + v % 2147483647 + 13) % 2147483647
def hashOf (l : List Int) : Int := l.foldl hstep 11
theorem hstep_range (h v : Int) : 0 ≤ hstep h v ∧ hstep h v < 2147483647 := by unfold hstep; omega
theorem hstep_wrap (h v : Int) (h0 : 0 ≤ h) (h1 : h < 2147483647) : Int.tmod (wrap64 ((wrap64 ((wrap64 (h * 1000003)) + v % 2147483647)) + 13)) 2147483647 = hstep h v := by
  have e1 : wrap64 (h * 1000003) = h * 1000003 := w64 (by omega) (by omega)
  have e2 : wrap64 (h * 1000003 + v % 2147483647) = h * 1000003 + v % 2147483647 := w64 (by omega) (by omega)
  rw [e1, e2, w64 (by omega) (by omega), Int.tmod_eq_emod_of_nonneg (by omega)]
  rfl
theorem spec_Hash_l0 (xs : List Int) (hn : xs.length ≤ 4611686018427387904) : ∀ (d i : Nat) (h : Int), i + d = xs.length → 0 ≤ h → h < 2147483647 → Ev (fun k => spec_Hash.l0 k xs h (i : Int)) ((xs.drop i).foldl hstep h) := by
  intro d
  induction d with
  | zero =>
    intro i h hd h0 h1
    refine Ev.step (fun _ => spec_Hash.l0.eq_2 ..) (ev_neg (by omega) (ev_of ?_))
    rw [List.drop_eq_nil_of_le (by omega)]
    rfl
  | succ d ih =>
    intro i h hd h0 h1
    refine Ev.step (fun _ => spec_Hash.l0.eq_2 ..) (ev_pos (by omega) (ev_pos (by omega) (ev_bind0 (spec_Mod_val _ _ (by omega) (by omega)) ?_)))
    rw [hstep_wrap h _ h0 h1, w64 (by omega) (by omega), List.drop_eq_getElem_cons (show i < xs.length by omega), List.foldl_cons, ← rd_at xs i (by omega)]
    exact ih (i + 1) _ (by omega) (hstep_range _ _).1 (hstep_range _ _).2
theorem spec_Hash_ev (xs : List Int) (hn : xs.length ≤ 4611686018427387904) : Ev (fun k => spec_Hash.f k xs) (hashOf xs) := by
  unfold spec_Hash.f
  exact spec_Hash_l0 xs hn xs.length 0 11 (by omega) (by omega) (by omega)
theorem impl_Hash_l0 (xs : List Int) (hn : xs.length ≤ 4611686018427387904) : ∀ (d i : Nat) (h : Int), i + d = xs.length → 0 ≤ h → h < 2147483647 → Ev (fun k => impl_Hash.l0 k h xs (xs.length : Int) (i : Int)) ((xs.drop i).foldl hstep h) := by
  intro d
  induction d with
  | zero =>
    intro i h hd h0 h1
    refine Ev.step (fun _ => impl_Hash.l0.eq_2 ..) (ev_neg (by omega) (ev_of ?_))
    rw [List.drop_eq_nil_of_le (by omega)]
    rfl
  | succ d ih =>
    intro i h hd h0 h1
    refine Ev.step (fun _ => impl_Hash.l0.eq_2 ..) (ev_pos (by omega) (ev_pos (by omega) (ev_pos (by omega) (ev_bind0 (impl_Mod_val _ _ (by omega) (by omega)) ?_))))
    rw [hstep_wrap h _ h0 h1, w64 (by omega) (by omega), List.drop_eq_getElem_cons (show i < xs.length by omega), List.foldl_cons, ← rd_at xs i (by omega)]
    exact ih (i + 1) _ (by omega) (hstep_range _ _).1 (hstep_range _ _).2
theorem impl_Hash_ev (xs : List Int) (hn : xs.length ≤ 4611686018427387904) : Ev (fun k => impl_Hash.f k xs) (hashOf xs) := by
  unfold impl_Hash.f
  exact impl_Hash_l0 xs hn xs.length 0 11 (by omega) (by omega) (by omega)
theorem half_val (n : Nat) (h : n ≤ 4611686018427387904) : wrap64 (Int.tdiv (wrap64 ((n : Int) + 1)) 2) = (((n + 1) / 2 : Nat) : Int) := by
  rw [w64 (x := (n : Int) + 1) (by omega) (by omega), Int.tdiv_eq_ediv_of_nonneg (by omega), w64 (by omega) (by omega)]
  omega
theorem at_val (a b : Int) : impl_at.f a b = some (decide (0 ≤ a ∧ a < b)) := by
  unfold impl_at.f
  by_cases h : a ≥ 0
  · rw [if_pos h]; simp [h]
  · rw [if_neg h]; simp [h]
def sidesOf (n i : Nat) : List Bool :=
  if n ≤ 1 then [] else
  if (n + 1) / 2 ≤ i then true :: sidesOf (n - (n + 1) / 2) (i - (n + 1) / 2) else false :: sidesOf ((n + 1) / 2) i
termination_by n
theorem sidesOf_nil (n i : Nat) (h : n ≤ 1) : sidesOf n i = [] := by rw [sidesOf, if_pos h]
theorem sidesOf_right (n i : Nat) (h : ¬ n ≤ 1) (hi : (n + 1) / 2 ≤ i) : sidesOf n i = true :: sidesOf (n - (n + 1) / 2) (i - (n + 1) / 2) := by rw [sidesOf, if_neg h, if_pos hi]
theorem sidesOf_left (n i : Nat) (h : ¬ n ≤ 1) (hi : ¬ (n + 1) / 2 ≤ i) : sidesOf n i = false :: sidesOf ((n + 1) / 2) i := by rw [sidesOf, if_neg h, if_neg hi]
def turnStep (d : Int) (p : Int × Bool) : Int := if p.2 = true then hashOf [p.1, d] else hashOf [d, p.1]
def climb : List Bool → List Int → Int → Int
  | [], _, d => d
  | s :: r, p, d => turnStep (climb r p.dropLast d) (rd p ((p.length - 1 : Nat) : Int), s)
theorem climb_fold : ∀ (w : List Bool) (p : List Int) (d : Int), p.length = w.length → (p.zip w.reverse).foldl turnStep d = climb w p d := by
  intro w
  induction w with
  | nil => intro p d h; simp [climb]
  | cons s r ih =>
    intro p d h
    have hp : p ≠ [] := by intro e; rw [e] at h; simp at h
    have e : p = p.dropLast ++ [p.getLast hp] := (List.dropLast_concat_getLast hp).symm
    have hl : p.dropLast.length = r.length := by rw [List.length_dropLast, h]; simp
    have hg : rd p ((p.length - 1 : Nat) : Int) = p.getLast hp := by
      rw [rd_at p _ (by have := List.length_pos_iff.2 hp; omega), List.getLast_eq_getElem]
    rw [climb, hg, ← ih p.dropLast d hl]
    conv => lhs; rw [e]
    rw [List.reverse_cons, List.zip_append (by rw [hl, List.length_reverse]), List.foldl_append]
    rfl
theorem impl_sides_l0 : ∀ (m n i : Nat) (out : List Bool), n ≤ m → n ≤ 1073741824 → i ≤ 1073741824 → out.length + n ≤ 4294967296 → Ev (fun k => impl_sides.l0 k (n : Int) (i : Int) out) (out ++ sidesOf n i) := by
  intro m
  induction m with
  | zero =>
    intro n i out h hn hi ho
    refine Ev.step (fun _ => impl_sides.l0.eq_2 ..) (ev_neg (by omega) (ev_of ?_))
    rw [sidesOf_nil n i (by omega), List.append_nil]
  | succ m ih =>
    intro n i out h hn hi ho
    refine Ev.step (fun _ => impl_sides.l0.eq_2 ..) ?_
    by_cases h1 : n ≤ 1
    · refine ev_neg (by omega) (ev_of ?_)
      rw [sidesOf_nil n i h1, List.append_nil]
    refine ev_pos (by omega) (ev_pos (by omega) (ev_bind0 rfl ?_))
    rw [half_val n (by omega)]
    by_cases hs : (n + 1) / 2 ≤ i
    · refine ev_pos (by omega) ?_
      have e := ih (n - (n + 1) / 2) (i - (n + 1) / 2) (out ++ [true]) (by omega) (by omega) (by omega) (by simp only [List.length_append, List.length_singleton]; omega)
      rw [w64 (by omega) (by omega), w64 (by omega) (by omega), show (n : Int) - (((n + 1) / 2 : Nat) : Int) = ((n - (n + 1) / 2 : Nat) : Int) by omega, show (i : Int) - (((n + 1) / 2 : Nat) : Int) = ((i - (n + 1) / 2 : Nat) : Int) by omega,
        show decide ((i : Int) ≥ (((n + 1) / 2 : Nat) : Int)) = true from decide_eq_true (by omega), sidesOf_right n i h1 hs]
      rw [List.append_assoc, List.singleton_append] at e
      exact e
    · refine ev_neg (by omega) ?_
      have e := ih ((n + 1) / 2) i (out ++ [false]) (by omega) (by omega) (by omega) (by simp only [List.length_append, List.length_singleton]; omega)
      rw [show decide ((i : Int) ≥ (((n + 1) / 2 : Nat) : Int)) = false from decide_eq_false (by omega), sidesOf_left n i h1 hs]
      rw [List.append_assoc, List.singleton_append] at e
      exact e
theorem impl_sides_ev (n i : Nat) (hn : n ≤ 1073741824) (hi : i ≤ 1073741824) : Ev (fun k => impl_sides.f k (n : Int) (i : Int)) (sidesOf n i) := by
  unfold impl_sides.f
  have e := impl_sides_l0 n n i [] (Nat.le_refl _) hn hi (by simp only [List.length_nil]; omega)
  rw [List.nil_append] at e
  exact e
theorem spec_DepthOf_l0 : ∀ (m n i : Nat) (d : Nat), n ≤ m → n ≤ 1073741824 → i ≤ 1073741824 → d + n ≤ 4294967296 → Ev (fun k => spec_DepthOf.l0 k (n : Int) (i : Int) (d : Int)) ((d + (sidesOf n i).length : Nat) : Int) := by
  intro m
  induction m with
  | zero =>
    intro n i d h hn hi ho
    refine Ev.step (fun _ => spec_DepthOf.l0.eq_2 ..) (ev_neg (by omega) (ev_of ?_))
    rw [sidesOf_nil n i (by omega)]
    rfl
  | succ m ih =>
    intro n i d h hn hi ho
    refine Ev.step (fun _ => spec_DepthOf.l0.eq_2 ..) ?_
    by_cases h1 : n ≤ 1
    · refine ev_neg (by omega) (ev_of ?_)
      rw [sidesOf_nil n i h1]
      rfl
    refine ev_pos (by omega) ?_
    rw [half_val n (by omega), w64 (x := (d : Int) + 1) (by omega) (by omega)]
    by_cases hs : (n + 1) / 2 ≤ i
    · refine ev_neg (by omega) ?_
      have e := ih (n - (n + 1) / 2) (i - (n + 1) / 2) (d + 1) (by omega) (by omega) (by omega) (by omega)
      rw [w64 (by omega) (by omega), w64 (by omega) (by omega), show (n : Int) - (((n + 1) / 2 : Nat) : Int) = ((n - (n + 1) / 2 : Nat) : Int) by omega, show (i : Int) - (((n + 1) / 2 : Nat) : Int) = ((i - (n + 1) / 2 : Nat) : Int) by omega,
        sidesOf_right n i h1 hs, List.length_cons, show d + ((sidesOf (n - (n + 1) / 2) (i - (n + 1) / 2)).length + 1) = d + 1 + (sidesOf (n - (n + 1) / 2) (i - (n + 1) / 2)).length by omega]
      exact e
    · refine ev_pos (by omega) ?_
      have e := ih ((n + 1) / 2) i (d + 1) (by omega) (by omega) (by omega) (by omega)
      rw [sidesOf_left n i h1 hs, List.length_cons, show d + ((sidesOf ((n + 1) / 2) i).length + 1) = d + 1 + (sidesOf ((n + 1) / 2) i).length by omega]
      exact e
def depthOf (a b : Int) : Int := if 1 ≤ a ∧ a ≤ 1000 ∧ 0 ≤ b ∧ b < a then ((sidesOf a.toNat b.toNat).length : Int) else -1
theorem spec_DepthOf_ev (a b : Int) : Ev (fun k => spec_DepthOf.f k a b) (depthOf a b) := by
  unfold spec_DepthOf.f depthOf
  by_cases h1 : a < 1
  · rw [if_neg (by omega)]
    exact ev_pos h1 (Ev.step (fun _ => spec_DepthOf.j0.eq_2 ..) (ev_pos rfl (Ev.now _)))
  by_cases h2 : a > 1000
  · rw [if_neg (by omega)]
    exact ev_neg h1 (ev_pos h2 (Ev.step (fun _ => spec_DepthOf.j0.eq_2 ..) (ev_pos rfl (Ev.now _))))
  refine ev_neg h1 (ev_neg h2 (ev_bind0 (l1In_val _ _ _) (Ev.step (fun _ => spec_DepthOf.j0.eq_2 ..) ?_)))
  rw [w64 (by omega) (by omega)]
  by_cases h3 : 0 ≤ b ∧ b < a
  · rw [if_pos (by omega)]
    refine ev_neg (by simp only [Bool.not_eq_true', decide_eq_false_iff_not]; omega) ?_
    have e := spec_DepthOf_l0 a.toNat a.toNat b.toNat 0 (Nat.le_refl _) (by omega) (by omega) (by omega)
    rw [Int.toNat_of_nonneg (by omega), Int.toNat_of_nonneg h3.1, Nat.zero_add] at e
    exact e
  · rw [if_neg (by omega)]
    exact ev_pos (by simp only [Bool.not_eq_true', decide_eq_false_iff_not]; omega) (Ev.now _)
theorem spec_l6Root_ev (d : Int) : ∀ (m n i : Nat) (p : List Int), n ≤ m → n ≤ 1073741824 → i ≤ 1073741824 → p.length = (sidesOf n i).length → p.length ≤ 1099511627776 → Ev (fun k => spec_l6Root.f k (n : Int) (i : Int) d p) (climb (sidesOf n i) p d) := by
  intro m
  induction m with
  | zero =>
    intro n i p h hn hi hp hl
    refine Ev.step (fun _ => spec_l6Root.f.eq_2 ..) (ev_pos (by omega) (ev_of ?_))
    rw [sidesOf_nil n i (by omega), climb]
  | succ m ih =>
    intro n i p h hn hi hp hl
    refine Ev.step (fun _ => spec_l6Root.f.eq_2 ..) ?_
    by_cases h1 : n ≤ 1
    · refine ev_pos (by omega) (ev_of ?_)
      rw [sidesOf_nil n i h1, climb]
    have hpos : 0 < p.length := by
      rw [hp]
      by_cases hs : (n + 1) / 2 ≤ i
      · rw [sidesOf_right n i h1 hs]; simp
      · rw [sidesOf_left n i h1 hs]; simp
    have hw : wrap64 ((p.length : Int) - 1) = ((p.length - 1 : Nat) : Int) := by rw [w64 (by omega) (by omega)]; omega
    refine ev_neg (by omega) ?_
    rw [hw, half_val n (by omega), Int.toNat_natCast]
    refine ev_pos (by omega) (ev_pos (by omega) (ev_pos (by omega) ?_))
    rw [← List.dropLast_eq_take]
    by_cases hs : (n + 1) / 2 ≤ i
    · refine ev_neg (by omega) ?_
      rw [sidesOf_right n i h1 hs] at hp ⊢
      rw [climb, w64 (by omega) (by omega), w64 (by omega) (by omega), show (n : Int) - (((n + 1) / 2 : Nat) : Int) = ((n - (n + 1) / 2 : Nat) : Int) by omega, show (i : Int) - (((n + 1) / 2 : Nat) : Int) = ((i - (n + 1) / 2 : Nat) : Int) by omega]
      refine Ev.bind (ih _ _ p.dropLast (by omega) (by omega) (by omega) (by rw [List.length_dropLast, hp]; simp) (by rw [List.length_dropLast]; omega)) ?_
      exact Ev.bind (spec_Hash_ev _ (by simp)) (Ev.now _)
    · refine ev_pos (by omega) ?_
      rw [sidesOf_left n i h1 hs] at hp ⊢
      rw [climb]
      refine Ev.bind (ih _ _ p.dropLast (by omega) (by omega) (by omega) (by rw [List.length_dropLast, hp]; simp) (by rw [List.length_dropLast]; omega)) ?_
      exact Ev.bind (spec_Hash_ev _ (by simp)) (Ev.now _)
def checkPath (root n i d : Int) (p : List Int) : Bool :=
  decide (1 ≤ n ∧ n ≤ 1000 ∧ 0 ≤ i ∧ i < n ∧ p.length = (sidesOf n.toNat i.toNat).length ∧ climb (sidesOf n.toNat i.toNat) p d = root)
theorem spec_CheckPath_ev (root n i d : Int) (p : List Int) (hl : p.length ≤ 1099511627776) : Ev (fun k => spec_CheckPath.f k root n i d p) (checkPath root n i d p) := by
  unfold spec_CheckPath.f checkPath
  refine Ev.bind (spec_DepthOf_ev n i) ?_
  unfold depthOf
  by_cases h : 1 ≤ n ∧ n ≤ 1000 ∧ 0 ≤ i ∧ i < n
  · rw [if_pos h]
    refine ev_pos (by omega) ?_
    by_cases hp : p.length = (sidesOf n.toNat i.toNat).length
    · refine ev_pos (by omega) ?_
      have e := spec_l6Root_ev d n.toNat n.toNat i.toNat p (Nat.le_refl _) (by omega) (by omega) hp hl
      rw [Int.toNat_of_nonneg (by omega), Int.toNat_of_nonneg h.2.2.1] at e
      refine Ev.bind e (ev_of ?_)
      simp only [h.1, h.2.1, h.2.2.1, h.2.2.2, hp, true_and, Option.some.injEq]
      rw [Bool.eq_iff_iff]
      simp
    · refine ev_neg (by omega) (ev_of ?_)
      rw [decide_eq_false (fun h => hp h.2.2.2.2.1)]
  · rw [if_neg h]
    refine ev_neg (by omega) (ev_of ?_)
    rw [decide_eq_false (fun h' => h ⟨h'.1, h'.2.1, h'.2.2.1, h'.2.2.2.1⟩)]
theorem impl_CheckPath_l0 (root : Int) (w : List Bool) (p : List Int) (hw : p.length = w.length) (hb : p.length ≤ 1073741824) : ∀ (e j : Nat) (d : Int), j + e = p.length → Ev (fun k => impl_CheckPath.l0 k root d w p (p.length : Int) (j : Int)) (decide (((p.zip w.reverse).drop j).foldl turnStep d = root)) := by
  intro e
  induction e with
  | zero =>
    intro j d h
    refine Ev.step (fun _ => impl_CheckPath.l0.eq_2 ..) (ev_neg (by omega) (ev_of ?_))
    rw [List.drop_eq_nil_of_le (by rw [List.length_zip, List.length_reverse]; omega), List.foldl_nil]
    rw [Option.some.injEq, Bool.eq_iff_iff]
    simp
  | succ e ih =>
    intro j d h
    have e1 : wrap64 ((wrap64 ((w.length : Int) - 1)) - (j : Int)) = ((w.length - 1 - j : Nat) : Int) := by
      rw [w64 (x := (w.length : Int) - 1) (by omega) (by omega), w64 (by omega) (by omega)]
      omega
    have e2 : rdOf false w ((w.length - 1 - j : Nat) : Int) = w.reverse[j]'(by rw [List.length_reverse]; omega) := by
      unfold rdOf
      rw [Int.toNat_natCast, List.getD_eq_getElem?_getD, List.getElem?_eq_getElem (by omega), List.getElem_reverse]
      rfl
    refine Ev.step (fun _ => impl_CheckPath.l0.eq_2 ..) (ev_pos (by omega) (ev_pos (by omega) (ev_pos (by omega) ?_)))
    rw [e1, e2, rd_at p j (by omega), w64 (x := (j : Int) + 1) (by omega) (by omega)]
    refine ev_pos (by omega) (ev_pos (by omega) ?_)
    have hz : j < (p.zip w.reverse).length := by rw [List.length_zip, List.length_reverse]; omega
    rw [List.drop_eq_getElem_cons hz, List.foldl_cons, List.getElem_zip]
    by_cases hs : w.reverse[j]'(by rw [List.length_reverse]; omega) = true
    · refine ev_pos hs (Ev.bind (impl_Hash_ev _ (by simp)) ?_)
      have t : turnStep d (p[j]'(by omega), w.reverse[j]'(by rw [List.length_reverse]; omega)) = hashOf [p[j]'(by omega), d] := by unfold turnStep; rw [if_pos hs]
      rw [t]
      exact ih (j + 1) _ (by omega)
    · refine ev_neg hs (Ev.bind (impl_Hash_ev _ (by simp)) ?_)
      have t : turnStep d (p[j]'(by omega), w.reverse[j]'(by rw [List.length_reverse]; omega)) = hashOf [d, p[j]'(by omega)] := by unfold turnStep; rw [if_neg hs]
      rw [t]
      exact ih (j + 1) _ (by omega)
theorem impl_CheckPath_ev (root n i d : Int) (p : List Int) (hl : p.length ≤ 1073741824) : Ev (fun k => impl_CheckPath.f k root n i d p) (checkPath root n i d p) := by
  unfold impl_CheckPath.f checkPath
  refine ev_bind0 (at_val _ _) ?_
  by_cases h : 0 ≤ i ∧ i < n
  · refine ev_pos (decide_eq_true h) (Ev.step (fun _ => impl_CheckPath.j0.eq_2 ..) ?_)
    by_cases h2 : n > 1000
    · refine ev_pos (decide_eq_true h2) (ev_of ?_)
      rw [decide_eq_false (by omega)]
    refine ev_neg (by simp only [decide_eq_true_eq]; exact h2) ?_
    have e := impl_sides_ev n.toNat i.toNat (by omega) (by omega)
    rw [Int.toNat_of_nonneg (by omega), Int.toNat_of_nonneg h.1] at e
    refine Ev.bind e ?_
    by_cases hp : p.length = (sidesOf n.toNat i.toNat).length
    · refine ev_pos (by omega) ?_
      have e2 := impl_CheckPath_l0 root (sidesOf n.toNat i.toNat) p hp hl p.length 0 d (by omega)
      rw [List.drop_zero, climb_fold _ _ _ hp] at e2
      have e3 : decide (1 ≤ n ∧ n ≤ 1000 ∧ 0 ≤ i ∧ i < n ∧ p.length = (sidesOf n.toNat i.toNat).length ∧ climb (sidesOf n.toNat i.toNat) p d = root) = decide (climb (sidesOf n.toNat i.toNat) p d = root) := by
        rw [decide_eq_decide]
        exact ⟨fun h => h.2.2.2.2.2, fun h' => ⟨by omega, by omega, h.1, h.2, hp, h'⟩⟩
      rw [e3]
      exact e2
    · refine ev_neg (by omega) (ev_of ?_)
      rw [decide_eq_false (fun h => hp h.2.2.2.2.1)]
  · refine ev_neg (by simp only [decide_eq_true_eq]; exact h) (Ev.step (fun _ => impl_CheckPath.j0.eq_2 ..) (ev_pos rfl (ev_of ?_)))
    rw [decide_eq_false (fun h' => h ⟨h'.2.2.1, h'.2.2.2.1⟩)]
theorem FnExactCheckPath : ∀ (x0 : Int) (x1 : Int) (x2 : Int) (x3 : Int) (x4 : List Int), ((Lit.int .i64 x0).wf = true) → ((Lit.int .i64 x1).wf = true) → ((Lit.int .i64 x2).wf = true) → ((Lit.int .i64 x3).wf = true) → (x4.length ≤ 9223372036854775807 ∧ ∀ y ∈ x4, (Lit.int .i64 y).wf = true) → ∃ k, laws_FnExactCheckPath.f k x0 x1 x2 x3 x4 = some true := by
  intro root n i d l _ _ _ _ hl
  obtain ⟨hl, hw⟩ := hl
  refine Ev.rounds (g := fun k => laws_FnExactCheckPath.f k root n i d l) ?_
  unfold laws_FnExactCheckPath.f
  by_cases hb : (l.length : Int) > 1048576
  · exact ev_pos hb (Ev.now true)
  refine ev_neg hb ?_
  refine Ev.bind (toIntS_ev l (by omega)) ?_
  refine Ev.bind (spec_CheckPath_ev root n i d l (by omega)) ?_
  refine Ev.bind (toIntS_ev l (by omega)) ?_
  refine Ev.bind (impl_CheckPath_ev root n i d l (by omega)) (ev_neg (by simp) ?_)
  refine Ev.bind (toIntS_ev l (by omega)) ?_
  exact Ev.bind (eqIntS_same l (by omega)) (ev_pos rfl (Ev.now true))

end Go.Proofs.Ytgcidlnhgpjdpac.Pure
