/- The pure statement behind the law FnExactIsWorth: over numbers and lists the law answers true, at every input that the row's bounds let in. -/
import Derived.Test.YtgcidlnhgpjdpabQFnExactIsWorthx3
import Derived.Test.YtgcidlnhgpjdpabQFnExactIsWorthg
namespace Go.Proofs.Ytgcidlnhgpjdpab.Pure
open Go Go.RowKit Go.Proofs.Ytgcidlnhgpjdpab.QFnExactIsWorth Go.Proofs.YtgcidlnhgpjdpabW.PrintWords Go.Proofs.YtgcidlnhgpjdpabW.PrintLast Go.Proofs.YtgcidlnhgpjdpabW.PrintMore
set_option linter.unusedVariables false
set_option linter.unusedSimpArgs false
set_option maxRecDepth 100000

theorem w64 {x : Int} (h0 : -9223372036854775808 ≤ x) (h1 : x ≤ 9223372036854775807) : wrap64 x = x := by unfold wrap64; omega
theorem ev_pos {α : Type} {c : Prop} [Decidable c] {g f : Nat → Option α} {r : α} (h : c) (k : Ev g r) : Ev (fun n => if c then g n else f n) r := by
  obtain ⟨K, hK⟩ := k
  exact ⟨K, fun n hn => (if_pos h).trans (hK n hn)⟩
theorem ev_neg {α : Type} {c : Prop} [Decidable c] {g f : Nat → Option α} {r : α} (h : ¬ c) (k : Ev f r) : Ev (fun n => if c then g n else f n) r := by
  obtain ⟨K, hK⟩ := k
  exact ⟨K, fun n hn => (if_neg h).trans (hK n hn)⟩
theorem ev_bind0 {α β : Type} {o : Option α} {f : Nat → α → Option β} {a : α} {r : β} (h : o = some a) (k : Ev (fun n => f n a) r) : Ev (fun n => o.bind (f n)) r := by
  subst h
  exact k
theorem ev_of {α : Type} {o : Option α} {r : α} (h : o = some r) : Ev (fun _ => o) r := ⟨0, fun _ _ => h⟩
theorem rd_at (xs : List Int) (i : Nat) (h : i < xs.length) : rd xs (i : Int) = xs[i] := by
  unfold rd
  rw [Int.toNat_natCast, List.getD_eq_getElem?_getD, List.getElem?_eq_getElem h]
  rfl
theorem set_take {out xs : List Int} {i : Nat} (h : out.take i = xs.take i) (hl : out.length = xs.length) (hi : i < xs.length) : (out.set ((i : Int)).toNat (rd xs i)).take (i + 1) = xs.take (i + 1) := by
  rw [rd_at xs i hi, Int.toNat_natCast, List.take_succ_eq_append_getElem hi, List.take_succ_eq_append_getElem (by rw [List.length_set]; omega)]
  rw [List.take_set_of_le (Nat.le_refl _), h]
  simp
theorem toIntS_l0 (xs : List Int) (hn : xs.length ≤ 35184372088832) : ∀ (d i : Nat) (out : List Int), i + d = xs.length → out.length = xs.length → out.take i = xs.take i → Ev (fun k => laws_toIntS.l0 k xs out (i : Int)) xs := by
  intro d
  induction d with
  | zero =>
    intro i out hd hl ht
    refine Ev.step (fun _ => laws_toIntS.l0.eq_2 ..) (ev_neg (by omega) (ev_of ?_))
    rw [List.take_of_length_le (by omega), List.take_of_length_le (by omega)] at ht
    rw [ht]
  | succ d ih =>
    intro i out hd hl ht
    refine Ev.step (fun _ => laws_toIntS.l0.eq_2 ..) (ev_pos (by omega) (ev_pos (by omega) (ev_pos (by omega) ?_)))
    rw [w64 (by omega) (by omega)]
    exact ih (i + 1) _ (by omega) (by rw [List.length_set]; exact hl) (set_take ht hl (by omega))
theorem toIntS_ev (xs : List Int) (hn : xs.length ≤ 35184372088832) : Ev (fun k => laws_toIntS.f k xs) xs := by
  unfold laws_toIntS.f
  refine ev_pos (by omega) (ev_pos (by omega) ?_)
  exact toIntS_l0 xs hn xs.length 0 _ (by omega) (by simp) (by simp)
theorem eqIntS_l0 (xs : List Int) (hn : xs.length ≤ 9223372036854775807) : ∀ (d i : Nat), i + d = xs.length → Ev (fun k => laws_eqIntS.l0 k xs xs (i : Int)) true := by
  intro d
  induction d with
  | zero =>
    intro i hd
    exact Ev.step (fun _ => laws_eqIntS.l0.eq_2 ..) (ev_neg (by omega) (Ev.now true))
  | succ d ih =>
    intro i hd
    refine Ev.step (fun _ => laws_eqIntS.l0.eq_2 ..) (ev_pos (by omega) (ev_pos (by omega) (ev_pos (by omega) (ev_pos rfl ?_))))
    rw [w64 (by omega) (by omega)]
    exact ih (i + 1) (by omega)
theorem eqIntS_same (xs : List Int) (hn : xs.length ≤ 9223372036854775807) : Ev (fun k => laws_eqIntS.f k xs xs) true := by
  unfold laws_eqIntS.f
  exact ev_pos rfl (eqIntS_l0 xs hn xs.length 0 (by omega))
theorem getD_at {α : Type} (xs : List α) (z : α) (i : Nat) (h : i < xs.length) : xs.getD ((i : Int)).toNat z = xs[i] := by
  rw [Int.toNat_natCast, List.getD_eq_getElem?_getD, List.getElem?_eq_getElem h]
  rfl
theorem rd1Piece (xs : List S81) (i : Nat) (h : i < xs.length) : rd_T81 xs (i : Int) = xs[i] := getD_at xs z81 i h
def costW (xs : List S81) (n : Int) : Int := xs.foldl (fun n x => wrap64 (n + (x.f2.length : Int))) n
theorem spec_CostOf_l0 (xs : List S81) (hn : xs.length ≤ 1048576) : ∀ (d i : Nat) (n : Int), i + d = xs.length → Ev (fun k => spec_CostOf.l0 k xs n (i : Int)) (costW (xs.drop i) n) := by
  intro d
  induction d with
  | zero =>
    intro i n hd
    refine Ev.step (fun _ => spec_CostOf.l0.eq_2 ..) (ev_neg (by omega) (ev_of ?_))
    rw [List.drop_eq_nil_of_le (by omega)]
    rfl
  | succ d ih =>
    intro i n hd
    have hlt : i < xs.length := by omega
    refine Ev.step (fun _ => spec_CostOf.l0.eq_2 ..) (ev_pos (by omega) (ev_pos (by omega) ?_))
    rw [rd1Piece xs i hlt, List.drop_eq_getElem_cons hlt, w64 (x := (i : Int) + 1) (by omega) (by omega)]
    exact ih (i + 1) _ (by omega)
theorem impl_CostOf_l0 (xs : List S81) (hn : xs.length ≤ 1048576) : ∀ (d i : Nat) (n : Int), i + d = xs.length → Ev (fun k => impl_CostOf.l0 k n xs (xs.length : Int) (i : Int)) (costW (xs.drop i) n) := by
  intro d
  induction d with
  | zero =>
    intro i n hd
    refine Ev.step (fun _ => impl_CostOf.l0.eq_2 ..) (ev_neg (by omega) (ev_of ?_))
    rw [List.drop_eq_nil_of_le (by omega)]
    rfl
  | succ d ih =>
    intro i n hd
    have hlt : i < xs.length := by omega
    refine Ev.step (fun _ => impl_CostOf.l0.eq_2 ..) (ev_pos (by omega) (ev_pos (by omega) (ev_pos (by omega) ?_)))
    rw [rd1Piece xs i hlt, List.drop_eq_getElem_cons hlt, w64 (x := (i : Int) + 1) (by omega) (by omega)]
    exact ih (i + 1) _ (by omega)
def pcs (x y : List Int) (h b : Nat) : List S81 := [(⟨0, (h : Int), (y.take (y.length - b)).drop h⟩ : S81), (⟨(x.length : Int) - (b : Int), (b : Int), []⟩ : S81)]
structure Good (x y : List Int) (h b : Nat) : Prop where
  fit0 : h + b ≤ x.length
  fit1 : h + b ≤ y.length
  head : ∀ j, j < h → x[j]? = y[j]?
  tail : ∀ j, j < b → x[x.length - 1 - j]? = y[y.length - 1 - j]?
theorem clone_val (l : List Int) (hl : l.length ≤ 1048576) : slices_Clone_int_int.f l = some l := by
  unfold slices_Clone_int_int.f
  rw [Option.bind_some, if_pos (by simp; omega), List.nil_append]
theorem cut_val (y : List Int) (h b : Nat) (hy : y.length ≤ 100) (hf : h + b ≤ y.length) : (y.take ((wrap64 ((y.length : Int) - (b : Int))) : Int).toNat).drop ((h : Int) : Int).toNat = (y.take (y.length - b)).drop h := by
  rw [w64 (by omega) (by omega), show ((y.length : Int) - (b : Int)).toNat = y.length - b by omega, Int.toNat_natCast]
theorem pieces_l1 (x y : List Int) (hx : x.length ≤ 100) (hy : y.length ≤ 100) (h : Nat) (hh : ∀ j, j < h → x[j]? = y[j]?) : ∀ (d b : Nat), h + b + d = min x.length y.length → (∀ j, j < b → x[x.length - 1 - j]? = y[y.length - 1 - j]?) → ∃ b', Ev (fun k => spec_PiecesOf.l1 k x y (h : Int) (b : Int)) (pcs x y h b') ∧ Ev (fun k => impl_PiecesOf.l1 k x y (mn (x.length : Int) (y.length : Int)) (h : Int) (b : Int)) (pcs x y h b') ∧ Good x y h b' := by
  intro d
  have hmn : mn (x.length : Int) (y.length : Int) = ((min x.length y.length : Nat) : Int) := by unfold mn; split <;> omega
  have specEnd : ∀ b : Nat, h + b ≤ y.length → h + b ≤ x.length → Ev (fun _ => (some (([] : List Int) : List Int)).bind fun y109 => (if 0 ≤ (h : Int) then (if (h : Int) ≤ (wrap64 ((y.length : Int) - (b : Int))) then (if (wrap64 ((y.length : Int) - (b : Int))) ≤ (y.length : Int) then (if y109.length + ((y.take ((wrap64 ((y.length : Int) - (b : Int))) : Int).toNat).drop ((h : Int) : Int).toNat).length < 17592186044416 then (some (([(⟨0, (h : Int), (y109 ++ ((y.take ((wrap64 ((y.length : Int) - (b : Int))) : Int).toNat).drop ((h : Int) : Int).toNat))⟩ : S81), (⟨wrap64 ((x.length : Int) - (b : Int)), (b : Int), ([] : List Int)⟩ : S81)] : List (S81)))) else (none)) else (none)) else (none)) else (none))) (pcs x y h b) := by
    intro b h1 h2
    refine ev_bind0 rfl ?_
    rw [cut_val y h b hy h1, w64 (x := (y.length : Int) - (b : Int)) (by omega) (by omega), w64 (x := (x.length : Int) - (b : Int)) (by omega) (by omega), List.nil_append]
    exact ev_pos (by omega) (ev_pos (by omega) (ev_pos (by omega) (ev_pos (by rw [List.length_drop, List.length_take]; simp; omega) (Ev.now _))))
  have implEnd : ∀ b : Nat, h + b ≤ y.length → h + b ≤ x.length → Ev (fun _ => if 0 ≤ (h : Int) then (if (h : Int) ≤ (wrap64 ((y.length : Int) - (b : Int))) then (if (wrap64 ((y.length : Int) - (b : Int))) ≤ (y.length : Int) then ((slices_Clone_int_int.f ((y.take ((wrap64 ((y.length : Int) - (b : Int))) : Int).toNat).drop ((h : Int) : Int).toNat)).bind fun t161 => (some (([(⟨0, (h : Int), t161⟩ : S81), (⟨wrap64 ((x.length : Int) - (b : Int)), (b : Int), ([] : List Int)⟩ : S81)] : List (S81))))) else (none)) else (none)) else (none)) (pcs x y h b) := by
    intro b h1 h2
    rw [cut_val y h b hy h1, w64 (x := (y.length : Int) - (b : Int)) (by omega) (by omega), w64 (x := (x.length : Int) - (b : Int)) (by omega) (by omega)]
    exact ev_pos (by omega) (ev_pos (by omega) (ev_pos (by omega) (ev_bind0 (clone_val _ (by rw [List.length_drop, List.length_take]; omega)) (Ev.now _))))
  induction d with
  | zero =>
    intro b hd hb
    refine ⟨b, ?_, ?_, ⟨by omega, by omega, hh, hb⟩⟩
    · refine Ev.step (fun _ => spec_PiecesOf.l1.eq_2 ..) ?_
      rw [w64 (x := (h : Int) + (b : Int)) (by omega) (by omega)]
      by_cases c : (h : Int) + (b : Int) < (x.length : Int)
      · exact ev_pos c (ev_neg (by omega) (specEnd b (by omega) (by omega)))
      · exact ev_neg c (specEnd b (by omega) (by omega))
    · refine Ev.step (fun _ => impl_PiecesOf.l1.eq_2 ..) ?_
      rw [hmn, w64 (x := (h : Int) + (b : Int)) (by omega) (by omega)]
      exact ev_neg (by omega) (implEnd b (by omega) (by omega))
  | succ d ih =>
    intro b hd hb
    have e0 : wrap64 ((wrap64 ((x.length : Int) - 1)) - (b : Int)) = ((x.length - 1 - b : Nat) : Int) := by
      rw [w64 (x := (x.length : Int) - 1) (by omega) (by omega), w64 (by omega) (by omega)]
      omega
    have e1 : wrap64 ((wrap64 ((y.length : Int) - 1)) - (b : Int)) = ((y.length - 1 - b : Nat) : Int) := by
      rw [w64 (x := (y.length : Int) - 1) (by omega) (by omega), w64 (by omega) (by omega)]
      omega
    have i0 : x.length - 1 - b < x.length := by omega
    have i1 : y.length - 1 - b < y.length := by omega
    by_cases c : x[x.length - 1 - b]'i0 = y[y.length - 1 - b]'i1
    · have hb2 : ∀ j, j < b + 1 → x[x.length - 1 - j]? = y[y.length - 1 - j]? := by
        intro j hj
        by_cases e : j = b
        · subst e
          rw [List.getElem?_eq_getElem i0, List.getElem?_eq_getElem i1, c]
        · exact hb j (by omega)
      obtain ⟨b', s1, s2, s3⟩ := ih (b + 1) (by omega) hb2
      refine ⟨b', ?_, ?_, s3⟩
      · refine Ev.step (fun _ => spec_PiecesOf.l1.eq_2 ..) ?_
        rw [w64 (x := (h : Int) + (b : Int)) (by omega) (by omega), e0, e1, rd_at x _ i0, rd_at y _ i1, w64 (x := (b : Int) + 1) (by omega) (by omega)]
        exact ev_pos (by omega) (ev_pos (by omega) (ev_pos (by omega) (ev_pos (by omega) (ev_pos (by omega) (ev_pos (by omega) (ev_pos c s1))))))
      · refine Ev.step (fun _ => impl_PiecesOf.l1.eq_2 ..) ?_
        rw [hmn] at s2 ⊢
        rw [w64 (x := (h : Int) + (b : Int)) (by omega) (by omega), e0, e1, rd_at x _ i0, rd_at y _ i1, w64 (x := (b : Int) + 1) (by omega) (by omega)]
        exact ev_pos (by omega) (ev_pos (by omega) (ev_pos (by omega) (ev_pos (by omega) (ev_pos (by omega) (ev_pos c s2)))))
    · refine ⟨b, ?_, ?_, ⟨by omega, by omega, hh, hb⟩⟩
      · refine Ev.step (fun _ => spec_PiecesOf.l1.eq_2 ..) ?_
        rw [w64 (x := (h : Int) + (b : Int)) (by omega) (by omega), e0, e1, rd_at x _ i0, rd_at y _ i1]
        exact ev_pos (by omega) (ev_pos (by omega) (ev_pos (by omega) (ev_pos (by omega) (ev_pos (by omega) (ev_pos (by omega) (ev_neg c (specEnd b (by omega) (by omega))))))))
      · refine Ev.step (fun _ => impl_PiecesOf.l1.eq_2 ..) ?_
        rw [hmn, w64 (x := (h : Int) + (b : Int)) (by omega) (by omega), e0, e1, rd_at x _ i0, rd_at y _ i1]
        exact ev_pos (by omega) (ev_pos (by omega) (ev_pos (by omega) (ev_pos (by omega) (ev_pos (by omega) (ev_neg c (implEnd b (by omega) (by omega)))))))
theorem pieces_l0 (x y : List Int) (hx : x.length ≤ 100) (hy : y.length ≤ 100) : ∀ (d h : Nat), h + d = min x.length y.length → (∀ j, j < h → x[j]? = y[j]?) → ∃ h' b', Ev (fun k => spec_PiecesOf.l0 k x y (h : Int)) (pcs x y h' b') ∧ Ev (fun k => impl_PiecesOf.l0 k x y (mn (x.length : Int) (y.length : Int)) (h : Int)) (pcs x y h' b') ∧ Good x y h' b' := by
  intro d
  have hmn : mn (x.length : Int) (y.length : Int) = ((min x.length y.length : Nat) : Int) := by unfold mn; split <;> omega
  induction d with
  | zero =>
    intro h hd hh
    obtain ⟨b', s1, s2, s3⟩ := pieces_l1 x y hx hy h hh (min x.length y.length - h) 0 (by omega) (fun j hj => by omega)
    have t1 : Ev (fun k => spec_PiecesOf.j2 k x y (h : Int)) (pcs x y h b') := Ev.step (fun _ => spec_PiecesOf.j2.eq_2 ..) s1
    have t2 : Ev (fun k => impl_PiecesOf.j2 k x y (mn (x.length : Int) (y.length : Int)) (h : Int)) (pcs x y h b') := Ev.step (fun _ => impl_PiecesOf.j2.eq_2 ..) s2
    refine ⟨h, b', Ev.step (fun _ => spec_PiecesOf.l0.eq_2 ..) ?_, Ev.step (fun _ => impl_PiecesOf.l0.eq_2 ..) ?_, s3⟩
    · by_cases c : (h : Int) < (x.length : Int)
      · exact ev_pos c (ev_neg (by omega) t1)
      · exact ev_neg c t1
    · exact ev_neg (by rw [hmn]; omega) t2
  | succ d ih =>
    intro h hd hh
    have i0 : h < x.length := by omega
    have i1 : h < y.length := by omega
    by_cases c : x[h]'i0 = y[h]'i1
    · obtain ⟨h', b', s1, s2, s3⟩ := ih (h + 1) (by omega) (by
        intro j hj
        by_cases e : j = h
        · subst e
          rw [List.getElem?_eq_getElem i0, List.getElem?_eq_getElem i1, c]
        · exact hh j (by omega))
      refine ⟨h', b', Ev.step (fun _ => spec_PiecesOf.l0.eq_2 ..) ?_, Ev.step (fun _ => impl_PiecesOf.l0.eq_2 ..) ?_, s3⟩
      · rw [rd_at x h i0, rd_at y h i1, w64 (x := (h : Int) + 1) (by omega) (by omega)]
        exact ev_pos (by omega) (ev_pos (by omega) (ev_pos (by omega) (ev_pos c s1)))
      · rw [rd_at x h i0, rd_at y h i1, w64 (x := (h : Int) + 1) (by omega) (by omega)]
        exact ev_pos (by rw [hmn]; omega) (ev_pos (by omega) (ev_pos (by omega) (ev_pos (by omega) (ev_pos c s2))))
    · obtain ⟨b', s1, s2, s3⟩ := pieces_l1 x y hx hy h hh (min x.length y.length - h) 0 (by omega) (fun j hj => by omega)
      have t1 : Ev (fun k => spec_PiecesOf.j2 k x y (h : Int)) (pcs x y h b') := Ev.step (fun _ => spec_PiecesOf.j2.eq_2 ..) s1
      have t2 : Ev (fun k => impl_PiecesOf.j2 k x y (mn (x.length : Int) (y.length : Int)) (h : Int)) (pcs x y h b') := Ev.step (fun _ => impl_PiecesOf.j2.eq_2 ..) s2
      refine ⟨h, b', Ev.step (fun _ => spec_PiecesOf.l0.eq_2 ..) ?_, Ev.step (fun _ => impl_PiecesOf.l0.eq_2 ..) ?_, s3⟩
      · rw [rd_at x h i0, rd_at y h i1]
        exact ev_pos (by omega) (ev_pos (by omega) (ev_pos (by omega) (ev_neg c t1)))
      · rw [rd_at x h i0, rd_at y h i1]
        exact ev_pos (by rw [hmn]; omega) (ev_pos (by omega) (ev_pos (by omega) (ev_pos (by omega) (ev_neg c t2))))
theorem pieces_ev (x y : List Int) (hx : x.length ≤ 1048576) (hy : y.length ≤ 1048576) : ∃ P : List S81, Ev (fun k => spec_PiecesOf.f k x y) P ∧ Ev (fun k => impl_PiecesOf.f k x y) P ∧ ((P = [] ∧ ¬ (x.length ≤ 100 ∧ y.length ≤ 100)) ∨ (x.length ≤ 100 ∧ y.length ≤ 100 ∧ ∃ h b, P = pcs x y h b ∧ Good x y h b)) := by
  unfold spec_PiecesOf.f impl_PiecesOf.f
  by_cases c : x.length ≤ 100 ∧ y.length ≤ 100
  · obtain ⟨h, b, s1, s2, s3⟩ := pieces_l0 x y c.1 c.2 (min x.length y.length) 0 (by omega) (fun j hj => by omega)
    refine ⟨_, ?_, ?_, .inr ⟨c.1, c.2, h, b, rfl, s3⟩⟩
    · exact ev_neg (by omega) (Ev.step (fun _ => spec_PiecesOf.j0.eq_2 ..) (ev_neg (fun w => by have := of_decide_eq_true w; omega) s1))
    · exact ev_neg (by omega) (Ev.step (fun _ => impl_PiecesOf.j0.eq_2 ..) (ev_neg (fun w => by have := of_decide_eq_true w; omega) s2))
  · refine ⟨[], ?_, ?_, .inl ⟨rfl, c⟩⟩
    · by_cases c1 : (x.length : Int) > 100
      · exact ev_pos c1 (Ev.step (fun _ => spec_PiecesOf.j0.eq_2 ..) (ev_pos rfl (Ev.now _)))
      · exact ev_neg c1 (Ev.step (fun _ => spec_PiecesOf.j0.eq_2 ..) (ev_pos (decide_eq_true (by omega)) (Ev.now _)))
    · by_cases c1 : (x.length : Int) > 100
      · exact ev_pos c1 (Ev.step (fun _ => impl_PiecesOf.j0.eq_2 ..) (ev_pos rfl (Ev.now _)))
      · exact ev_neg c1 (Ev.step (fun _ => impl_PiecesOf.j0.eq_2 ..) (ev_pos (decide_eq_true (by omega)) (Ev.now _)))
theorem worth_ev (x y : List Int) (hx : x.length ≤ 1048576) (hy : y.length ≤ 1048576) : ∃ b : Bool, Ev (fun k => spec_IsWorth.f k x y) b ∧ Ev (fun k => impl_IsWorth.f k x y) b := by
  obtain ⟨P, e1, e2, hP⟩ := pieces_ev x y hx hy
  have hl : P.length ≤ 1048576 := by
    rcases hP with ⟨rfl, _⟩ | ⟨_, _, h, b, rfl, _⟩
    · exact Nat.zero_le _
    · show 2 ≤ _
      omega
  have c1 : Ev (fun k => spec_CostOf.f k P) (costW P (P.length : Int)) := by
    unfold spec_CostOf.f
    exact spec_CostOf_l0 P hl P.length 0 _ (by omega)
  have c2 : Ev (fun k => impl_CostOf.f k P) (costW P (P.length : Int)) := by
    unfold impl_CostOf.f
    exact impl_CostOf_l0 P hl P.length 0 _ (by omega)
  unfold spec_IsWorth.f impl_IsWorth.f
  exact ⟨_, Ev.bind e1 (Ev.bind c1 (Ev.now _)), Ev.bind e2 (Ev.bind c2 (Ev.now _))⟩
theorem FnExactIsWorth : ∀ (x0 : List Int) (x1 : List Int), (x0.length ≤ 9223372036854775807 ∧ ∀ y ∈ x0, (Lit.int .i64 y).wf = true) → (x1.length ≤ 9223372036854775807 ∧ ∀ y ∈ x1, (Lit.int .i64 y).wf = true) → ∃ k, laws_FnExactIsWorth.f k x0 x1 = some true := by
  intro x y hx hy
  refine Ev.rounds (g := fun k => laws_FnExactIsWorth.f k x y) ?_
  unfold laws_FnExactIsWorth.f
  by_cases h0 : (x.length : Int) > 1048576
  · exact ev_pos h0 (Ev.now true)
  by_cases h1 : (y.length : Int) > 1048576
  · exact ev_neg h0 (ev_pos h1 (Ev.now true))
  refine ev_neg h0 (ev_neg h1 ?_)
  have tx := toIntS_ev x (by omega)
  have ty := toIntS_ev y (by omega)
  have qx := eqIntS_same x (by omega)
  have qy := eqIntS_same y (by omega)
  obtain ⟨b, e1, e2⟩ := worth_ev x y (by omega) (by omega)
  exact Ev.bind tx (Ev.bind ty (Ev.bind e1 (Ev.bind tx (Ev.bind ty (Ev.bind e2 (ev_neg (by simp) (Ev.bind tx (Ev.bind qx (ev_pos rfl (Ev.bind ty (Ev.bind qy (ev_pos rfl (Ev.now true)))))))))))))

end Go.Proofs.Ytgcidlnhgpjdpab.Pure
