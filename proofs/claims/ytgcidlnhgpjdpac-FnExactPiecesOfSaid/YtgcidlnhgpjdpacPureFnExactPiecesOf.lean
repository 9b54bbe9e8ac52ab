/- The pure statement behind the law FnExactPiecesOf: over numbers and lists the law answers true, at every input that the row's bounds let in. -/
import Derived.Test.YtgcidlnhgpjdpacQFnExactPiecesOfx5
import Derived.Test.YtgcidlnhgpjdpacQFnExactPiecesOfg
namespace Go.Proofs.Ytgcidlnhgpjdpac.Pure
open Go Go.RowKit Go.Proofs.Ytgcidlnhgpjdpac.QFnExactPiecesOf Go.Proofs.YtgcidlnhgpjdpacW.PrintWords Go.Proofs.YtgcidlnhgpjdpacW.PrintLast Go.Proofs.YtgcidlnhgpjdpacW.PrintMore
set_option linter.unusedVariables false
set_option linter.unusedSimpArgs false
set_option maxRecDepth 100000

theorem w64 {x : Int} (h0 : -9223372036854775808 ≤ x) (h1 : x ≤ 9223372036854775807) : wrap64 x = x := by unfold wrap64; omega
theorem ev_pos {α : Type} {c : Prop} [Decidable c] {g f : Nat → Option α} {r : α} (h : c) (k : Ev g r) : Ev (fun n => if c then g n else f n) r := by
  obtain ⟨K, hK⟩ := k
  exact ⟨K, fun n hn => (if_pos h).trans (hK n hn)⟩
theorem ev_neg {α : Type} {c : Prop} [Decidable c] {g f : Nat → Option α} {r : α} (h : ¬ c) (k : Ev f r) : Ev (fun n => if c then g n else f n) r := by
  obtain ⟨K, hK⟩ := k
  exact ⟨K, fun n hn => (if_neg h).trans (hK n hn)⟩
theorem ev_bind0 {α β : Type} {o : Option α} {f : Nat → α → Option β} {a : α} {r : β} (h : o = some a) (k : Ev (fun n => f n a) r) : Ev (fun n => o.bind (f n)) r := by
  subst h
  exact k
theorem ev_of {α : Type} {o : Option α} {r : α} (h : o = some r) : Ev (fun _ => o) r := ⟨0, fun _ _ => h⟩
theorem rd_at (xs : List Int) (i : Nat) (h : i < xs.length) : rd xs (i : Int) = xs[i] := by
  unfold rd
  rw [Int.toNat_natCast, List.getD_eq_getElem?_getD, List.getElem?_eq_getElem h]
  rfl
theorem set_take {out xs : List Int} {i : Nat} (h : out.take i = xs.take i) (hl : out.length = xs.length) (hi : i < xs.length) : (out.set ((i : Int)).toNat (rd xs i)).take (i + 1) = xs.take (i + 1) := by
  rw [rd_at xs i hi, Int.toNat_natCast, List.take_succ_eq_append_getElem hi, List.take_succ_eq_append_getElem (by rw [List.length_set]; omega)]
  rw [List.take_set_of_le (Nat.le_refl _), h]
  simp
def seqFrom (m : Int) (n : Nat) : List Int := (List.range n).map fun (j : Nat) => m + (j : Int)
theorem seqFrom_length (m : Int) (n : Nat) : (seqFrom m n).length = n := by simp [seqFrom]
theorem seqFrom_get (m : Int) (n i : Nat) (h : i < n) : (seqFrom m n)[i]'(by rw [seqFrom_length]; exact h) = m + (i : Int) := by simp [seqFrom]
theorem seq_set {x ys : List Int} {i : Nat} (h : x.take i = ys.take i) (hl : x.length = ys.length) (hi : i < ys.length) {v : Int} (hv : ys[i] = v) : (x.set ((i : Int)).toNat v).take (i + 1) = ys.take (i + 1) := by
  subst hv
  rw [Int.toNat_natCast, List.take_succ_eq_append_getElem hi, List.take_succ_eq_append_getElem (by rw [List.length_set]; omega)]
  rw [List.take_set_of_le (Nat.le_refl _), h]
  simp
theorem toIntS_l0 (xs : List Int) (hn : xs.length ≤ 35184372088832) : ∀ (d i : Nat) (out : List Int), i + d = xs.length → out.length = xs.length → out.take i = xs.take i → Ev (fun k => laws_toIntS.l0 k xs out (i : Int)) xs := by
  intro d
  induction d with
  | zero =>
    intro i out hd hl ht
    refine Ev.step (fun _ => laws_toIntS.l0.eq_2 ..) (ev_neg (by omega) (ev_of ?_))
    rw [List.take_of_length_le (by omega), List.take_of_length_le (by omega)] at ht
    rw [ht]
  | succ d ih =>
    intro i out hd hl ht
    refine Ev.step (fun _ => laws_toIntS.l0.eq_2 ..) (ev_pos (by omega) (ev_pos (by omega) (ev_pos (by omega) ?_)))
    rw [w64 (by omega) (by omega)]
    exact ih (i + 1) _ (by omega) (by rw [List.length_set]; exact hl) (set_take ht hl (by omega))
theorem toIntS_ev (xs : List Int) (hn : xs.length ≤ 35184372088832) : Ev (fun k => laws_toIntS.f k xs) xs := by
  unfold laws_toIntS.f
  refine ev_pos (by omega) (ev_pos (by omega) ?_)
  exact toIntS_l0 xs hn xs.length 0 _ (by omega) (by simp) (by simp)
theorem eqIntS_l0 (xs : List Int) (hn : xs.length ≤ 9223372036854775807) : ∀ (d i : Nat), i + d = xs.length → Ev (fun k => laws_eqIntS.l0 k xs xs (i : Int)) true := by
  intro d
  induction d with
  | zero =>
    intro i hd
    exact Ev.step (fun _ => laws_eqIntS.l0.eq_2 ..) (ev_neg (by omega) (Ev.now true))
  | succ d ih =>
    intro i hd
    refine Ev.step (fun _ => laws_eqIntS.l0.eq_2 ..) (ev_pos (by omega) (ev_pos (by omega) (ev_pos (by omega) (ev_pos rfl ?_))))
    rw [w64 (by omega) (by omega)]
    exact ih (i + 1) (by omega)
theorem eqIntS_same (xs : List Int) (hn : xs.length ≤ 9223372036854775807) : Ev (fun k => laws_eqIntS.f k xs xs) true := by
  unfold laws_eqIntS.f
  exact ev_pos rfl (eqIntS_l0 xs hn xs.length 0 (by omega))
theorem markIntS_l0 : ∀ (d i : Nat) (m : Int) (x : List Int) (s : Int) (n : Nat), n = x.length → i + d = n → m = s + (i : Int) → 0 ≤ s → s + (n : Int) ≤ 4611686018427387904 → x.take i = (seqFrom s n).take i → Ev (fun k => laws_markIntS.l0 k x m (i : Int)) (s + (n : Int), seqFrom s n) := by
  intro d
  induction d with
  | zero =>
    intro i m x s n hn hd hm hs hb ht
    refine Ev.step (fun _ => laws_markIntS.l0.eq_2 ..) (ev_neg (by omega) (ev_of ?_))
    rw [List.take_of_length_le (by omega), List.take_of_length_le (by rw [seqFrom_length]; omega)] at ht
    rw [ht, show m = s + (n : Int) by omega]
  | succ d ih =>
    intro i m x s n hn hd hm hs hb ht
    refine Ev.step (fun _ => laws_markIntS.l0.eq_2 ..) (ev_pos (by omega) (ev_pos (by omega) ?_))
    rw [w64 (x := m + 1) (by omega) (by omega), w64 (x := (i : Int) + 1) (by omega) (by omega)]
    exact ih (i + 1) (m + 1) _ s n (by rw [List.length_set]; exact hn) (by omega) (by omega) hs hb (seq_set ht (by rw [seqFrom_length]; omega) (by rw [seqFrom_length]; omega) (by rw [seqFrom_get _ _ _ (by omega)]; omega))
theorem markIntS_ev (x : List Int) (s : Int) (hs : 0 ≤ s) (hb : s + (x.length : Int) ≤ 4611686018427387904) : Ev (fun k => laws_markIntS.f k x s) (s + (x.length : Int), seqFrom s x.length) := by
  unfold laws_markIntS.f
  exact markIntS_l0 x.length 0 s x s x.length rfl (by omega) (by omega) hs hb rfl
theorem heldIntS_l0 (s : Int) (n : Nat) (hs : 0 ≤ s) (hb : s + (n : Int) ≤ 4611686018427387904) : ∀ (d i : Nat) (m : Int), i + d = n → m = s + (i : Int) → Ev (fun k => laws_heldIntS.l0 k (seqFrom s n) m (i : Int)) (s + (n : Int)) := by
  intro d
  induction d with
  | zero =>
    intro i m hd hm
    refine Ev.step (fun _ => laws_heldIntS.l0.eq_2 ..) (ev_neg (by rw [seqFrom_length]; omega) (ev_of ?_))
    rw [show m = s + (n : Int) by omega]
  | succ d ih =>
    intro i m hd hm
    refine Ev.step (fun _ => laws_heldIntS.l0.eq_2 ..) (ev_pos (by rw [seqFrom_length]; omega) (ev_pos (by omega) (ev_pos ?_ ?_)))
    · rw [rd_at _ i (by rw [seqFrom_length]; omega), seqFrom_get _ _ _ (by omega)]
      omega
    · rw [w64 (x := m + 1) (by omega) (by omega), w64 (x := (i : Int) + 1) (by omega) (by omega)]
      exact ih (i + 1) (m + 1) (by omega) (by omega)
theorem heldIntS_ev (s : Int) (n : Nat) (hs : 0 ≤ s) (hb : s + (n : Int) ≤ 4611686018427387904) : Ev (fun k => laws_heldIntS.f k (seqFrom s n) s) (s + (n : Int)) := by
  unfold laws_heldIntS.f
  exact heldIntS_l0 s n hs hb n 0 s (by omega) (by omega)
theorem getD_at {α : Type} (xs : List α) (z : α) (i : Nat) (h : i < xs.length) : xs.getD ((i : Int)).toNat z = xs[i] := by
  rw [Int.toNat_natCast, List.getD_eq_getElem?_getD, List.getElem?_eq_getElem h]
  rfl
theorem rd1Piece (xs : List S70) (i : Nat) (h : i < xs.length) : rd_T70 xs (i : Int) = xs[i] := getD_at xs z70 i h
def pcs (x y : List Int) (h b : Nat) : List S70 := [(⟨0, (h : Int), (y.take (y.length - b)).drop h⟩ : S70), (⟨(x.length : Int) - (b : Int), (b : Int), []⟩ : S70)]
structure Good (x y : List Int) (h b : Nat) : Prop where
  fit0 : h + b ≤ x.length
  fit1 : h + b ≤ y.length
  head : ∀ j, j < h → x[j]? = y[j]?
  tail : ∀ j, j < b → x[x.length - 1 - j]? = y[y.length - 1 - j]?
theorem clone_val (l : List Int) (hl : l.length ≤ 1048576) : slices_Clone_int_int.f l = some l := by
  unfold slices_Clone_int_int.f
  rw [Option.bind_some, if_pos (by simp; omega), List.nil_append]
theorem cut_val (y : List Int) (h b : Nat) (hy : y.length ≤ 100) (hf : h + b ≤ y.length) : (y.take ((wrap64 ((y.length : Int) - (b : Int))) : Int).toNat).drop ((h : Int) : Int).toNat = (y.take (y.length - b)).drop h := by
  rw [w64 (by omega) (by omega), show ((y.length : Int) - (b : Int)).toNat = y.length - b by omega, Int.toNat_natCast]
theorem pieces_l1 (x y : List Int) (hx : x.length ≤ 100) (hy : y.length ≤ 100) (h : Nat) (hh : ∀ j, j < h → x[j]? = y[j]?) : ∀ (d b : Nat), h + b + d = min x.length y.length → (∀ j, j < b → x[x.length - 1 - j]? = y[y.length - 1 - j]?) → ∃ b', Ev (fun k => spec_PiecesOf.l1 k x y (h : Int) (b : Int)) (pcs x y h b') ∧ Ev (fun k => impl_PiecesOf.l1 k x y (mn (x.length : Int) (y.length : Int)) (h : Int) (b : Int)) (pcs x y h b') ∧ Good x y h b' := by
  intro d
  have hmn : mn (x.length : Int) (y.length : Int) = ((min x.length y.length : Nat) : Int) := by unfold mn; split <;> omega
  have specEnd : ∀ b : Nat, h + b ≤ y.length → h + b ≤ x.length → Ev (fun _ => (some (([] : List Int) : List Int)).bind fun y109 => (if 0 ≤ (h : Int) then (if (h : Int) ≤ (wrap64 ((y.length : Int) - (b : Int))) then (if (wrap64 ((y.length : Int) - (b : Int))) ≤ (y.length : Int) then (if y109.length + ((y.take ((wrap64 ((y.length : Int) - (b : Int))) : Int).toNat).drop ((h : Int) : Int).toNat).length < 17592186044416 then (some (([(⟨0, (h : Int), (y109 ++ ((y.take ((wrap64 ((y.length : Int) - (b : Int))) : Int).toNat).drop ((h : Int) : Int).toNat))⟩ : S70), (⟨wrap64 ((x.length : Int) - (b : Int)), (b : Int), ([] : List Int)⟩ : S70)] : List (S70)))) else (none)) else (none)) else (none)) else (none))) (pcs x y h b) := by
    intro b h1 h2
    refine ev_bind0 rfl ?_
    rw [cut_val y h b hy h1, w64 (x := (y.length : Int) - (b : Int)) (by omega) (by omega), w64 (x := (x.length : Int) - (b : Int)) (by omega) (by omega), List.nil_append]
    exact ev_pos (by omega) (ev_pos (by omega) (ev_pos (by omega) (ev_pos (by rw [List.length_drop, List.length_take]; simp; omega) (Ev.now _))))
  have implEnd : ∀ b : Nat, h + b ≤ y.length → h + b ≤ x.length → Ev (fun _ => if 0 ≤ (h : Int) then (if (h : Int) ≤ (wrap64 ((y.length : Int) - (b : Int))) then (if (wrap64 ((y.length : Int) - (b : Int))) ≤ (y.length : Int) then ((slices_Clone_int_int.f ((y.take ((wrap64 ((y.length : Int) - (b : Int))) : Int).toNat).drop ((h : Int) : Int).toNat)).bind fun t161 => (some (([(⟨0, (h : Int), t161⟩ : S70), (⟨wrap64 ((x.length : Int) - (b : Int)), (b : Int), ([] : List Int)⟩ : S70)] : List (S70))))) else (none)) else (none)) else (none)) (pcs x y h b) := by
    intro b h1 h2
    rw [cut_val y h b hy h1, w64 (x := (y.length : Int) - (b : Int)) (by omega) (by omega), w64 (x := (x.length : Int) - (b : Int)) (by omega) (by omega)]
    exact ev_pos (by omega) (ev_pos (by omega) (ev_pos (by omega) (ev_bind0 (clone_val _ (by rw [List.length_drop, List.length_take]; omega)) (Ev.now _))))
  induction d with
  | zero =>
    intro b hd hb
    refine ⟨b, ?_, ?_, ⟨by omega, by omega, hh, hb⟩⟩
    · refine Ev.step (fun _ => spec_PiecesOf.l1.eq_2 ..) ?_
      rw [w64 (x := (h : Int) + (b : Int)) (by omega) (by omega)]
      by_cases c : (h : Int) + (b : Int) < (x.length : Int)
      · exact ev_pos c (ev_neg (by omega) (specEnd b (by omega) (by omega)))
      · exact ev_neg c (specEnd b (by omega) (by omega))
    · refine Ev.step (fun _ => impl_PiecesOf.l1.eq_2 ..) ?_
      rw [hmn, w64 (x := (h : Int) + (b : Int)) (by omega) (by omega)]
      exact ev_neg (by omega) (implEnd b (by omega) (by omega))
  | succ d ih =>
    intro b hd hb
    have e0 : wrap64 ((wrap64 ((x.length : Int) - 1)) - (b : Int)) = ((x.length - 1 - b : Nat) : Int) := by
      rw [w64 (x := (x.length : Int) - 1) (by omega) (by omega), w64 (by omega) (by omega)]
      omega
    have e1 : wrap64 ((wrap64 ((y.length : Int) - 1)) - (b : Int)) = ((y.length - 1 - b : Nat) : Int) := by
      rw [w64 (x := (y.length : Int) - 1) (by omega) (by omega), w64 (by omega) (by omega)]
      omega
    have i0 : x.length - 1 - b < x.length := by omega
    have i1 : y.length - 1 - b < y.length := by omega
    by_cases c : x[x.length - 1 - b]'i0 = y[y.length - 1 - b]'i1
    · have hb2 : ∀ j, j < b + 1 → x[x.length - 1 - j]? = y[y.length - 1 - j]? := by
        intro j hj
        by_cases e : j = b
        · subst e
          rw [List.getElem?_eq_getElem i0, List.getElem?_eq_getElem i1, c]
        · exact hb j (by omega)
      obtain ⟨b', s1, s2, s3⟩ := ih (b + 1) (by omega) hb2
      refine ⟨b', ?_, ?_, s3⟩
      · refine Ev.step (fun _ => spec_PiecesOf.l1.eq_2 ..) ?_
        rw [w64 (x := (h : Int) + (b : Int)) (by omega) (by omega), e0, e1, rd_at x _ i0, rd_at y _ i1, w64 (x := (b : Int) + 1) (by omega) (by omega)]
        exact ev_pos (by omega) (ev_pos (by omega) (ev_pos (by omega) (ev_pos (by omega) (ev_pos (by omega) (ev_pos (by omega) (ev_pos c s1))))))
      · refine Ev.step (fun _ => impl_PiecesOf.l1.eq_2 ..) ?_
        rw [hmn] at s2 ⊢
        rw [w64 (x := (h : Int) + (b : Int)) (by omega) (by omega), e0, e1, rd_at x _ i0, rd_at y _ i1, w64 (x := (b : Int) + 1) (by omega) (by omega)]
        exact ev_pos (by omega) (ev_pos (by omega) (ev_pos (by omega) (ev_pos (by omega) (ev_pos (by omega) (ev_pos c s2)))))
    · refine ⟨b, ?_, ?_, ⟨by omega, by omega, hh, hb⟩⟩
      · refine Ev.step (fun _ => spec_PiecesOf.l1.eq_2 ..) ?_
        rw [w64 (x := (h : Int) + (b : Int)) (by omega) (by omega), e0, e1, rd_at x _ i0, rd_at y _ i1]
        exact ev_pos (by omega) (ev_pos (by omega) (ev_pos (by omega) (ev_pos (by omega) (ev_pos (by omega) (ev_pos (by omega) (ev_neg c (specEnd b (by omega) (by omega))))))))
      · refine Ev.step (fun _ => impl_PiecesOf.l1.eq_2 ..) ?_
        rw [hmn, w64 (x := (h : Int) + (b : Int)) (by omega) (by omega), e0, e1, rd_at x _ i0, rd_at y _ i1]
        exact ev_pos (by omega) (ev_pos (by omega) (ev_pos (by omega) (ev_pos (by omega) (ev_pos (by omega) (ev_neg c (implEnd b (by omega) (by omega)))))))
theorem pieces_l0 (x y : List Int) (hx : x.length ≤ 100) (hy : y.length ≤ 100) : ∀ (d h : Nat), h + d = min x.length y.length → (∀ j, j < h → x[j]? = y[j]?) → ∃ h' b', Ev (fun k => spec_PiecesOf.l0 k x y (h : Int)) (pcs x y h' b') ∧ Ev (fun k => impl_PiecesOf.l0 k x y (mn (x.length : Int) (y.length : Int)) (h : Int)) (pcs x y h' b') ∧ Good x y h' b' := by
  intro d
  have hmn : mn (x.length : Int) (y.length : Int) = ((min x.length y.length : Nat) : Int) := by unfold mn; split <;> omega
  induction d with
  | zero =>
    intro h hd hh
    obtain ⟨b', s1, s2, s3⟩ := pieces_l1 x y hx hy h hh (min x.length y.length - h) 0 (by omega) (fun j hj => by omega)
    have t1 : Ev (fun k => spec_PiecesOf.j2 k x y (h : Int)) (pcs x y h b') := Ev.step (fun _ => spec_PiecesOf.j2.eq_2 ..) s1
    have t2 : Ev (fun k => impl_PiecesOf.j2 k x y (mn (x.length : Int) (y.length : Int)) (h : Int)) (pcs x y h b') := Ev.step (fun _ => impl_PiecesOf.j2.eq_2 ..) s2
    refine ⟨h, b', Ev.step (fun _ => spec_PiecesOf.l0.eq_2 ..) ?_, Ev.step (fun _ => impl_PiecesOf.l0.eq_2 ..) ?_, s3⟩
    · by_cases c : (h : Int) < (x.length : Int)
      · exact ev_pos c (ev_neg (by omega) t1)
      · exact ev_neg c t1
    · exact ev_neg (by rw [hmn]; omega) t2
  | succ d ih =>
    intro h hd hh
    have i0 : h < x.length := by omega
    have i1 : h < y.length := by omega
    by_cases c : x[h]'i0 = y[h]'i1
    · obtain ⟨h', b', s1, s2, s3⟩ := ih (h + 1) (by omega) (by
        intro j hj
        by_cases e : j = h
        · subst e
          rw [List.getElem?_eq_getElem i0, List.getElem?_eq_getElem i1, c]
        · exact hh j (by omega))
      refine ⟨h', b', Ev.step (fun _ => spec_PiecesOf.l0.eq_2 ..) ?_, Ev.step (fun _ => impl_PiecesOf.l0.eq_2 ..) ?_, s3⟩
      · rw [rd_at x h i0, rd_at y h i1, w64 (x := (h : Int) + 1) (by omega) (by omega)]
        exact ev_pos (by omega) (ev_pos (by omega) (ev_pos (by omega) (ev_pos c s1)))
      · rw [rd_at x h i0, rd_at y h i1, w64 (x := (h : Int) + 1) (by omega) (by omega)]
        exact ev_pos (by rw [hmn]; omega) (ev_pos (by omega) (ev_pos (by omega) (ev_pos (by omega) (ev_pos c s2))))
    · obtain ⟨b', s1, s2, s3⟩ := pieces_l1 x y hx hy h hh (min x.length y.length - h) 0 (by omega) (fun j hj => by omega)
      have t1 : Ev (fun k => spec_PiecesOf.j2 k x y (h : Int)) (pcs x y h b') := Ev.step (fun _ => spec_PiecesOf.j2.eq_2 ..) s1
      have t2 : Ev (fun k => impl_PiecesOf.j2 k x y (mn (x.length : Int) (y.length : Int)) (h : Int)) (pcs x y h b') := Ev.step (fun _ => impl_PiecesOf.j2.eq_2 ..) s2
      refine ⟨h, b', Ev.step (fun _ => spec_PiecesOf.l0.eq_2 ..) ?_, Ev.step (fun _ => impl_PiecesOf.l0.eq_2 ..) ?_, s3⟩
      · rw [rd_at x h i0, rd_at y h i1]
        exact ev_pos (by omega) (ev_pos (by omega) (ev_pos (by omega) (ev_neg c t1)))
      · rw [rd_at x h i0, rd_at y h i1]
        exact ev_pos (by rw [hmn]; omega) (ev_pos (by omega) (ev_pos (by omega) (ev_pos (by omega) (ev_neg c t2))))
theorem pieces_ev (x y : List Int) (hx : x.length ≤ 1048576) (hy : y.length ≤ 1048576) : ∃ P : List S70, Ev (fun k => spec_PiecesOf.f k x y) P ∧ Ev (fun k => impl_PiecesOf.f k x y) P ∧ ((P = [] ∧ ¬ (x.length ≤ 100 ∧ y.length ≤ 100)) ∨ (x.length ≤ 100 ∧ y.length ≤ 100 ∧ ∃ h b, P = pcs x y h b ∧ Good x y h b)) := by
  unfold spec_PiecesOf.f impl_PiecesOf.f
  by_cases c : x.length ≤ 100 ∧ y.length ≤ 100
  · obtain ⟨h, b, s1, s2, s3⟩ := pieces_l0 x y c.1 c.2 (min x.length y.length) 0 (by omega) (fun j hj => by omega)
    refine ⟨_, ?_, ?_, .inr ⟨c.1, c.2, h, b, rfl, s3⟩⟩
    · exact ev_neg (by omega) (Ev.step (fun _ => spec_PiecesOf.j0.eq_2 ..) (ev_neg (fun w => by have := of_decide_eq_true w; omega) s1))
    · exact ev_neg (by omega) (Ev.step (fun _ => impl_PiecesOf.j0.eq_2 ..) (ev_neg (fun w => by have := of_decide_eq_true w; omega) s2))
  · refine ⟨[], ?_, ?_, .inl ⟨rfl, c⟩⟩
    · by_cases c1 : (x.length : Int) > 100
      · exact ev_pos c1 (Ev.step (fun _ => spec_PiecesOf.j0.eq_2 ..) (ev_pos rfl (Ev.now _)))
      · exact ev_neg c1 (Ev.step (fun _ => spec_PiecesOf.j0.eq_2 ..) (ev_pos (decide_eq_true (by omega)) (Ev.now _)))
    · by_cases c1 : (x.length : Int) > 100
      · exact ev_pos c1 (Ev.step (fun _ => impl_PiecesOf.j0.eq_2 ..) (ev_pos rfl (Ev.now _)))
      · exact ev_neg c1 (Ev.step (fun _ => impl_PiecesOf.j0.eq_2 ..) (ev_pos (decide_eq_true (by omega)) (Ev.now _)))
theorem eqPiece_same (x : S70) (hn : x.f2.length ≤ 9223372036854775807) : Ev (fun k => laws_eqPiece.f k x.f0 x.f1 x.f2 x.f0 x.f1 x.f2) true := by
  unfold laws_eqPiece.f
  exact ev_pos rfl (ev_pos rfl (Ev.bind (eqIntS_same _ hn) (ev_pos rfl (Ev.now _))))
theorem eqPieceS_l0 (xs : List S70) (hn : xs.length ≤ 9223372036854775806) (hi : ∀ x ∈ xs, x.f2.length ≤ 9223372036854775807) : ∀ (d i : Nat), i + d = xs.length → Ev (fun k => laws_eqPieceS.l0 k xs xs (i : Int)) true := by
  intro d
  induction d with
  | zero =>
    intro i hd
    exact Ev.step (fun _ => laws_eqPieceS.l0.eq_2 ..) (ev_neg (by omega) (Ev.now true))
  | succ d ih =>
    intro i hd
    have hlt : i < xs.length := by omega
    refine Ev.step (fun _ => laws_eqPieceS.l0.eq_2 ..) (ev_pos (by omega) (ev_pos (by omega) (ev_pos (by omega) ?_)))
    rw [rd1Piece xs i hlt]
    refine Ev.bind (eqPiece_same _ (hi _ (List.getElem_mem hlt))) (ev_pos rfl ?_)
    rw [w64 (by omega) (by omega)]
    exact ih (i + 1) (by omega)
theorem eqPieceS_same (xs : List S70) (hn : xs.length ≤ 9223372036854775806) (hi : ∀ x ∈ xs, x.f2.length ≤ 9223372036854775807) : Ev (fun k => laws_eqPieceS.f k xs xs) true := by
  unfold laws_eqPieceS.f
  exact ev_pos rfl (eqPieceS_l0 xs hn hi xs.length 0 (by omega))
theorem bump_val : ∀ (n : Nat) (a : Int), 0 ≤ a → a + (n : Int) ≤ 4611686018427387904 → bump n a = a + (n : Int) := by
  intro n
  induction n with
  | zero => intro a _ _; show a = _; omega
  | succ n ih =>
    intro a h0 h1
    show bump n (wrap64 (a + 1)) = _
    rw [w64 (by omega) (by omega), ih (a + 1) (by omega) (by omega)]
    omega
theorem seqFrom_succ (a : Int) (n : Nat) : seqFrom a (n + 1) = a :: seqFrom (a + 1) n := by
  refine List.ext_getElem (by rw [List.length_cons, seqFrom_length, seqFrom_length]) (fun i h1 h2 => ?_)
  rw [seqFrom_length] at h1
  rw [seqFrom_get _ _ _ h1]
  cases i with
  | zero => rw [List.getElem_cons_zero]; omega
  | succ i => rw [List.getElem_cons_succ, seqFrom_get _ _ _ (by omega)]; omega
theorem seqW_eq : ∀ (n : Nat) (a : Int), 0 ≤ a → a + (n : Int) ≤ 4611686018427387904 → seqW n a = seqFrom a n := by
  intro n
  induction n with
  | zero => intro a _ _; rfl
  | succ n ih =>
    intro a h0 h1
    rw [seqFrom_succ, seqW, w64 (by omega) (by omega), ih (a + 1) (by omega) (by omega)]
theorem cntP_cons (x : S70) (l : List S70) : laws_markPieceS.cnt (x :: l) = (2 + x.f2.length) + laws_markPieceS.cnt l := by
  unfold laws_markPieceS.cnt
  rw [List.map_cons, List.sum_cons]
theorem heldPiece_l0 (M : List S70) (hM : M.length ≤ 1048576) : ∀ (L : List S70) (i : Nat) (a : Int), M.drop i = laws_markPieceS.mk L a → i + L.length = M.length → 0 ≤ a → a + (laws_markPieceS.cnt L : Int) ≤ 4611686018427387904 → Ev (fun k => laws_heldPieceS.l0 k M a (i : Int)) (a + (laws_markPieceS.cnt L : Int)) := by
  intro L
  induction L with
  | nil =>
    intro i a _ hl h0 h1
    rw [List.length_nil] at hl
    refine Ev.step (fun _ => laws_heldPieceS.l0.eq_2 ..) (ev_neg (by omega) (ev_of ?_))
    show some a = some (a + 0)
    rw [Int.add_zero]
  | cons x L ih =>
    intro i a hd hl h0 h1
    rw [List.length_cons] at hl
    rw [cntP_cons] at h1 ⊢
    have hlt : i < M.length := by omega
    rw [List.drop_eq_getElem_cons hlt, laws_markPieceS.mk] at hd
    injection hd with hx ht
    have e1 : wrap64 (a + 1) = a + 1 := w64 (by omega) (by omega)
    have e2 : wrap64 ((wrap64 (a + 1)) + 1) = a + 2 := by rw [e1, w64 (by omega) (by omega)]; omega
    have en : laws_markPieceS.nx x a = a + 2 + (x.f2.length : Int) := by
      unfold laws_markPieceS.nx
      rw [e2, bump_val _ _ (by omega) (by omega)]
    refine Ev.step (fun _ => laws_heldPieceS.l0.eq_2 ..) (ev_pos (by omega) (ev_pos (by omega) ?_))
    rw [rd1Piece M i hlt, hx]
    have hf : (laws_markPieceS.mk1 x a).f2 = seqFrom (a + 2) x.f2.length := by
      show seqW x.f2.length (wrap64 ((wrap64 (a + 1)) + 1)) = _
      rw [e2]
      exact seqW_eq _ _ (by omega) (by omega)
    rw [hf, e2, w64 (x := (i : Int) + 1) (by omega) (by omega)]
    refine ev_pos rfl (ev_pos rfl (Ev.bind (heldIntS_ev (a + 2) x.f2.length (by omega) (by omega)) (ev_neg (by omega) ?_)))
    rw [en] at ht
    have h := ih (i + 1) (a + 2 + (x.f2.length : Int)) ht (by omega) (by omega) (by omega)
    rw [show a + (((2 + x.f2.length) + laws_markPieceS.cnt L : Nat) : Int) = a + 2 + (x.f2.length : Int) + (laws_markPieceS.cnt L : Int) by omega]
    exact h
theorem heldPieceS_mk (L : List S70) (hL : L.length ≤ 1048576) (hc : laws_markPieceS.cnt L ≤ 1073741824) : Ev (fun k => laws_heldPieceS.f k (laws_markPieceS.mk L 1) 1) (1 + (laws_markPieceS.cnt L : Int)) := by
  unfold laws_heldPieceS.f
  exact heldPiece_l0 _ (by rw [laws_markPieceS.mk_length]; exact hL) L 0 1 rfl (by rw [laws_markPieceS.mk_length, Nat.zero_add]) (by omega) (by omega)
theorem FnExactPiecesOf : ∀ (x0 : List Int) (x1 : List Int), (x0.length ≤ 9223372036854775807 ∧ ∀ y ∈ x0, (Lit.int .i64 y).wf = true) → (x1.length ≤ 9223372036854775807 ∧ ∀ y ∈ x1, (Lit.int .i64 y).wf = true) → ∃ k, laws_FnExactPiecesOf.f k x0 x1 = some true := by
  intro x y hx hy
  refine Ev.rounds (g := fun k => laws_FnExactPiecesOf.f k x y) ?_
  unfold laws_FnExactPiecesOf.f
  by_cases h0 : (x.length : Int) > 1048576
  · exact ev_pos h0 (Ev.now true)
  by_cases h1 : (y.length : Int) > 1048576
  · exact ev_neg h0 (ev_pos h1 (Ev.now true))
  have tx := toIntS_ev x (by omega)
  have ty := toIntS_ev y (by omega)
  have qx := eqIntS_same x (by omega)
  have qy := eqIntS_same y (by omega)
  obtain ⟨P, e1, e2, hP⟩ := pieces_ev x y (by omega) (by omega)
  have hP2 : P.length ≤ 2 ∧ (∀ p ∈ P, p.f2.length ≤ 1048576) ∧ laws_markPieceS.cnt P ≤ 1073741824 := by
    rcases hP with ⟨rfl, _⟩ | ⟨_, _, h, b, rfl, _⟩
    · exact ⟨Nat.zero_le _, (fun p hp => by cases hp), Nat.zero_le _⟩
    · have hl : ((y.take (y.length - b)).drop h).length ≤ 1048576 := by
        rw [List.length_drop, List.length_take]
        omega
      refine ⟨Nat.le_refl _, fun p hp => ?_, ?_⟩
      · rcases List.mem_cons.1 hp with rfl | hp
        · exact hl
        · rw [List.mem_singleton.1 hp]
          exact Nat.zero_le _
      · unfold pcs
        rw [cntP_cons, cntP_cons]
        show (2 + ((y.take (y.length - b)).drop h).length) + ((2 + 0) + 0) ≤ _
        omega
  have hq := eqPieceS_same P (by omega) (fun p hp => by have := hP2.2.1 p hp; omega)
  have hh := heldPieceS_mk P (by omega) hP2.2.2
  have hm : laws_markPieceS.f P 1 = some (1 + (laws_markPieceS.cnt P : Int)) := by
    unfold laws_markPieceS.f
    rw [bump_val _ _ (by omega) (by have := hP2.2.2; omega)]
  refine ev_neg h0 (ev_neg h1 (Ev.bind tx (Ev.bind ty (Ev.bind e1 ?_))))
  refine Ev.bind tx (Ev.bind ty (Ev.bind e2 (Ev.bind hq (ev_pos rfl ?_))))
  refine Ev.bind tx (Ev.bind qx (ev_pos rfl ?_))
  refine Ev.bind ty (Ev.bind qy (ev_pos rfl ?_))
  refine Ev.bind (markIntS_ev x 1 (by omega) (by omega)) (Ev.bind (markIntS_ev y (1 + (x.length : Int)) (by omega) (by omega)) (ev_neg (by simp only; omega) (Ev.bind hq ?_)))
  refine Ev.step (fun _ => laws_FnExactPiecesOf.j0.eq_2 ..) (ev_neg (by decide) (ev_bind0 hm (Ev.bind hh (ev_neg (by omega) (ev_pos rfl ?_)))))
  refine Ev.bind tx (Ev.bind ty (Ev.bind e2 (Ev.bind hq (ev_pos rfl ?_))))
  exact Ev.bind hh (ev_neg (by omega) (ev_pos rfl (Ev.now true)))

end Go.Proofs.Ytgcidlnhgpjdpac.Pure
