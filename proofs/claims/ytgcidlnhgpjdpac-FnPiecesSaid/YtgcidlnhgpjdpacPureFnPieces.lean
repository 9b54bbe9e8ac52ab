/- The pure statement behind the law FnPieces: over numbers and lists the law answers true, at every input that the row's bounds let in. -/
import Derived.Test.YtgcidlnhgpjdpacQFnPiecesx7
import Derived.Test.YtgcidlnhgpjdpacQFnPiecesg
namespace Go.Proofs.Ytgcidlnhgpjdpac.Pure
open Go Go.RowKit Go.Proofs.Ytgcidlnhgpjdpac.QFnPieces Go.Proofs.YtgcidlnhgpjdpacW.PrintWords Go.Proofs.YtgcidlnhgpjdpacW.PrintLast Go.Proofs.YtgcidlnhgpjdpacW.PrintMore
set_option linter.unusedVariables false
set_option linter.unusedSimpArgs false
set_option maxRecDepth 100000

theorem w64 {x : Int} (h0 : -9223372036854775808 ≤ x) (h1 : x ≤ 9223372036854775807) : wrap64 x = x := by unfold wrap64; omega
theorem ev_pos {α : Type} {c : Prop} [Decidable c] {g f : Nat → Option α} {r : α} (h : c) (k : Ev g r) : Ev (fun n => if c then g n else f n) r := by
  obtain ⟨K, hK⟩ := k
  exact ⟨K, fun n hn => (if_pos h).trans (hK n hn)⟩
theorem ev_neg {α : Type} {c : Prop} [Decidable c] {g f : Nat → Option α} {r : α} (h : ¬ c) (k : Ev f r) : Ev (fun n => if c then g n else f n) r := by
  obtain ⟨K, hK⟩ := k
  exact ⟨K, fun n hn => (if_neg h).trans (hK n hn)⟩
theorem ev_bind0 {α β : Type} {o : Option α} {f : Nat → α → Option β} {a : α} {r : β} (h : o = some a) (k : Ev (fun n => f n a) r) : Ev (fun n => o.bind (f n)) r := by
  subst h
  exact k
theorem ev_of {α : Type} {o : Option α} {r : α} (h : o = some r) : Ev (fun _ => o) r := ⟨0, fun _ _ => h⟩
theorem rd_at (xs : List Int) (i : Nat) (h : i < xs.length) : rd xs (i : Int) = xs[i] := by
  unfold rd
  rw [Int.toNat_natCast, List.getD_eq_getElem?_getD, List.getElem?_eq_getElem h]
  rfl
theorem big_val (l : List Int) : laws_big.f l = some (decide ((l.length : Int) > 1048576)) := rfl
theorem l1New_l0 (l : List Int) (hl : l.length ≤ 1099511627776) : ∀ (d i : Nat) (h : Int), i + d = l.length → ∃ h', Ev (fun k => spec_l1New.l0 k l h (i : Int)) (l, 0, h') := by
  intro d
  induction d with
  | zero =>
    intro i h hd
    exact ⟨h, Ev.step (fun _ => spec_l1New.l0.eq_2 ..) (ev_neg (by omega) (Ev.now _))⟩
  | succ d ih =>
    intro i h hd
    by_cases h4 : (i : Int) < 4000
    · obtain ⟨h', e⟩ := ih (i + 1) _ (by omega)
      refine ⟨h', Ev.step (fun _ => spec_l1New.l0.eq_2 ..) (ev_pos (by omega) (ev_pos h4 (ev_pos (by omega) ?_)))⟩
      rw [w64 (x := (i : Int) + 1) (by omega) (by omega)]
      exact e
    · exact ⟨h, Ev.step (fun _ => spec_l1New.l0.eq_2 ..) (ev_pos (by omega) (ev_neg h4 (Ev.now _)))⟩
theorem l1New_ev (l : List Int) (hl : l.length ≤ 1099511627776) : ∃ h, Ev (fun k => spec_l1New.f k l) (l, 0, h) := by
  unfold spec_l1New.f
  exact l1New_l0 l hl l.length 0 _ (by omega)
theorem and255 (y : Int) : 0 ≤ Go.bits .and .i64 y 255 ∧ Go.bits .and .i64 y 255 ≤ 255 := by
  have h : (BitVec.ofInt 64 y &&& BitVec.ofInt 64 255).toNat ≤ 255 := by
    rw [BitVec.toNat_and]
    exact Nat.le_trans Nat.and_le_right (by decide)
  have e : Go.bits .and .i64 y 255 = IntKind.i64.wrap ((BitVec.ofInt 64 y &&& BitVec.ofInt 64 255).toNat : Int) := rfl
  rw [e, IntKind.wrap_i64]
  omega
theorem l1Byte_some (b : List Int) (hb : b.length ≤ 1099511627776) (i h : Int) (h0 : 0 ≤ i) (h1 : i ≤ 1099511627776) : ∃ x i' h', spec_l1Byte.f b i h = some (x, i', h') ∧ 0 ≤ x ∧ x ≤ 255 ∧ 0 ≤ i' ∧ i' ≤ 1099511627776 := by
  unfold spec_l1Byte.f
  by_cases c : i < (b.length : Int)
  · rw [if_pos c, if_pos h0, w64 (x := i + 1) (by omega) (by omega)]
    exact ⟨_, _, _, rfl, (and255 _).1, (and255 _).2, by omega, by omega⟩
  · rw [if_neg c]
    exact ⟨_, _, _, rfl, (and255 _).1, (and255 _).2, h0, h1⟩
theorem l1Below_some (b : List Int) (hb : b.length ≤ 1099511627776) (i h n : Int) (h0 : 0 ≤ i) (h1 : i ≤ 1099511627776) : ∃ x i' h', spec_l1Below.f b i h n = some (x, i', h') ∧ 0 ≤ x ∧ (0 < n → x < n) ∧ (n ≤ 0 → x = 0) ∧ 0 ≤ i' ∧ i' ≤ 1099511627776 := by
  unfold spec_l1Below.f
  by_cases c : n ≤ 0
  · rw [if_pos c]
    exact ⟨_, _, _, rfl, by omega, fun h => by omega, fun _ => rfl, h0, h1⟩
  rw [if_neg c]
  by_cases c2 : n ≤ 256
  · rw [if_pos c2]
    obtain ⟨x, i', h', e, hx0, hx1, hi0, hi1⟩ := l1Byte_some b hb i h h0 h1
    rw [e, Option.bind_some, if_neg (by omega)]
    refine ⟨_, _, _, rfl, ?_, fun _ => ?_, fun h => by omega, hi0, hi1⟩
    · rw [Int.tmod_eq_emod_of_nonneg hx0]; exact Int.emod_nonneg _ (by omega)
    · rw [Int.tmod_eq_emod_of_nonneg hx0]; exact Int.emod_lt_of_pos _ (by omega)
  · rw [if_neg c2]
    obtain ⟨x, i', h', e, hx0, hx1, hi0, hi1⟩ := l1Byte_some b hb i h h0 h1
    rw [e, Option.bind_some]
    obtain ⟨y, i2, h2, e2, hy0, hy1, hi20, hi21⟩ := l1Byte_some b hb i' h' hi0 hi1
    rw [e2, Option.bind_some]
    obtain ⟨z, i3, h3, e3, hz0, hz1, hi30, hi31⟩ := l1Byte_some b hb i2 h2 hi20 hi21
    rw [e3, Option.bind_some, if_neg (by omega)]
    have ew : wrap64 ((wrap64 ((wrap64 (x * 65536)) + (wrap64 (y * 256)))) + z) = x * 65536 + y * 256 + z := by
      rw [w64 (x := x * 65536) (by omega) (by omega), w64 (x := y * 256) (by omega) (by omega), w64 (x := x * 65536 + y * 256) (by omega) (by omega), w64 (by omega) (by omega)]
    refine ⟨_, _, _, rfl, ?_, fun _ => ?_, fun h => by omega, hi30, hi31⟩
    · rw [ew, Int.tmod_eq_emod_of_nonneg (by omega)]; exact Int.emod_nonneg _ (by omega)
    · rw [ew, Int.tmod_eq_emod_of_nonneg (by omega)]; exact Int.emod_lt_of_pos _ (by omega)
theorem l1Once_some (b : List Int) (hb : b.length ≤ 1099511627776) (i h n : Int) (h0 : 0 ≤ i) (h1 : i ≤ 1099511627776) : ∃ x i' h', spec_l1Once.f b i h n = some (x, i', h') ∧ 0 ≤ i' ∧ i' ≤ 1099511627776 := by
  unfold spec_l1Once.f
  obtain ⟨x, i', h', e, _, _, _, hi0, hi1⟩ := l1Below_some b hb i h n h0 h1
  rw [e, Option.bind_some]
  exact ⟨_, _, _, rfl, hi0, hi1⟩
theorem l1Int_some (b : List Int) (hb : b.length ≤ 1099511627776) (i h : Int) (l : List Int) (hl : 0 < l.length) (h0 : 0 ≤ i) (h1 : i ≤ 1099511627776) : ∃ x i' h', spec_l1Int.f b i h l = some (x, i', h') ∧ x ∈ l ∧ 0 ≤ i' ∧ i' ≤ 1099511627776 := by
  unfold spec_l1Int.f
  obtain ⟨x, i', h', e, hx0, hx1, _, hi0, hi1⟩ := l1Below_some b hb i h (l.length : Int) h0 h1
  have hx := hx1 (by omega)
  rw [e, Option.bind_some, if_pos hx0, if_pos hx]
  refine ⟨_, _, _, rfl, ?_, hi0, hi1⟩
  obtain ⟨j, rfl⟩ := Int.eq_ofNat_of_zero_le hx0
  show rd l (j : Int) ∈ l
  rw [rd_at l j (by omega)]
  exact List.getElem_mem _
theorem l4Raw_some (b : List Int) (hb : b.length ≤ 1099511627776) (i h : Int) (h0 : 0 ≤ i) (h1 : i ≤ 1099511627776) : ∃ x i' h', spec_l4Raw.f b i h = some (x, i', h') ∧ (-9223372036854775808 ≤ x ∧ x ≤ 9223372036854775807) ∧ 0 ≤ i' ∧ i' ≤ 1099511627776 := by
  unfold spec_l4Raw.f
  obtain ⟨y, i2, h2, e2, hm, hi20, hi21⟩ := l1Int_some b hb i h [(-1), 0, 9, 10, 99, 100, 9223372036854775807, (-9223372036854775808)] (by decide) h0 h1
  rw [e2, Option.bind_some]
  simp only [List.mem_cons, List.not_mem_nil, or_false] at hm
  exact ⟨_, _, _, rfl, by show _ ≤ y ∧ y ≤ _; omega, hi20, hi21⟩
theorem l8Pair_l1 (a b : List Int) (i h : Int) : ∀ (d : Nat) (y : List Int), y.length + d = 101 → ∃ y', Ev (fun k => spec_l8Pair.l1 k a y b i h) (a, y', i, h) ∧ y'.length ≤ 101 := by
  intro d
  induction d with
  | zero =>
    intro y hd
    exact ⟨y, Ev.step (fun _ => spec_l8Pair.l1.eq_2 ..) (ev_neg (by omega) (Ev.now _)), by omega⟩
  | succ d ih =>
    intro y hd
    obtain ⟨y', e, hl⟩ := ih (y ++ [1]) (by rw [List.length_append]; simp only [List.length_cons, List.length_nil]; omega)
    exact ⟨y', Ev.step (fun _ => spec_l8Pair.l1.eq_2 ..) (ev_pos (by omega) (ev_pos (by omega) e)), hl⟩
theorem l8Pair_j1 (b : List Int) (hb : b.length ≤ 1099511627776) (a y : List Int) (i h : Int) (h0 : 0 ≤ i) (h1 : i ≤ 1099511627776) (hy : y.length ≤ 20) : ∃ y' i' h', Ev (fun k => spec_l8Pair.j1 k a y b i h) (a, y', i', h') ∧ y'.length ≤ 101 ∧ 0 ≤ i' ∧ i' ≤ 1099511627776 := by
  obtain ⟨x, i2, h2, e2, hi20, hi21⟩ := l1Once_some b hb i h 12 h0 h1
  by_cases c : x = true
  · obtain ⟨y', e, hl⟩ := l8Pair_l1 a b i2 h2 (101 - y.length) y (by omega)
    exact ⟨y', i2, h2, Ev.step (fun _ => spec_l8Pair.j1.eq_2 ..) (ev_bind0 e2 (ev_pos c e)), hl, hi20, hi21⟩
  · exact ⟨y, i2, h2, Ev.step (fun _ => spec_l8Pair.j1.eq_2 ..) (ev_bind0 e2 (ev_neg c (Ev.now _))), by omega, hi20, hi21⟩
theorem l8Pair_l0 (b : List Int) (hb : b.length ≤ 1099511627776) : ∀ (d : Nat) (a : List Int) (i h : Int), a.length + d ≤ 8 → 0 ≤ i → i ≤ 1099511627776 → ∃ a' y i' h', Ev (fun k => spec_l8Pair.l0 k a (d : Int) b i h) (a', y, i', h') ∧ a'.length ≤ 8 ∧ y.length ≤ 101 ∧ 0 ≤ i' ∧ i' ≤ 1099511627776 := by
  intro d
  induction d with
  | zero =>
    intro a i h ha h0 h1
    obtain ⟨x, i2, h2, e2, x0, _, _, hi20, hi21⟩ := l1Below_some b hb i h 5 h0 h1
    have hh : wrap64 ((a.length : Int) / 2) = ((a.length / 2 : Nat) : Int) := by rw [w64 (by omega) (by omega)]; rfl
    have fin : ∀ (y : List Int) (i3 h3 : Int), y.length ≤ 20 → 0 ≤ i3 → i3 ≤ 1099511627776 → ∀ g : Nat → Option (List Int × List Int × Int × Int), (∀ r, Ev (fun k => spec_l8Pair.j1 k a y b i3 h3) r → Ev g r) → ∃ a' y i' h', Ev g (a', y, i', h') ∧ a'.length ≤ 8 ∧ y.length ≤ 101 ∧ 0 ≤ i' ∧ i' ≤ 1099511627776 := by
      intro y i3 h3 hy hi30 hi31 g hg
      obtain ⟨y', i4, h4, e4, hl, hi40, hi41⟩ := l8Pair_j1 b hb a y i3 h3 hi30 hi31 hy
      exact ⟨a, y', i4, h4, hg _ e4, by omega, hl, hi40, hi41⟩
    have st : ∀ r, Ev (fun k => if x = 0 then (if a.length < 17592186044416 then (spec_l8Pair.j1 k a (a ++ [7]) b i2 h2) else (none)) else (if x = 1 then (if (a.length : Int) > 0 then ((spec_l1Below.f b i2 h2 (a.length : Int)).bind fun bt177 => (if 0 ≤ bt177.1 then (if bt177.1 < (a.length : Int) then (spec_l8Pair.j1 k a (a.set (bt177.1 : Int).toNat 8) b bt177.2.1 bt177.2.2) else (none)) else (none))) else (spec_l8Pair.j1 k a a b i2 h2)) else (if x = 2 then (if 0 ≤ (wrap64 ((a.length : Int) / 2)) then (if (wrap64 ((a.length : Int) / 2)) ≤ (a.length : Int) then (spec_l8Pair.j1 k a (a.take ((wrap64 ((a.length : Int) / 2)) : Int).toNat) b i2 h2) else (none)) else (none)) else (if x = 3 then ((some (([] : List Int) : List Int)).bind fun y184 => (if 0 ≤ (wrap64 ((a.length : Int) / 2)) then (if (wrap64 ((a.length : Int) / 2)) ≤ (a.length : Int) then ((some (a.take ((wrap64 ((a.length : Int) / 2)) : Int).toNat : List Int)).bind fun y187 => (if y184.length + y187.length < 17592186044416 then ((some (y184 ++ y187 : List Int)).bind fun y191 => ((some (([9] : List Int) : List Int)).bind fun y194 => ((some (a.drop ((wrap64 ((a.length : Int) / 2)) : Int).toNat : List Int)).bind fun y197 => (if y194.length + y197.length < 17592186044416 then ((some (y194 ++ y197 : List Int)).bind fun y201 => (if y191.length + y201.length < 17592186044416 then (spec_l8Pair.j1 k a (y191 ++ y201) b i2 h2) else (none))) else (none))))) else (none))) else (none)) else (none))) else (spec_l8Pair.j1 k a a b i2 h2))))) r → Ev (fun k => spec_l8Pair.l0 k a ((0 : Nat) : Int) b i h) r := by
      intro r e
      refine Ev.step (fun _ => spec_l8Pair.l0.eq_2 ..) (ev_neg (by omega) (ev_bind0 rfl (ev_pos (by simp only [List.length_nil]; omega) (ev_bind0 rfl (ev_bind0 e2 ?_)))))
      rw [List.nil_append]
      exact e
    rw [hh] at st
    have t1 : (a.take (((a.length / 2 : Nat) : Int)).toNat).length ≤ 8 := by rw [List.length_take]; omega
    have t2 : (a.drop (((a.length / 2 : Nat) : Int)).toNat).length ≤ 8 := by rw [List.length_drop]; omega
    by_cases c0 : x = 0
    · exact fin (a ++ [7]) i2 h2 (by rw [List.length_append]; simp only [List.length_cons, List.length_nil]; omega) hi20 hi21 _ (fun r e => st r (ev_pos c0 (ev_pos (by omega) e)))
    by_cases c1 : x = 1
    · by_cases cl : (a.length : Int) > 0
      · obtain ⟨z, i3, h3, e3, z0, z1, _, hi30, hi31⟩ := l1Below_some b hb i2 h2 (a.length : Int) hi20 hi21
        exact fin (a.set z.toNat 8) i3 h3 (by rw [List.length_set]; omega) hi30 hi31 _ (fun r e => st r (ev_neg c0 (ev_pos c1 (ev_pos cl (ev_bind0 e3 (ev_pos z0 (ev_pos (z1 cl) e)))))))
      · exact fin a i2 h2 (by omega) hi20 hi21 _ (fun r e => st r (ev_neg c0 (ev_pos c1 (ev_neg cl e))))
    by_cases c2 : x = 2
    · exact fin (a.take (((a.length / 2 : Nat) : Int)).toNat) i2 h2 (by omega) hi20 hi21 _ (fun r e => st r (ev_neg c0 (ev_neg c1 (ev_pos c2 (ev_pos (by omega) (ev_pos (by omega) e))))))
    by_cases c3 : x = 3
    · refine fin (([] ++ a.take (((a.length / 2 : Nat) : Int)).toNat) ++ ([9] ++ a.drop (((a.length / 2 : Nat) : Int)).toNat)) i2 h2 (by simp only [List.length_append, List.length_cons, List.length_nil]; omega) hi20 hi21 _ (fun r e => st r (ev_neg c0 (ev_neg c1 (ev_neg c2 (ev_pos c3 ?_)))))
      refine ev_bind0 rfl (ev_pos (by omega) (ev_pos (by omega) (ev_bind0 rfl (ev_pos (by simp only [List.length_nil]; omega) (ev_bind0 rfl (ev_bind0 rfl (ev_bind0 rfl (ev_pos (by simp only [List.length_cons, List.length_nil]; omega) (ev_bind0 rfl (ev_pos (by simp only [List.length_append, List.length_cons, List.length_nil]; omega) e))))))))))
    · exact fin a i2 h2 (by omega) hi20 hi21 _ (fun r e => st r (ev_neg c0 (ev_neg c1 (ev_neg c2 (ev_neg c3 e)))))
  | succ d ih =>
    intro a i h ha h0 h1
    obtain ⟨x, i2, h2, e2, _, _, _, hi20, hi21⟩ := l1Below_some b hb i h 3 h0 h1
    obtain ⟨a', y, i3, h3, e3, ha', hy, hi30, hi31⟩ := ih (a ++ [x]) i2 h2 (by rw [List.length_append]; simp only [List.length_cons, List.length_nil]; omega) hi20 hi21
    refine ⟨a', y, i3, h3, Ev.step (fun _ => spec_l8Pair.l0.eq_2 ..) (ev_pos (by omega) (ev_bind0 e2 (ev_pos (by omega) ?_))), ha', hy, hi30, hi31⟩
    rw [w64 (by omega) (by omega), show ((d + 1 : Nat) : Int) - 1 = (d : Int) by omega]
    exact e3
theorem l8Pair_ev (b : List Int) (hb : b.length ≤ 1099511627776) (i h : Int) (h0 : 0 ≤ i) (h1 : i ≤ 1099511627776) : ∃ a y i' h', Ev (fun k => spec_l8Pair.f k b i h) (a, y, i', h') ∧ a.length ≤ 8 ∧ y.length ≤ 101 ∧ 0 ≤ i' ∧ i' ≤ 1099511627776 := by
  unfold spec_l8Pair.f
  obtain ⟨x, i2, h2, e, x0, x1, _, i20, i21⟩ := l1Below_some b hb i h 9 h0 h1
  have hx := x1 (by omega)
  obtain ⟨a, y, i3, h3, e3, ha, hy, i30, i31⟩ := l8Pair_l0 b hb x.toNat [] i2 h2 (by simp only [List.length_nil]; omega) i20 i21
  rw [Int.toNat_of_nonneg x0] at e3
  exact ⟨a, y, i3, h3, ev_bind0 e e3, ha, hy, i30, i31⟩
theorem getD_at {α : Type} (xs : List α) (z : α) (i : Nat) (h : i < xs.length) : xs.getD ((i : Int)).toNat z = xs[i] := by
  rw [Int.toNat_natCast, List.getD_eq_getElem?_getD, List.getElem?_eq_getElem h]
  rfl
theorem rd1Piece (xs : List S70) (i : Nat) (h : i < xs.length) : rd_T70 xs (i : Int) = xs[i] := getD_at xs z70 i h
def pcs (x y : List Int) (h b : Nat) : List S70 := [(⟨0, (h : Int), (y.take (y.length - b)).drop h⟩ : S70), (⟨(x.length : Int) - (b : Int), (b : Int), []⟩ : S70)]
structure Good (x y : List Int) (h b : Nat) : Prop where
  fit0 : h + b ≤ x.length
  fit1 : h + b ≤ y.length
  head : ∀ j, j < h → x[j]? = y[j]?
  tail : ∀ j, j < b → x[x.length - 1 - j]? = y[y.length - 1 - j]?
theorem clone_val (l : List Int) (hl : l.length ≤ 1048576) : slices_Clone_int_int.f l = some l := by
  unfold slices_Clone_int_int.f
  rw [Option.bind_some, if_pos (by simp; omega), List.nil_append]
theorem cut_val (y : List Int) (h b : Nat) (hy : y.length ≤ 100) (hf : h + b ≤ y.length) : (y.take ((wrap64 ((y.length : Int) - (b : Int))) : Int).toNat).drop ((h : Int) : Int).toNat = (y.take (y.length - b)).drop h := by
  rw [w64 (by omega) (by omega), show ((y.length : Int) - (b : Int)).toNat = y.length - b by omega, Int.toNat_natCast]
theorem pieces_l1 (x y : List Int) (hx : x.length ≤ 100) (hy : y.length ≤ 100) (h : Nat) (hh : ∀ j, j < h → x[j]? = y[j]?) : ∀ (d b : Nat), h + b + d = min x.length y.length → (∀ j, j < b → x[x.length - 1 - j]? = y[y.length - 1 - j]?) → ∃ b', Ev (fun k => spec_PiecesOf.l1 k x y (h : Int) (b : Int)) (pcs x y h b') ∧ Ev (fun k => impl_PiecesOf.l1 k x y (mn (x.length : Int) (y.length : Int)) (h : Int) (b : Int)) (pcs x y h b') ∧ Good x y h b' := by
  intro d
  have hmn : mn (x.length : Int) (y.length : Int) = ((min x.length y.length : Nat) : Int) := by unfold mn; split <;> omega
  have specEnd : ∀ b : Nat, h + b ≤ y.length → h + b ≤ x.length → Ev (fun _ => (some (([] : List Int) : List Int)).bind fun y109 => (if 0 ≤ (h : Int) then (if (h : Int) ≤ (wrap64 ((y.length : Int) - (b : Int))) then (if (wrap64 ((y.length : Int) - (b : Int))) ≤ (y.length : Int) then (if y109.length + ((y.take ((wrap64 ((y.length : Int) - (b : Int))) : Int).toNat).drop ((h : Int) : Int).toNat).length < 17592186044416 then (some (([(⟨0, (h : Int), (y109 ++ ((y.take ((wrap64 ((y.length : Int) - (b : Int))) : Int).toNat).drop ((h : Int) : Int).toNat))⟩ : S70), (⟨wrap64 ((x.length : Int) - (b : Int)), (b : Int), ([] : List Int)⟩ : S70)] : List (S70)))) else (none)) else (none)) else (none)) else (none))) (pcs x y h b) := by
    intro b h1 h2
    refine ev_bind0 rfl ?_
    rw [cut_val y h b hy h1, w64 (x := (y.length : Int) - (b : Int)) (by omega) (by omega), w64 (x := (x.length : Int) - (b : Int)) (by omega) (by omega), List.nil_append]
    exact ev_pos (by omega) (ev_pos (by omega) (ev_pos (by omega) (ev_pos (by rw [List.length_drop, List.length_take]; simp; omega) (Ev.now _))))
  have implEnd : ∀ b : Nat, h + b ≤ y.length → h + b ≤ x.length → Ev (fun _ => if 0 ≤ (h : Int) then (if (h : Int) ≤ (wrap64 ((y.length : Int) - (b : Int))) then (if (wrap64 ((y.length : Int) - (b : Int))) ≤ (y.length : Int) then ((slices_Clone_int_int.f ((y.take ((wrap64 ((y.length : Int) - (b : Int))) : Int).toNat).drop ((h : Int) : Int).toNat)).bind fun t161 => (some (([(⟨0, (h : Int), t161⟩ : S70), (⟨wrap64 ((x.length : Int) - (b : Int)), (b : Int), ([] : List Int)⟩ : S70)] : List (S70))))) else (none)) else (none)) else (none)) (pcs x y h b) := by
    intro b h1 h2
    rw [cut_val y h b hy h1, w64 (x := (y.length : Int) - (b : Int)) (by omega) (by omega), w64 (x := (x.length : Int) - (b : Int)) (by omega) (by omega)]
    exact ev_pos (by omega) (ev_pos (by omega) (ev_pos (by omega) (ev_bind0 (clone_val _ (by rw [List.length_drop, List.length_take]; omega)) (Ev.now _))))
  induction d with
  | zero =>
    intro b hd hb
    refine ⟨b, ?_, ?_, ⟨by omega, by omega, hh, hb⟩⟩
    · refine Ev.step (fun _ => spec_PiecesOf.l1.eq_2 ..) ?_
      rw [w64 (x := (h : Int) + (b : Int)) (by omega) (by omega)]
      by_cases c : (h : Int) + (b : Int) < (x.length : Int)
      · exact ev_pos c (ev_neg (by omega) (specEnd b (by omega) (by omega)))
      · exact ev_neg c (specEnd b (by omega) (by omega))
    · refine Ev.step (fun _ => impl_PiecesOf.l1.eq_2 ..) ?_
      rw [hmn, w64 (x := (h : Int) + (b : Int)) (by omega) (by omega)]
      exact ev_neg (by omega) (implEnd b (by omega) (by omega))
  | succ d ih =>
    intro b hd hb
    have e0 : wrap64 ((wrap64 ((x.length : Int) - 1)) - (b : Int)) = ((x.length - 1 - b : Nat) : Int) := by
      rw [w64 (x := (x.length : Int) - 1) (by omega) (by omega), w64 (by omega) (by omega)]
      omega
    have e1 : wrap64 ((wrap64 ((y.length : Int) - 1)) - (b : Int)) = ((y.length - 1 - b : Nat) : Int) := by
      rw [w64 (x := (y.length : Int) - 1) (by omega) (by omega), w64 (by omega) (by omega)]
      omega
    have i0 : x.length - 1 - b < x.length := by omega
    have i1 : y.length - 1 - b < y.length := by omega
    by_cases c : x[x.length - 1 - b]'i0 = y[y.length - 1 - b]'i1
    · have hb2 : ∀ j, j < b + 1 → x[x.length - 1 - j]? = y[y.length - 1 - j]? := by
        intro j hj
        by_cases e : j = b
        · subst e
          rw [List.getElem?_eq_getElem i0, List.getElem?_eq_getElem i1, c]
        · exact hb j (by omega)
      obtain ⟨b', s1, s2, s3⟩ := ih (b + 1) (by omega) hb2
      refine ⟨b', ?_, ?_, s3⟩
      · refine Ev.step (fun _ => spec_PiecesOf.l1.eq_2 ..) ?_
        rw [w64 (x := (h : Int) + (b : Int)) (by omega) (by omega), e0, e1, rd_at x _ i0, rd_at y _ i1, w64 (x := (b : Int) + 1) (by omega) (by omega)]
        exact ev_pos (by omega) (ev_pos (by omega) (ev_pos (by omega) (ev_pos (by omega) (ev_pos (by omega) (ev_pos (by omega) (ev_pos c s1))))))
      · refine Ev.step (fun _ => impl_PiecesOf.l1.eq_2 ..) ?_
        rw [hmn] at s2 ⊢
        rw [w64 (x := (h : Int) + (b : Int)) (by omega) (by omega), e0, e1, rd_at x _ i0, rd_at y _ i1, w64 (x := (b : Int) + 1) (by omega) (by omega)]
        exact ev_pos (by omega) (ev_pos (by omega) (ev_pos (by omega) (ev_pos (by omega) (ev_pos (by omega) (ev_pos c s2)))))
    · refine ⟨b, ?_, ?_, ⟨by omega, by omega, hh, hb⟩⟩
      · refine Ev.step (fun _ => spec_PiecesOf.l1.eq_2 ..) ?_
        rw [w64 (x := (h : Int) + (b : Int)) (by omega) (by omega), e0, e1, rd_at x _ i0, rd_at y _ i1]
        exact ev_pos (by omega) (ev_pos (by omega) (ev_pos (by omega) (ev_pos (by omega) (ev_pos (by omega) (ev_pos (by omega) (ev_neg c (specEnd b (by omega) (by omega))))))))
      · refine Ev.step (fun _ => impl_PiecesOf.l1.eq_2 ..) ?_
        rw [hmn, w64 (x := (h : Int) + (b : Int)) (by omega) (by omega), e0, e1, rd_at x _ i0, rd_at y _ i1]
        exact ev_pos (by omega) (ev_pos (by omega) (ev_pos (by omega) (ev_pos (by omega) (ev_pos (by omega) (ev_neg c (implEnd b (by omega) (by omega)))))))
theorem pieces_l0 (x y : List Int) (hx : x.length ≤ 100) (hy : y.length ≤ 100) : ∀ (d h : Nat), h + d = min x.length y.length → (∀ j, j < h → x[j]? = y[j]?) → ∃ h' b', Ev (fun k => spec_PiecesOf.l0 k x y (h : Int)) (pcs x y h' b') ∧ Ev (fun k => impl_PiecesOf.l0 k x y (mn (x.length : Int) (y.length : Int)) (h : Int)) (pcs x y h' b') ∧ Good x y h' b' := by
  intro d
  have hmn : mn (x.length : Int) (y.length : Int) = ((min x.length y.length : Nat) : Int) := by unfold mn; split <;> omega
  induction d with
  | zero =>
    intro h hd hh
    obtain ⟨b', s1, s2, s3⟩ := pieces_l1 x y hx hy h hh (min x.length y.length - h) 0 (by omega) (fun j hj => by omega)
    have t1 : Ev (fun k => spec_PiecesOf.j2 k x y (h : Int)) (pcs x y h b') := Ev.step (fun _ => spec_PiecesOf.j2.eq_2 ..) s1
    have t2 : Ev (fun k => impl_PiecesOf.j2 k x y (mn (x.length : Int) (y.length : Int)) (h : Int)) (pcs x y h b') := Ev.step (fun _ => impl_PiecesOf.j2.eq_2 ..) s2
    refine ⟨h, b', Ev.step (fun _ => spec_PiecesOf.l0.eq_2 ..) ?_, Ev.step (fun _ => impl_PiecesOf.l0.eq_2 ..) ?_, s3⟩
    · by_cases c : (h : Int) < (x.length : Int)
      · exact ev_pos c (ev_neg (by omega) t1)
      · exact ev_neg c t1
    · exact ev_neg (by rw [hmn]; omega) t2
  | succ d ih =>
    intro h hd hh
    have i0 : h < x.length := by omega
    have i1 : h < y.length := by omega
    by_cases c : x[h]'i0 = y[h]'i1
    · obtain ⟨h', b', s1, s2, s3⟩ := ih (h + 1) (by omega) (by
        intro j hj
        by_cases e : j = h
        · subst e
          rw [List.getElem?_eq_getElem i0, List.getElem?_eq_getElem i1, c]
        · exact hh j (by omega))
      refine ⟨h', b', Ev.step (fun _ => spec_PiecesOf.l0.eq_2 ..) ?_, Ev.step (fun _ => impl_PiecesOf.l0.eq_2 ..) ?_, s3⟩
      · rw [rd_at x h i0, rd_at y h i1, w64 (x := (h : Int) + 1) (by omega) (by omega)]
        exact ev_pos (by omega) (ev_pos (by omega) (ev_pos (by omega) (ev_pos c s1)))
      · rw [rd_at x h i0, rd_at y h i1, w64 (x := (h : Int) + 1) (by omega) (by omega)]
        exact ev_pos (by rw [hmn]; omega) (ev_pos (by omega) (ev_pos (by omega) (ev_pos (by omega) (ev_pos c s2))))
    · obtain ⟨b', s1, s2, s3⟩ := pieces_l1 x y hx hy h hh (min x.length y.length - h) 0 (by omega) (fun j hj => by omega)
      have t1 : Ev (fun k => spec_PiecesOf.j2 k x y (h : Int)) (pcs x y h b') := Ev.step (fun _ => spec_PiecesOf.j2.eq_2 ..) s1
      have t2 : Ev (fun k => impl_PiecesOf.j2 k x y (mn (x.length : Int) (y.length : Int)) (h : Int)) (pcs x y h b') := Ev.step (fun _ => impl_PiecesOf.j2.eq_2 ..) s2
      refine ⟨h, b', Ev.step (fun _ => spec_PiecesOf.l0.eq_2 ..) ?_, Ev.step (fun _ => impl_PiecesOf.l0.eq_2 ..) ?_, s3⟩
      · rw [rd_at x h i0, rd_at y h i1]
        exact ev_pos (by omega) (ev_pos (by omega) (ev_pos (by omega) (ev_neg c t1)))
      · rw [rd_at x h i0, rd_at y h i1]
        exact ev_pos (by rw [hmn]; omega) (ev_pos (by omega) (ev_pos (by omega) (ev_pos (by omega) (ev_neg c t2))))
theorem pieces_ev (x y : List Int) (hx : x.length ≤ 1048576) (hy : y.length ≤ 1048576) : ∃ P : List S70, Ev (fun k => spec_PiecesOf.f k x y) P ∧ Ev (fun k => impl_PiecesOf.f k x y) P ∧ ((P = [] ∧ ¬ (x.length ≤ 100 ∧ y.length ≤ 100)) ∨ (x.length ≤ 100 ∧ y.length ≤ 100 ∧ ∃ h b, P = pcs x y h b ∧ Good x y h b)) := by
  unfold spec_PiecesOf.f impl_PiecesOf.f
  by_cases c : x.length ≤ 100 ∧ y.length ≤ 100
  · obtain ⟨h, b, s1, s2, s3⟩ := pieces_l0 x y c.1 c.2 (min x.length y.length) 0 (by omega) (fun j hj => by omega)
    refine ⟨_, ?_, ?_, .inr ⟨c.1, c.2, h, b, rfl, s3⟩⟩
    · exact ev_neg (by omega) (Ev.step (fun _ => spec_PiecesOf.j0.eq_2 ..) (ev_neg (fun w => by have := of_decide_eq_true w; omega) s1))
    · exact ev_neg (by omega) (Ev.step (fun _ => impl_PiecesOf.j0.eq_2 ..) (ev_neg (fun w => by have := of_decide_eq_true w; omega) s2))
  · refine ⟨[], ?_, ?_, .inl ⟨rfl, c⟩⟩
    · by_cases c1 : (x.length : Int) > 100
      · exact ev_pos c1 (Ev.step (fun _ => spec_PiecesOf.j0.eq_2 ..) (ev_pos rfl (Ev.now _)))
      · exact ev_neg c1 (Ev.step (fun _ => spec_PiecesOf.j0.eq_2 ..) (ev_pos (decide_eq_true (by omega)) (Ev.now _)))
    · by_cases c1 : (x.length : Int) > 100
      · exact ev_pos c1 (Ev.step (fun _ => impl_PiecesOf.j0.eq_2 ..) (ev_pos rfl (Ev.now _)))
      · exact ev_neg c1 (Ev.step (fun _ => impl_PiecesOf.j0.eq_2 ..) (ev_pos (decide_eq_true (by omega)) (Ev.now _)))
def apSeg (x : List Int) (p : S70) : List Int := (x.take (p.f0 + p.f1 : Int).toNat).drop (p.f0 : Int).toNat
def apAll (x : List Int) : List S70 → List Int → List Int × Bool
  | [], out => (out, true)
  | p :: ps, out => if 0 ≤ p.f0 ∧ 0 ≤ p.f1 ∧ p.f0 + p.f1 ≤ (x.length : Int) ∧ (out.length : Int) + p.f1 + (p.f2.length : Int) ≤ 1000 then apAll x ps (out ++ apSeg x p ++ p.f2) else ([], false)
theorem apAll_yes (x : List Int) (p : S70) (ps : List S70) (out : List Int) (h : 0 ≤ p.f0 ∧ 0 ≤ p.f1 ∧ p.f0 + p.f1 ≤ (x.length : Int) ∧ (out.length : Int) + p.f1 + (p.f2.length : Int) ≤ 1000) : apAll x (p :: ps) out = apAll x ps (out ++ apSeg x p ++ p.f2) := if_pos h
theorem apAll_no (x : List Int) (p : S70) (ps : List S70) (out : List Int) (h : ¬ (0 ≤ p.f0 ∧ 0 ≤ p.f1 ∧ p.f0 + p.f1 ≤ (x.length : Int) ∧ (out.length : Int) + p.f1 + (p.f2.length : Int) ≤ 1000)) : apAll x (p :: ps) out = ([], false) := if_neg h
theorem apSeg_len (x : List Int) (p : S70) (h0 : 0 ≤ p.f0) (h1 : 0 ≤ p.f1) (h2 : p.f0 + p.f1 ≤ (x.length : Int)) : ((apSeg x p).length : Int) = p.f1 := by
  unfold apSeg
  rw [List.length_drop, List.length_take]
  omega
theorem impl_ApplyPieces_l0 (x : List Int) (ps : List S70) (hx : x.length ≤ 1048576) (hn : ps.length ≤ 1048576) (hi : ∀ p ∈ ps, (p.f2).length ≤ 1048576 ∧ -9223372036854775808 ≤ p.f0 ∧ p.f0 ≤ 9223372036854775807 ∧ -9223372036854775808 ≤ p.f1 ∧ p.f1 ≤ 9223372036854775807) : ∀ (d i : Nat) (out : List Int), i + d = ps.length → out.length ≤ 1000 → Ev (fun k => impl_ApplyPieces.l0 k x out ps (ps.length : Int) (i : Int)) (apAll x (ps.drop i) out) := by
  intro d
  induction d with
  | zero =>
    intro i out hd ho
    refine Ev.step (fun _ => impl_ApplyPieces.l0.eq_2 ..) (ev_neg (by omega) (ev_of ?_))
    rw [List.drop_eq_nil_of_le (by omega)]
    rfl
  | succ d ih =>
    intro i out hd ho
    have hlt : i < ps.length := by omega
    refine Ev.step (fun _ => impl_ApplyPieces.l0.eq_2 ..) (ev_pos (by omega) (ev_pos (by omega) (ev_pos (by omega) ?_)))
    have hp := hi _ (List.getElem_mem hlt)
    have hih := ih (i + 1)
    rw [rd1Piece ps i hlt, List.drop_eq_getElem_cons hlt]
    generalize ps[i] = p at hp ⊢
    have bad : ∀ (b : Bool), b = true → ¬ (0 ≤ p.f0 ∧ 0 ≤ p.f1 ∧ p.f0 + p.f1 ≤ (x.length : Int) ∧ (out.length : Int) + p.f1 + (p.f2.length : Int) ≤ 1000) → Ev (fun k => impl_ApplyPieces.j1 k x out ps (ps.length : Int) (i : Int) b p.f0 p.f1 p.f2) (apAll x (p :: ps.drop (i + 1)) out) := by
      intro b hb hbad
      rw [apAll_no _ _ _ _ hbad]
      exact Ev.step (fun _ => impl_ApplyPieces.j1.eq_2 ..) (ev_pos hb (Ev.now _))
    by_cases h1 : p.f0 < 0
    · exact ev_pos h1 (bad true rfl (by omega))
    refine ev_neg h1 ?_
    by_cases h2 : p.f1 < 0
    · exact ev_pos h2 (bad true rfl (by omega))
    refine ev_neg h2 ?_
    by_cases h3 : p.f0 > (x.length : Int)
    · exact ev_pos h3 (bad true rfl (by omega))
    refine ev_neg h3 ?_
    rw [w64 (x := (x.length : Int) - p.f0) (by omega) (by omega)]
    by_cases h4 : p.f1 > (x.length : Int) - p.f0
    · exact bad _ (decide_eq_true h4) (by omega)
    refine Ev.step (fun _ => impl_ApplyPieces.j1.eq_2 ..) (ev_neg (fun w => h4 (of_decide_eq_true w)) ?_)
    have hs := apSeg_len x p (by omega) (by omega) (by omega)
    rw [w64 (x := p.f0 + p.f1) (by omega) (by omega), w64 (x := (i : Int) + 1) (by omega) (by omega)]
    have e : (x.take (p.f0 + p.f1 : Int).toNat).drop (p.f0 : Int).toNat = apSeg x p := rfl
    rw [e]
    refine ev_pos (by omega) (ev_pos (by omega) (ev_pos (by omega) (ev_pos (by omega) (ev_bind0 rfl (ev_pos (by rw [List.length_append]; omega) (ev_bind0 rfl ?_))))))
    by_cases h5 : ((out ++ apSeg x p ++ p.f2).length : Int) > 1000
    · rw [apAll_no _ _ _ _ (by rw [List.length_append, List.length_append] at h5; omega)]
      exact ev_pos h5 (Ev.now _)
    · rw [apAll_yes _ _ _ _ (by rw [List.length_append, List.length_append] at h5; omega)]
      exact ev_neg h5 (hih _ (by omega) (by omega))
theorem impl_ApplyPieces_ev (x : List Int) (ps : List S70) (hx : x.length ≤ 1048576) (hn : ps.length ≤ 1048576) (hi : ∀ p ∈ ps, (p.f2).length ≤ 1048576 ∧ -9223372036854775808 ≤ p.f0 ∧ p.f0 ≤ 9223372036854775807 ∧ -9223372036854775808 ≤ p.f1 ∧ p.f1 ≤ 9223372036854775807) : Ev (fun k => impl_ApplyPieces.f k x ps) (apAll x ps []) := by
  unfold impl_ApplyPieces.f
  exact impl_ApplyPieces_l0 x ps hx hn hi ps.length 0 [] (by omega) (Nat.zero_le _)
def costW (xs : List S70) (n : Int) : Int := xs.foldl (fun n x => wrap64 (n + (x.f2.length : Int))) n
theorem impl_CostOf_l0 (xs : List S70) (hn : xs.length ≤ 1048576) : ∀ (d i : Nat) (n : Int), i + d = xs.length → Ev (fun k => impl_CostOf.l0 k n xs (xs.length : Int) (i : Int)) (costW (xs.drop i) n) := by
  intro d
  induction d with
  | zero =>
    intro i n hd
    refine Ev.step (fun _ => impl_CostOf.l0.eq_2 ..) (ev_neg (by omega) (ev_of ?_))
    rw [List.drop_eq_nil_of_le (by omega)]
    rfl
  | succ d ih =>
    intro i n hd
    have hlt : i < xs.length := by omega
    refine Ev.step (fun _ => impl_CostOf.l0.eq_2 ..) (ev_pos (by omega) (ev_pos (by omega) (ev_pos (by omega) ?_)))
    rw [rd1Piece xs i hlt, List.drop_eq_getElem_cons hlt, w64 (x := (i : Int) + 1) (by omega) (by omega)]
    exact ih (i + 1) _ (by omega)
theorem slices_Equal_int_int_l0 (xs ys : List Int) (hl : xs.length = ys.length) (hn : xs.length ≤ 9223372036854775807) : ∀ (d i : Nat), i + d = xs.length → Ev (fun k => slices_Equal_int_int.l0 k xs ys (xs.length : Int) (i : Int)) (decide (xs.drop i = ys.drop i)) := by
  intro d
  induction d with
  | zero =>
    intro i hd
    refine Ev.step (fun _ => slices_Equal_int_int.l0.eq_2 ..) (ev_neg (by omega) (ev_of ?_))
    rw [List.drop_eq_nil_of_le (by omega), List.drop_eq_nil_of_le (by omega)]
    rfl
  | succ d ih =>
    intro i hd
    refine Ev.step (fun _ => slices_Equal_int_int.l0.eq_2 ..) (ev_pos (by omega) (ev_pos (by omega) (ev_pos (by omega) (ev_pos (by omega) ?_))))
    rw [rd_at xs i (by omega), rd_at ys i (by omega), List.drop_eq_getElem_cons (show i < xs.length by omega), List.drop_eq_getElem_cons (show i < ys.length by omega)]
    by_cases he : xs[i]'(by omega) = ys[i]'(by omega)
    · refine ev_pos he ?_
      rw [w64 (by omega) (by omega)]
      have h := ih (i + 1) (by omega)
      simp only [he, List.cons.injEq, true_and]
      exact h
    · exact ev_neg he (ev_of (congrArg some (decide_eq_false (fun h => he (List.cons.inj h).1)).symm))
theorem slices_Equal_int_int_ev (xs ys : List Int) (hn : xs.length ≤ 9223372036854775807) : Ev (fun k => slices_Equal_int_int.f k xs ys) (decide (xs = ys)) := by
  unfold slices_Equal_int_int.f
  by_cases hl : xs.length = ys.length
  · exact ev_pos (by omega) (slices_Equal_int_int_l0 xs ys hl hn xs.length 0 (by omega))
  · refine ev_neg (by omega) (ev_of ?_)
    rw [decide_eq_false (fun h => hl (by rw [h]))]
theorem apply_good (x y : List Int) (h b : Nat) (hx : x.length ≤ 100) (hy : y.length ≤ 100) (g : Good x y h b) : apAll x (pcs x y h b) [] = (y, true) := by
  have f0 := g.fit0
  have f1 := g.fit1
  have hl : ((y.take (y.length - b)).drop h).length = y.length - b - h := by rw [List.length_drop, List.length_take]; omega
  have s1 : apSeg x (⟨0, (h : Int), (y.take (y.length - b)).drop h⟩ : S70) = x.take h := by
    unfold apSeg
    show (x.take ((0 : Int) + (h : Int)).toNat).drop 0 = _
    rw [List.drop_zero, Int.zero_add, Int.toNat_natCast]
  have s2 : apSeg x (⟨(x.length : Int) - (b : Int), (b : Int), []⟩ : S70) = x.drop (x.length - b) := by
    unfold apSeg
    show (x.take ((x.length : Int) - (b : Int) + (b : Int)).toNat).drop ((x.length : Int) - (b : Int)).toNat = _
    rw [show ((x.length : Int) - (b : Int) + (b : Int)).toNat = x.length by omega, show ((x.length : Int) - (b : Int)).toNat = x.length - b by omega, List.take_length]
  have l1 : (x.take h).length = h := by rw [List.length_take]; omega
  unfold pcs
  rw [apAll_yes, apAll_yes]
  · rw [s1, s2]
    show ((([] : List Int) ++ x.take h ++ (y.take (y.length - b)).drop h) ++ x.drop (x.length - b) ++ [], true) = (y, true)
    have e1 : x.take h = (y.take (y.length - b)).take h := by
      rw [List.take_take, Nat.min_eq_left (by omega)]
      refine List.ext_getElem? (fun i => ?_)
      rw [List.getElem?_take, List.getElem?_take]
      by_cases c : i < h
      · rw [if_pos c, if_pos c, g.head i c]
      · rw [if_neg c, if_neg c]
    have e2 : x.drop (x.length - b) = y.drop (y.length - b) := by
      refine List.ext_getElem? (fun i => ?_)
      rw [List.getElem?_drop, List.getElem?_drop]
      by_cases c : i < b
      · have := g.tail (b - 1 - i) (by omega)
        rw [show x.length - 1 - (b - 1 - i) = x.length - b + i by omega, show y.length - 1 - (b - 1 - i) = y.length - b + i by omega] at this
        exact this
      · rw [List.getElem?_eq_none (by omega), List.getElem?_eq_none (by omega)]
    rw [e1, e2, List.nil_append, List.append_nil, List.take_append_drop, List.take_append_drop]
  · refine ⟨by show (0 : Int) ≤ (x.length : Int) - (b : Int); omega, by show (0 : Int) ≤ (b : Int); omega, by show (x.length : Int) - (b : Int) + (b : Int) ≤ _; omega, ?_⟩
    rw [s1]
    show (((([] : List Int) ++ x.take h ++ (y.take (y.length - b)).drop h).length : Nat) : Int) + (b : Int) + ((0 : Nat) : Int) ≤ 1000
    rw [List.nil_append, List.length_append, l1, hl]
    omega
  · refine ⟨Int.le_refl _, by show (0 : Int) ≤ (h : Int); omega, by show (0 : Int) + (h : Int) ≤ _; omega, ?_⟩
    show ((0 : Nat) : Int) + (h : Int) + (((y.take (y.length - b)).drop h).length : Int) ≤ 1000
    rw [hl]
    omega
def sumP : List S70 → Int
  | [] => 0
  | p :: ps => p.f1 + (p.f2.length : Int) + sumP ps
theorem apAll_sum (x : List Int) (ps : List S70) : ∀ (out : List Int), out.length ≤ 1000 → ((apAll x ps out).2 = false ∧ (apAll x ps out).1 = []) ∨ ((apAll x ps out).2 = true ∧ ((apAll x ps out).1.length : Int) = (out.length : Int) + sumP ps ∧ (∀ p ∈ ps, 0 ≤ p.f1) ∧ (out.length : Int) + sumP ps ≤ 1000) := by
  induction ps with
  | nil => exact fun out h => .inr ⟨rfl, by show (out.length : Int) = _ + 0; omega, fun p hp => (by cases hp), by show (out.length : Int) + 0 ≤ _; omega⟩
  | cons p ps ih =>
    intro out h
    by_cases c : 0 ≤ p.f0 ∧ 0 ≤ p.f1 ∧ p.f0 + p.f1 ≤ (x.length : Int) ∧ (out.length : Int) + p.f1 + (p.f2.length : Int) ≤ 1000
    · rw [apAll_yes _ _ _ _ c]
      have hs := apSeg_len x p c.1 c.2.1 c.2.2.1
      have hl : ((out ++ apSeg x p ++ p.f2).length : Int) = (out.length : Int) + (p.f1 + (p.f2.length : Int)) := by rw [List.length_append, List.length_append]; omega
      have hsum : sumP (p :: ps) = p.f1 + (p.f2.length : Int) + sumP ps := rfl
      rcases ih (out ++ apSeg x p ++ p.f2) (by omega) with h1 | ⟨h1, h2, h3, h4⟩
      · exact .inl h1
      · refine .inr ⟨h1, by rw [h2, hl, hsum]; omega, fun q hq => ?_, by rw [hl] at h4; rw [hsum]; omega⟩
        rcases List.mem_cons.1 hq with rfl | hq
        · exact c.2.1
        · exact h3 q hq
    · rw [apAll_no _ _ _ _ c]
      exact .inl ⟨rfl, rfl⟩
theorem sumP_nn (ps : List S70) (h : ∀ p ∈ ps, 0 ≤ p.f1) : 0 ≤ sumP ps := by
  induction ps with
  | nil => exact Int.le_refl _
  | cons p ps ih =>
    have h1 := h p (List.mem_cons_self ..)
    have h2 := ih (fun q hq => h q (List.mem_cons_of_mem _ hq))
    show 0 ≤ p.f1 + (p.f2.length : Int) + sumP ps
    omega
theorem law_l0 (ps : List S70) (y : List Int) (hn : ps.length ≤ 1048576) (hp : ∀ p ∈ ps, 0 ≤ p.f1) : ∀ (d i : Nat) (n : Int), i + d = ps.length → 0 ≤ n → n + sumP (ps.drop i) ≤ 1000 → (y.length : Int) = n + sumP (ps.drop i) → Ev (fun k => laws_FnPieces.l0 k ps y true n (i : Int)) true := by
  intro d
  induction d with
  | zero =>
    intro i n hd h0 h1 hy
    refine Ev.step (fun _ => laws_FnPieces.l0.eq_2 ..) (ev_neg (by omega) (ev_of ?_))
    rw [List.drop_eq_nil_of_le (by omega)] at hy
    have : (y.length : Int) = n := by rw [hy]; show n + 0 = n; omega
    rw [this]
    simp
  | succ d ih =>
    intro i n hd h0 h1 hy
    have hlt : i < ps.length := by omega
    rw [List.drop_eq_getElem_cons hlt] at h1 hy
    have hs : sumP (ps[i] :: ps.drop (i + 1)) = (ps[i]).f1 + ((ps[i]).f2.length : Int) + sumP (ps.drop (i + 1)) := rfl
    have hnn := sumP_nn (ps.drop (i + 1)) (fun q hq => hp q (List.mem_of_mem_drop hq))
    have hpi := hp _ (List.getElem_mem hlt)
    rw [hs] at h1 hy
    refine Ev.step (fun _ => laws_FnPieces.l0.eq_2 ..) (ev_pos (by omega) (ev_pos rfl (ev_pos (by omega) ?_)))
    rw [rd1Piece ps i hlt, w64 (x := n + (ps[i]).f1) (by omega) (by omega), w64 (x := n + (ps[i]).f1 + ((ps[i]).f2.length : Int)) (by omega) (by omega), w64 (x := (i : Int) + 1) (by omega) (by omega)]
    exact ih (i + 1) _ (by omega) (by omega) (by omega) (by omega)
theorem law_l0_no (ps : List S70) : Ev (fun k => laws_FnPieces.l0 k ps [] false 0 0) true := by
  refine Ev.step (fun _ => laws_FnPieces.l0.eq_2 ..) ?_
  by_cases c : (0 : Int) < (ps.length : Int)
  · exact ev_pos c (ev_neg (by decide) (Ev.now true))
  · exact ev_neg c (Ev.now true)
def okP (p : S70) : Prop := p.f2.length ≤ 1048576 ∧ -9223372036854775808 ≤ p.f0 ∧ p.f0 ≤ 9223372036854775807 ∧ -9223372036854775808 ≤ p.f1 ∧ p.f1 ≤ 9223372036854775807
theorem pcs_ok (x y : List Int) (h b : Nat) (hx : x.length ≤ 100) (hy : y.length ≤ 100) (g : Good x y h b) : ∀ p ∈ pcs x y h b, okP p := by
  have f0 := g.fit0
  intro p hp
  unfold okP
  rcases List.mem_cons.1 hp with rfl | hp
  · refine ⟨by show ((y.take (y.length - b)).drop h).length ≤ _; rw [List.length_drop, List.length_take]; omega, by show (-9223372036854775808 : Int) ≤ 0; omega, by show (0 : Int) ≤ _; omega, by show _ ≤ (h : Int); omega, by show (h : Int) ≤ _; omega⟩
  · rw [List.mem_singleton.1 hp]
    exact ⟨Nat.zero_le _, by show _ ≤ (x.length : Int) - (b : Int); omega, by show (x.length : Int) - (b : Int) ≤ _; omega, by show _ ≤ (b : Int); omega, by show (b : Int) ≤ _; omega⟩
theorem ok_set (ps : List S70) (h : ∀ p ∈ ps, okP p) (i : Nat) (q : S70) (hq : okP q) : ∀ p ∈ ps.set i q, okP p := by
  intro p hp
  rcases List.mem_or_eq_of_mem_set hp with h1 | h1
  · exact h p h1
  · rw [h1]
    exact hq
theorem drawApply_j1 (b : List Int) (hb : b.length ≤ 1099511627776) (c : List Int) (ps : List S70) (hps : ∀ p ∈ ps, okP p) (hl : ps.length = 0 ∨ ps.length = 2) (i h : Int) (h0 : 0 ≤ i) (h1 : i ≤ 1099511627776) : ∃ ps', Ev (fun k => spec_DrawApplyPieces.j1 k c ps b i h) (c, ps') ∧ (∀ p ∈ ps', okP p) ∧ ps'.length ≤ 2 := by
  by_cases c0 : (ps.length : Int) > 0
  · obtain ⟨x, i2, h2, e2, hi20, hi21⟩ := l1Once_some b hb i h 3 h0 h1
    by_cases cx : x = true
    · obtain ⟨z, i3, h3, e3, hz, _, _⟩ := l4Raw_some b hb i2 h2 hi20 hi21
      have hlt : 1 < ps.length := by omega
      have hr : rd_T70 ps 1 = ps[1] := rd1Piece ps 1 hlt
      have ho := hps _ (List.getElem_mem hlt)
      refine ⟨_, Ev.step (fun _ => spec_DrawApplyPieces.j1.eq_2 ..) (ev_pos c0 (ev_bind0 e2 (ev_pos cx (ev_bind0 e3 (ev_pos (by omega) (Ev.now _)))))), ok_set _ hps _ _ ?_, by rw [List.length_set]; omega⟩
      rw [hr]
      exact ⟨ho.1, ho.2.1, ho.2.2.1, hz.1, hz.2⟩
    · exact ⟨ps, Ev.step (fun _ => spec_DrawApplyPieces.j1.eq_2 ..) (ev_pos c0 (ev_bind0 e2 (ev_neg cx (Ev.now _)))), hps, by omega⟩
  · exact ⟨ps, Ev.step (fun _ => spec_DrawApplyPieces.j1.eq_2 ..) (ev_neg c0 (Ev.now _)), hps, by omega⟩
theorem drawApply_j0 (b : List Int) (hb : b.length ≤ 1099511627776) (c : List Int) (ps : List S70) (hps : ∀ p ∈ ps, okP p) (hl : ps.length = 0 ∨ ps.length = 2) (t : Bool) (ht : t = true → ps.length = 2) (i h : Int) (h0 : 0 ≤ i) (h1 : i ≤ 1099511627776) : ∃ ps', Ev (fun k => spec_DrawApplyPieces.j0 k c ps t b i h) (c, ps') ∧ (∀ p ∈ ps', okP p) ∧ ps'.length ≤ 2 := by
  by_cases ct : t = true
  · have h2 := ht ct
    obtain ⟨z, i3, h3, e3, hz, hi30, hi31⟩ := l4Raw_some b hb i h h0 h1
    have hlt : 0 < ps.length := by omega
    have hr : rd_T70 ps 0 = ps[0] := rd1Piece ps 0 hlt
    have ho := hps _ (List.getElem_mem hlt)
    obtain ⟨ps', e, r1, r2⟩ := drawApply_j1 b hb c (ps.set (0 : Int).toNat (⟨z, (rd_T70 ps 0).f1, (rd_T70 ps 0).f2⟩ : S70)) (ok_set _ hps _ _ (by rw [hr]; exact ⟨ho.1, hz.1, hz.2, ho.2.2.2.1, ho.2.2.2.2⟩)) (by rw [List.length_set]; exact hl) i3 h3 hi30 hi31
    exact ⟨ps', Ev.step (fun _ => spec_DrawApplyPieces.j0.eq_2 ..) (ev_pos ct (ev_bind0 e3 (ev_pos (by omega) e))), r1, r2⟩
  · obtain ⟨ps', e, r1, r2⟩ := drawApply_j1 b hb c ps hps hl i h h0 h1
    exact ⟨ps', Ev.step (fun _ => spec_DrawApplyPieces.j0.eq_2 ..) (ev_neg ct e), r1, r2⟩
theorem drawApply_ev (l : List Int) (hl : l.length ≤ 1048576) : ∃ c ps, Ev (fun k => spec_DrawApplyPieces.f k l) (c, ps) ∧ c.length ≤ 8 ∧ (∀ p ∈ ps, okP p) ∧ ps.length ≤ 2 := by
  unfold spec_DrawApplyPieces.f
  obtain ⟨h, e1⟩ := l1New_ev l (by omega)
  obtain ⟨a, y, i2, h2, e2, ha, hy, hi20, hi21⟩ := l8Pair_ev l (by omega) 0 h (by omega) (by omega)
  obtain ⟨P, e3, _, hP⟩ := pieces_ev a y (by omega) (by omega)
  have hok : (∀ p ∈ P, okP p) ∧ (P.length = 0 ∨ P.length = 2) := by
    rcases hP with ⟨rfl, _⟩ | ⟨c1, c2, h', b', rfl, g⟩
    · exact ⟨fun p hp => (by cases hp), .inl rfl⟩
    · exact ⟨pcs_ok a y h' b' c1 c2 g, .inr rfl⟩
  by_cases cl : (P.length : Int) > 0
  · obtain ⟨t, i4, h4, e4, hi40, hi41⟩ := l1Once_some l (by omega) i2 h2 3 hi20 hi21
    obtain ⟨ps, e5, r1, r2⟩ := drawApply_j0 l (by omega) a P hok.1 hok.2 t (fun _ => by omega) i4 h4 hi40 hi41
    exact ⟨a, ps, Ev.bind e1 (Ev.bind e2 (Ev.bind e3 (ev_pos cl (ev_bind0 e4 e5)))), ha, r1, r2⟩
  · obtain ⟨ps, e5, r1, r2⟩ := drawApply_j0 l (by omega) a P hok.1 hok.2 false (fun w => (by cases w)) i2 h2 hi20 hi21
    exact ⟨a, ps, Ev.bind e1 (Ev.bind e2 (Ev.bind e3 (ev_neg cl e5))), ha, r1, r2⟩
theorem law_j2 (l : List Int) (hl : l.length ≤ 1048576) : Ev (fun k => laws_FnPieces.j2 k l) true := by
  obtain ⟨c, ps, e, hc, hps, hn⟩ := drawApply_ev l hl
  have ea := impl_ApplyPieces_ev c ps (by omega) (by omega) hps
  refine Ev.step (fun _ => laws_FnPieces.j2.eq_2 ..) (Ev.bind e (Ev.bind ea ?_))
  rcases apAll_sum c ps [] (Nat.zero_le _) with ⟨h1, h2⟩ | ⟨h1, h2, h3, h4⟩
  · rw [h1, h2]
    exact law_l0_no ps
  · rw [h1]
    have hz : (([] : List Int).length : Int) = 0 := rfl
    rw [hz] at h2 h4
    exact law_l0 ps _ (by omega) h3 ps.length 0 0 (by omega) (by omega) (by rw [List.drop_zero]; omega) (by rw [List.drop_zero]; omega)
theorem cost_two (p q : S70) (hp : p.f2.length ≤ 1000) (hq : q.f2.length ≤ 1000) : costW [p, q] 2 = 2 + (p.f2.length : Int) + (q.f2.length : Int) := by
  unfold costW
  rw [List.foldl_cons, List.foldl_cons, List.foldl_nil]
  rw [w64 (x := 2 + (p.f2.length : Int)) (by omega) (by omega), w64 (by omega) (by omega)]
theorem cost_two_ev (L : List S70) (hL : L.length = 2) (c : Int) (hc : costW L 2 = c) : Ev (fun k => impl_CostOf.f k L) c := by
  unfold impl_CostOf.f
  have e := impl_CostOf_l0 L (by omega) L.length 0 (L.length : Int) (Nat.zero_add _)
  rw [List.drop_zero] at e
  have h2 : (L.length : Int) = 2 := by omega
  rw [h2] at e ⊢
  rw [hc] at e
  exact e
theorem cost_pcs (x y : List Int) (h b : Nat) (hf : h + b ≤ y.length) (hy : y.length ≤ 100) : Ev (fun k => impl_CostOf.f k (pcs x y h b)) (2 + ((y.length : Int) - (b : Int) - (h : Int))) := by
  have hl : ((y.take (y.length - b)).drop h).length = y.length - b - h := by rw [List.length_drop, List.length_take]; omega
  refine cost_two_ev _ rfl _ ?_
  unfold pcs
  rw [cost_two _ _ (by simp only; omega) (Nat.zero_le _)]
  simp only [List.length_nil]
  rw [hl]
  omega
theorem same_l0 (x : List Int) (hx : x.length ≤ 100) : ∀ (d i : Nat), i + d = x.length → Ev (fun k => impl_PiecesOf.l0 k x x (x.length : Int) (i : Int)) (pcs x x x.length 0) := by
  intro d
  induction d with
  | zero =>
    intro i hd
    refine Ev.step (fun _ => impl_PiecesOf.l0.eq_2 ..) (ev_neg (by omega) (Ev.step (fun _ => impl_PiecesOf.j2.eq_2 ..) (Ev.step (fun _ => impl_PiecesOf.l1.eq_2 ..) ?_)))
    have hi : i = x.length := by omega
    subst hi
    have hc : (x.take (x.length - 0)).drop x.length = [] := by rw [List.drop_eq_nil_of_le]; rw [List.length_take]; omega
    refine ev_neg (by rw [w64 (by omega) (by omega)]; omega) ?_
    rw [show wrap64 ((x.length : Int) - 0) = (x.length : Int) by rw [w64 (by omega) (by omega)]; omega, Int.toNat_natCast]
    have e := clone_val ((x.take x.length).drop x.length) (by rw [List.length_drop, List.length_take]; omega)
    refine ev_pos (by omega) (ev_pos (by omega) (ev_pos (by omega) (ev_bind0 e (ev_of ?_))))
    unfold pcs
    rw [Nat.sub_zero]
    have : ((x.length : Int) - ((0 : Nat) : Int)) = (x.length : Int) := by omega
    rw [this]
    rfl
  | succ d ih =>
    intro i hd
    refine Ev.step (fun _ => impl_PiecesOf.l0.eq_2 ..) (ev_pos (by omega) (ev_pos (by omega) (ev_pos (by omega) (ev_pos (by omega) (ev_pos rfl ?_)))))
    rw [w64 (by omega) (by omega)]
    exact ih (i + 1) (by omega)
theorem same_ev (x : List Int) (hx : x.length ≤ 100) : Ev (fun k => impl_PiecesOf.f k x x) (pcs x x x.length 0) := by
  unfold impl_PiecesOf.f
  have e := same_l0 x hx x.length 0 (by omega)
  have hm : mn (x.length : Int) (x.length : Int) = (x.length : Int) := by unfold mn; split <;> omega
  refine ev_neg (by omega) (Ev.step (fun _ => impl_PiecesOf.j0.eq_2 ..) (ev_neg (fun w => by have := of_decide_eq_true w; omega) ?_))
  rw [hm]
  exact e
theorem FnPieces : ∀ (x0 : List Int), (x0.length ≤ 9223372036854775807 ∧ ∀ y ∈ x0, (Lit.int .u8 y).wf = true) → ∃ k, laws_FnPieces.f k x0 = some true := by
  intro l ⟨_, hw⟩
  refine Ev.rounds (g := fun k => laws_FnPieces.f k l) ?_
  unfold laws_FnPieces.f
  refine ev_bind0 (big_val l) ?_
  by_cases hb : (l.length : Int) > 1048576
  · exact ev_pos (decide_eq_true hb) (Ev.now true)
  refine ev_neg (by rw [decide_eq_false hb]; decide) ?_
  have h2 := law_j2 l (by omega)
  obtain ⟨h, e1⟩ := l1New_ev l (by omega)
  obtain ⟨x, y, i2, h3, e2, hx, hy, _, _⟩ := l8Pair_ev l (by omega) 0 h (by omega) (by omega)
  have ed : Ev (fun k => spec_DrawPiecesOf.f k l) (x, y) := by
    unfold spec_DrawPiecesOf.f
    exact Ev.bind e1 (Ev.bind e2 (Ev.now _))
  obtain ⟨P, _, ep, hP⟩ := pieces_ev x y (by omega) (by omega)
  refine Ev.bind ed (Ev.bind ep (ev_pos (by show (x.length : Int) ≤ 100; omega) (Ev.step (fun _ => laws_FnPieces.j0.eq_2 ..) ?_)))
  by_cases cy : (y.length : Int) ≤ 100
  · refine ev_pos (decide_eq_true cy) ?_
    rcases hP with ⟨_, hno⟩ | ⟨_, _, h', b', rfl, g⟩
    · exact absurd ⟨by omega, by omega⟩ hno
    have ea := impl_ApplyPieces_ev x (pcs x y h' b') (by omega) (by show 2 ≤ _; omega) (pcs_ok x y h' b' (by omega) (by omega) g)
    rw [apply_good x y h' b' (by omega) (by omega) g] at ea
    have eq := slices_Equal_int_int_ev y y (by omega)
    have ee : Ev (fun k => impl_EqualInts.f k y y) true := by
      unfold impl_EqualInts.f
      rw [decide_eq_true rfl] at eq
      exact Ev.bind eq (Ev.now _)
    have f1 := g.fit1
    have ec := cost_pcs x y h' b' f1 (by omega)
    have ew : Ev (fun k => impl_IsWorth.f k x y) (decide (2 + ((y.length : Int) - (b' : Int) - (h' : Int)) < (y.length : Int))) := by
      unfold impl_IsWorth.f
      exact Ev.bind ep (Ev.bind ec (Ev.now _))
    have es := same_ev x (by omega)
    have ec2 := cost_pcs x x x.length 0 (by omega) (by omega)
    refine Ev.bind ea (ev_pos rfl (Ev.bind ee (ev_pos rfl (ev_pos rfl (Ev.bind ec (ev_neg (by show ¬ _ > wrap64 ((y.length : Int) + 2); rw [w64 (by omega) (by omega)]; omega) (Ev.bind ew (Ev.bind ec ?_))))))))
    refine Ev.step (fun _ => laws_FnPieces.j1.eq_2 ..) (ev_neg (by simp) (Ev.bind es (Ev.bind ec2 (ev_pos (by omega) h2))))
  · exact ev_neg (fun w => cy (of_decide_eq_true w)) h2

end Go.Proofs.Ytgcidlnhgpjdpac.Pure
