/- The pure statement behind the law FnExactBytesToInts: over numbers and lists the law answers true, at every input that the row's bounds let in. -/
import Derived.Test.YtgcidlnhgpjdpaaPFnExactBytesToIntsx2
import Derived.Test.YtgcidlnhgpjdpaaWSized
namespace Go.Proofs.Ytgcidlnhgpjdpaa.Pure
open Go Go.RowKit Go.Proofs.Ytgcidlnhgpjdpaa.PFnExactBytesToInts Go.Proofs.YtgcidlnhgpjdpaaW.PrintWords Go.Proofs.YtgcidlnhgpjdpaaW.PrintLast Go.Proofs.YtgcidlnhgpjdpaaW.PrintMore
set_option linter.unusedVariables false
set_option linter.unusedSimpArgs false
set_option maxRecDepth 100000

theorem w64 {x : Int} (h0 : -9223372036854775808 ≤ x) (h1 : x ≤ 9223372036854775807) : wrap64 x = x := by unfold wrap64; omega
theorem wf64 {x : Int} (h : (Lit.int .i64 x).wf = true) : -9223372036854775808 ≤ x ∧ x ≤ 9223372036854775807 := by
  simp [Lit.wf, IntKind.min, IntKind.max, IntKind.signed, IntKind.bits] at h
  omega
theorem wf8 {x : Int} (h : (Lit.int .u8 x).wf = true) : 0 ≤ x ∧ x ≤ 255 := by
  simp [Lit.wf, IntKind.min, IntKind.max, IntKind.signed, IntKind.bits] at h
  omega
theorem ev_pos {α : Type} {c : Prop} [Decidable c] {g f : Nat → Option α} {r : α} (h : c) (k : Ev g r) : Ev (fun n => if c then g n else f n) r := by
  obtain ⟨K, hK⟩ := k
  exact ⟨K, fun n hn => (if_pos h).trans (hK n hn)⟩
theorem ev_neg {α : Type} {c : Prop} [Decidable c] {g f : Nat → Option α} {r : α} (h : ¬ c) (k : Ev f r) : Ev (fun n => if c then g n else f n) r := by
  obtain ⟨K, hK⟩ := k
  exact ⟨K, fun n hn => (if_neg h).trans (hK n hn)⟩
theorem ev_bind0 {α β : Type} {o : Option α} {f : Nat → α → Option β} {a : α} {r : β} (h : o = some a) (k : Ev (fun n => f n a) r) : Ev (fun n => o.bind (f n)) r := by
  subst h
  exact k
theorem ev_of {α : Type} {o : Option α} {r : α} (h : o = some r) : Ev (fun _ => o) r := ⟨0, fun _ _ => h⟩
theorem rd_at (xs : List Int) (i : Nat) (h : i < xs.length) : rd xs (i : Int) = xs[i] := by
  unfold rd
  rw [Int.toNat_natCast, List.getD_eq_getElem?_getD, List.getElem?_eq_getElem h]
  rfl
theorem set_take {out xs : List Int} {i : Nat} (h : out.take i = xs.take i) (hl : out.length = xs.length) (hi : i < xs.length) : (out.set ((i : Int)).toNat (rd xs i)).take (i + 1) = xs.take (i + 1) := by
  rw [rd_at xs i hi, Int.toNat_natCast, List.take_succ_eq_append_getElem hi, List.take_succ_eq_append_getElem (by rw [List.length_set]; omega)]
  rw [List.take_set_of_le (Nat.le_refl _), h]
  simp
def seqFrom (m : Int) (n : Nat) : List Int := (List.range n).map fun (j : Nat) => m + (j : Int)
theorem seqFrom_length (m : Int) (n : Nat) : (seqFrom m n).length = n := by simp [seqFrom]
theorem seqFrom_get (m : Int) (n i : Nat) (h : i < n) : (seqFrom m n)[i]'(by rw [seqFrom_length]; exact h) = m + (i : Int) := by simp [seqFrom]
theorem seq_set {x ys : List Int} {i : Nat} (h : x.take i = ys.take i) (hl : x.length = ys.length) (hi : i < ys.length) {v : Int} (hv : ys[i] = v) : (x.set ((i : Int)).toNat v).take (i + 1) = ys.take (i + 1) := by
  subst hv
  rw [Int.toNat_natCast, List.take_succ_eq_append_getElem hi, List.take_succ_eq_append_getElem (by rw [List.length_set]; omega)]
  rw [List.take_set_of_le (Nat.le_refl _), h]
  simp
theorem toByteS_l0 (xs : List Int) (hn : xs.length ≤ 281474976710656) : ∀ (d i : Nat) (out : List Int), i + d = xs.length → out.length = xs.length → out.take i = xs.take i → Ev (fun k => laws_toByteS.l0 k xs out (i : Int)) xs := by
  intro d
  induction d with
  | zero =>
    intro i out hd hl ht
    refine Ev.step (fun _ => laws_toByteS.l0.eq_2 ..) (ev_neg (by omega) (ev_of ?_))
    rw [List.take_of_length_le (by omega), List.take_of_length_le (by omega)] at ht
    rw [ht]
  | succ d ih =>
    intro i out hd hl ht
    refine Ev.step (fun _ => laws_toByteS.l0.eq_2 ..) (ev_pos (by omega) (ev_pos (by omega) (ev_pos (by omega) ?_)))
    rw [w64 (by omega) (by omega)]
    exact ih (i + 1) _ (by omega) (by rw [List.length_set]; exact hl) (set_take ht hl (by omega))
theorem toByteS_ev (xs : List Int) (hn : xs.length ≤ 281474976710656) : Ev (fun k => laws_toByteS.f k xs) xs := by
  unfold laws_toByteS.f
  refine ev_pos (by omega) (ev_pos (by omega) ?_)
  exact toByteS_l0 xs hn xs.length 0 _ (by omega) (by simp) (by simp)
theorem eqByteS_l0 (xs : List Int) (hn : xs.length ≤ 9223372036854775807) : ∀ (d i : Nat), i + d = xs.length → Ev (fun k => laws_eqByteS.l0 k xs xs (i : Int)) true := by
  intro d
  induction d with
  | zero =>
    intro i hd
    exact Ev.step (fun _ => laws_eqByteS.l0.eq_2 ..) (ev_neg (by omega) (Ev.now true))
  | succ d ih =>
    intro i hd
    refine Ev.step (fun _ => laws_eqByteS.l0.eq_2 ..) (ev_pos (by omega) (ev_pos (by omega) (ev_pos (by omega) (ev_pos rfl ?_))))
    rw [w64 (by omega) (by omega)]
    exact ih (i + 1) (by omega)
theorem eqByteS_same (xs : List Int) (hn : xs.length ≤ 9223372036854775807) : Ev (fun k => laws_eqByteS.f k xs xs) true := by
  unfold laws_eqByteS.f
  exact ev_pos rfl (eqByteS_l0 xs hn xs.length 0 (by omega))
theorem eqIntS_l0 (xs : List Int) (hn : xs.length ≤ 9223372036854775807) : ∀ (d i : Nat), i + d = xs.length → Ev (fun k => laws_eqIntS.l0 k xs xs (i : Int)) true := by
  intro d
  induction d with
  | zero =>
    intro i hd
    exact Ev.step (fun _ => laws_eqIntS.l0.eq_2 ..) (ev_neg (by omega) (Ev.now true))
  | succ d ih =>
    intro i hd
    refine Ev.step (fun _ => laws_eqIntS.l0.eq_2 ..) (ev_pos (by omega) (ev_pos (by omega) (ev_pos (by omega) (ev_pos rfl ?_))))
    rw [w64 (by omega) (by omega)]
    exact ih (i + 1) (by omega)
theorem eqIntS_same (xs : List Int) (hn : xs.length ≤ 9223372036854775807) : Ev (fun k => laws_eqIntS.f k xs xs) true := by
  unfold laws_eqIntS.f
  exact ev_pos rfl (eqIntS_l0 xs hn xs.length 0 (by omega))
def byteFrom (m : Int) (n : Nat) : List Int := (List.range n).map fun (j : Nat) => (m + (j : Int)) % 256
theorem byteFrom_length (m : Int) (n : Nat) : (byteFrom m n).length = n := by simp [byteFrom]
theorem byteFrom_get (m : Int) (n i : Nat) (h : i < n) : (byteFrom m n)[i]'(by rw [byteFrom_length]; exact h) = (m + (i : Int)) % 256 := by simp [byteFrom]
theorem markByteS_l0 : ∀ (d i : Nat) (m : Int) (x : List Int) (s : Int) (n : Nat), n = x.length → i + d = n → m = s + (i : Int) → 0 ≤ s → s + (n : Int) ≤ 4611686018427387904 → x.take i = (byteFrom s n).take i → Ev (fun k => laws_markByteS.l0 k x m (i : Int)) (s + (n : Int), byteFrom s n) := by
  intro d
  induction d with
  | zero =>
    intro i m x s n hn hd hm hs hb ht
    refine Ev.step (fun _ => laws_markByteS.l0.eq_2 ..) (ev_neg (by omega) (ev_of ?_))
    rw [List.take_of_length_le (by omega), List.take_of_length_le (by rw [byteFrom_length]; omega)] at ht
    rw [ht, show m = s + (n : Int) by omega]
  | succ d ih =>
    intro i m x s n hn hd hm hs hb ht
    refine Ev.step (fun _ => laws_markByteS.l0.eq_2 ..) (ev_pos (by omega) (ev_pos (by omega) ?_))
    rw [w64 (x := m + 1) (by omega) (by omega), w64 (x := (i : Int) + 1) (by omega) (by omega)]
    exact ih (i + 1) (m + 1) _ s n (by rw [List.length_set]; exact hn) (by omega) (by omega) hs hb (seq_set ht (by rw [byteFrom_length]; omega) (by rw [byteFrom_length]; omega) (by rw [byteFrom_get _ _ _ (by omega)]; omega))
theorem markByteS_ev (x : List Int) (s : Int) (hs : 0 ≤ s) (hb : s + (x.length : Int) ≤ 4611686018427387904) : Ev (fun k => laws_markByteS.f k x s) (s + (x.length : Int), byteFrom s x.length) := by
  unfold laws_markByteS.f
  exact markByteS_l0 x.length 0 s x s x.length rfl (by omega) (by omega) hs hb rfl
theorem markIntS_l0 : ∀ (d i : Nat) (m : Int) (x : List Int) (s : Int) (n : Nat), n = x.length → i + d = n → m = s + (i : Int) → 0 ≤ s → s + (n : Int) ≤ 4611686018427387904 → x.take i = (seqFrom s n).take i → Ev (fun k => laws_markIntS.l0 k x m (i : Int)) (s + (n : Int), seqFrom s n) := by
  intro d
  induction d with
  | zero =>
    intro i m x s n hn hd hm hs hb ht
    refine Ev.step (fun _ => laws_markIntS.l0.eq_2 ..) (ev_neg (by omega) (ev_of ?_))
    rw [List.take_of_length_le (by omega), List.take_of_length_le (by rw [seqFrom_length]; omega)] at ht
    rw [ht, show m = s + (n : Int) by omega]
  | succ d ih =>
    intro i m x s n hn hd hm hs hb ht
    refine Ev.step (fun _ => laws_markIntS.l0.eq_2 ..) (ev_pos (by omega) (ev_pos (by omega) ?_))
    rw [w64 (x := m + 1) (by omega) (by omega), w64 (x := (i : Int) + 1) (by omega) (by omega)]
    exact ih (i + 1) (m + 1) _ s n (by rw [List.length_set]; exact hn) (by omega) (by omega) hs hb (seq_set ht (by rw [seqFrom_length]; omega) (by rw [seqFrom_length]; omega) (by rw [seqFrom_get _ _ _ (by omega)]; omega))
theorem markIntS_ev (x : List Int) (s : Int) (hs : 0 ≤ s) (hb : s + (x.length : Int) ≤ 4611686018427387904) : Ev (fun k => laws_markIntS.f k x s) (s + (x.length : Int), seqFrom s x.length) := by
  unfold laws_markIntS.f
  exact markIntS_l0 x.length 0 s x s x.length rfl (by omega) (by omega) hs hb rfl
theorem heldIntS_l0 (s : Int) (n : Nat) (hs : 0 ≤ s) (hb : s + (n : Int) ≤ 4611686018427387904) : ∀ (d i : Nat) (m : Int), i + d = n → m = s + (i : Int) → Ev (fun k => laws_heldIntS.l0 k (seqFrom s n) m (i : Int)) (s + (n : Int)) := by
  intro d
  induction d with
  | zero =>
    intro i m hd hm
    refine Ev.step (fun _ => laws_heldIntS.l0.eq_2 ..) (ev_neg (by rw [seqFrom_length]; omega) (ev_of ?_))
    rw [show m = s + (n : Int) by omega]
  | succ d ih =>
    intro i m hd hm
    refine Ev.step (fun _ => laws_heldIntS.l0.eq_2 ..) (ev_pos (by rw [seqFrom_length]; omega) (ev_pos (by omega) (ev_pos ?_ ?_)))
    · rw [rd_at _ i (by rw [seqFrom_length]; omega), seqFrom_get _ _ _ (by omega)]
      omega
    · rw [w64 (x := m + 1) (by omega) (by omega), w64 (x := (i : Int) + 1) (by omega) (by omega)]
      exact ih (i + 1) (m + 1) (by omega) (by omega)
theorem heldIntS_ev (s : Int) (n : Nat) (hs : 0 ≤ s) (hb : s + (n : Int) ≤ 4611686018427387904) : Ev (fun k => laws_heldIntS.f k (seqFrom s n) s) (s + (n : Int)) := by
  unfold laws_heldIntS.f
  exact heldIntS_l0 s n hs hb n 0 s (by omega) (by omega)
theorem spec_BytesToInts_l0 (l : List Int) (hl : l.length ≤ 1099511627776) (hw : ∀ x ∈ l, (Lit.int .u8 x).wf = true) : ∀ (d i : Nat) (out : List Int), i + d = l.length → out.length = i + 1 → Ev (fun k => spec_BytesToInts.l0 k l out (i : Int)) (out ++ l.drop i) := by
  intro d
  induction d with
  | zero =>
    intro i out hd ho
    refine Ev.step (fun _ => spec_BytesToInts.l0.eq_2 ..) (ev_neg (by omega) (ev_of ?_))
    rw [List.drop_eq_nil_of_le (by omega), List.append_nil]
  | succ d ih =>
    intro i out hd ho
    refine Ev.step (fun _ => spec_BytesToInts.l0.eq_2 ..) (ev_pos (by omega) (ev_pos (by omega) (ev_pos (by omega) ?_)))
    have hb := wf8 (hw _ (List.getElem_mem (show i < l.length by omega)))
    rw [rd_at l i (by omega), w64 (x := (i : Int) + 1) (by omega) (by omega), w64 (x := l[i]'(by omega)) (by omega) (by omega)]
    have h := ih (i + 1) (out ++ [l[i]'(by omega)]) (by omega) (by simp; omega)
    rw [List.append_assoc, List.singleton_append, ← List.drop_eq_getElem_cons (show i < l.length by omega)] at h
    exact h
theorem spec_BytesToInts_ev (l : List Int) (hl : l.length ≤ 1099511627776) (hw : ∀ x ∈ l, (Lit.int .u8 x).wf = true) : Ev (fun k => spec_BytesToInts.f k l) ((l.length : Int) :: l) := by
  unfold spec_BytesToInts.f
  exact spec_BytesToInts_l0 l hl hw l.length 0 _ (by omega) (by simp)
theorem impl_BytesToInts_l0 (l : List Int) (hl : l.length ≤ 1099511627776) (hw : ∀ x ∈ l, (Lit.int .u8 x).wf = true) : ∀ (d i : Nat) (out : List Int), i + d = l.length → out.length = i + 1 → Ev (fun k => impl_BytesToInts.l0 k out l (l.length : Int) (i : Int)) (out ++ l.drop i) := by
  intro d
  induction d with
  | zero =>
    intro i out hd ho
    refine Ev.step (fun _ => impl_BytesToInts.l0.eq_2 ..) (ev_neg (by omega) (ev_of ?_))
    rw [List.drop_eq_nil_of_le (by omega), List.append_nil]
  | succ d ih =>
    intro i out hd ho
    refine Ev.step (fun _ => impl_BytesToInts.l0.eq_2 ..) (ev_pos (by omega) (ev_pos (by omega) (ev_pos (by omega) (ev_pos (by omega) ?_))))
    have hb := wf8 (hw _ (List.getElem_mem (show i < l.length by omega)))
    rw [rd_at l i (by omega), w64 (x := (i : Int) + 1) (by omega) (by omega), w64 (x := l[i]'(by omega)) (by omega) (by omega)]
    have h := ih (i + 1) (out ++ [l[i]'(by omega)]) (by omega) (by simp; omega)
    rw [List.append_assoc, List.singleton_append, ← List.drop_eq_getElem_cons (show i < l.length by omega)] at h
    exact h
theorem impl_BytesToInts_ev (l : List Int) (hl : l.length ≤ 1099511627776) (hw : ∀ x ∈ l, (Lit.int .u8 x).wf = true) : Ev (fun k => impl_BytesToInts.f k l) ((l.length : Int) :: l) := by
  unfold impl_BytesToInts.f
  exact impl_BytesToInts_l0 l hl hw l.length 0 _ (by omega) (by simp)
theorem FnExactBytesToInts : laws_FnExactBytesToInts.Pure := by
  intro l hl hs hw
  refine Ev.rounds (g := fun k => laws_FnExactBytesToInts.f k l) ?_
  unfold laws_FnExactBytesToInts.f
  by_cases hb : (l.length : Int) > 1048576
  · exact ev_pos hb (Ev.now true)
  refine ev_neg hb ?_
  have hlen : ((l.length : Int) :: l).length ≤ 1048577 := by simp only [List.length_cons]; omega
  refine Ev.bind (toByteS_ev l (by omega)) ?_
  refine Ev.bind (spec_BytesToInts_ev l (by omega) hw) ?_
  refine Ev.bind (toByteS_ev l (by omega)) ?_
  refine Ev.bind (impl_BytesToInts_ev l (by omega) hw) ?_
  refine Ev.bind (eqIntS_same _ (by omega)) (ev_pos rfl ?_)
  refine Ev.bind (toByteS_ev l (by omega)) ?_
  refine Ev.bind (eqByteS_same l (by omega)) (ev_pos rfl ?_)
  refine Ev.bind (markByteS_ev l 1 (by omega) (by omega)) (ev_neg (by simp only; omega) ?_)
  refine Ev.bind (eqIntS_same _ (by omega)) ?_
  refine Ev.step (fun _ => laws_FnExactBytesToInts.j0.eq_2 ..) (ev_neg (by decide) ?_)
  refine Ev.bind (markIntS_ev _ 1 (by omega) (by omega)) ?_
  refine Ev.bind (heldIntS_ev 1 _ (by omega) (by omega)) (ev_neg (by omega) (ev_pos rfl ?_))
  refine Ev.bind (toByteS_ev l (by omega)) ?_
  refine Ev.bind (impl_BytesToInts_ev l (by omega) hw) ?_
  refine Ev.bind (eqIntS_same _ (by omega)) (ev_pos rfl ?_)
  exact Ev.bind (heldIntS_ev 1 _ (by omega) (by omega)) (ev_neg (by omega) (ev_pos rfl (Ev.now true)))

end Go.Proofs.Ytgcidlnhgpjdpaa.Pure

namespace Go.Proofs.Ytgcidlnhgpjdpaa.PrintWords
open Go.ChangeShapes Go.WideShapes
theorem sized_ints {H : Type} {enc : TypeId × Value → H} {P : Program} {W : World} {base : Nat} {spare : Nat → Bool} {held : Bool} {t e : TypeId} {k : IntKind} {a : Option Addr} {len cap : Nat} {d : DataW H} {ps : List MemPlace} {ts : List TypeId} {ds : List (DataW H)} {j : Nat}
    (hsz : (DataW.weightsEach P ts ds).all (· ≤ reachBytes) = true) (ht : ts[j]? = some t) (hd : ds[j]? = some d) (hu : P.underlying t = some (.slice e)) (he : P.underlying e = some (.int k)) (hc : P.cellsOf e = 1) {B : Nat} (hB : P.bytesOf e = B)
    (h : DataW.Trod enc P W base spare held t (.slice a len cap) d ps) : len * B ≤ 140737488351232 :=
  Go.Proofs.YtgcidlnhgpjdpaaW.PrintWords.sized_ints hsz ht hd hu he hc hB h
end Go.Proofs.Ytgcidlnhgpjdpaa.PrintWords
