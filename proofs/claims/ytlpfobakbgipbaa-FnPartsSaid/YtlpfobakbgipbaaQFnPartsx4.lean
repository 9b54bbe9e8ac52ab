/- The Go functions that the law FnParts comes to, each as a Lean function, with a proof that the call does what it says; written by a program of this session over the print of the kit. No conditions. -/
import Derived.Test.YtlpfobakbgipbaaQFnPartsx0
import Derived.Test.YtlpfobakbgipbaaQFnPartsx2
import Derived.Test.YtlpfobakbgipbaaQFnPartsx3
namespace Go.Proofs.Ytlpfobakbgipbaa.QFnParts
open Go.RowKit Go.Proofs.YtlpfobakbgipbaaW.PrintWords Go.Proofs.YtlpfobakbgipbaaW.PrintLast Go.Proofs.YtlpfobakbgipbaaW.PrintMore
attribute [local go_sem] max2_int min2_int max_two min_two max_three min_three max_four min_four   -- for this text's walks alone
set_option linter.unusedVariables false
set_option linter.unusedSimpArgs false

/-! ### impl_PutPart: function 11 (by hand) -/
def slices_Insert_Part.T15 : Bool × List (List Nat × List Nat) := (true, [([], []), ([], []), ([], []), ([1, 2], [1, 2]), ([0, 3], [0, 3]), ([], []), ([], []), ([5, 6], [5, 6]), ([4, 7], [4, 7])])
def slices_Insert_Part.B15 : List Nat := [0, 0, 0, 6, 15, 0, 0, 96, 255]
theorem slices_Insert_Part.tab15 : rtab .any (opsOf Try.f43 15) = slices_Insert_Part.T15 := by kernel_rfl
theorem slices_Insert_Part.bits15 : waitsOk slices_Insert_Part.T15.2 slices_Insert_Part.B15 = true := by kernel_rfl
def slices_Insert_Part.T11 : Bool × List (List Nat × List Nat) := (true, [([], []), ([], []), ([], []), ([1, 2], [1, 2]), ([0, 3], [0, 3]), ([], []), ([], []), ([5, 6], [5, 6]), ([4, 7], [4, 7])])
def slices_Insert_Part.B11 : List Nat := [0, 0, 0, 6, 15, 0, 0, 96, 255]
theorem slices_Insert_Part.tab11 : rtab .any (opsOf Try.f43 11) = slices_Insert_Part.T11 := by kernel_rfl
theorem slices_Insert_Part.bits11 : waitsOk slices_Insert_Part.T11.2 slices_Insert_Part.B11 = true := by kernel_rfl
theorem grown_set {w W : World} {row : Option Nat} {g : Nat} (vs : List Value) (o : Nat) (h : w.grownBy W row) (hr : row = some g ∨ w.heap.size ≤ g) : w.grownBy (W.setCells g o vs) row :=
  have e := setCells_same g vs o W
  ⟨e.1.trans h.os, e.2.1.trans h.tape, e.2.2.1.trans h.output, Nat.le_trans h.size (Nat.le_of_eq e.2.2.2.symm), fun k hk hne => (setCells_far _ _ k (fun he => by
    rcases hr with h | h
    · exact hne (by rw [h, he])
    · omega)).trans (h.block k hk hne)⟩
theorem grown_drew {w W : World} {row : Option Nat} (h : w.grownBy W row) : w.grownBy W.drew row := ⟨h.os, h.tape, h.output, h.size, h.block⟩
theorem row_room (l inner cp l1 l2 : List Value) {I N : Nat} (hin : inner = l.take N) (hI : I ≤ N) (hN : N + 7 ≤ l.length) (hc : cp.length = 7) (h1 : l1 = l.take (I + 7) ++ inner.drop I ++ l.drop (I + 7 + (inner.drop I).length)) (h2 : l2 = l1.take I ++ cp ++ l1.drop (I + cp.length)) : l2.take (N + 7) = inner.take I ++ cp ++ inner.drop I := by
  have hl : inner.length = N := by rw [hin, List.length_take]; omega
  have ht : l1.take I = inner.take I := by
    rw [h1, List.append_assoc, List.take_append_of_le_length (by rw [List.length_take]; omega), List.take_take, hin, List.take_take]
    congr 1
    omega
  have hd : l1.drop (I + cp.length) = inner.drop I ++ l.drop (I + 7 + (inner.drop I).length) := by
    rw [h1, hc, List.append_assoc, List.drop_append_of_le_length (by rw [List.length_take]; omega), List.drop_eq_nil_of_le (by rw [List.length_take]; omega), List.nil_append]
  rw [h2, ht, hd, ← List.append_assoc, List.take_append_of_le_length (by simp only [List.length_append, List.length_take, List.length_drop]; omega), List.take_of_length_le (by simp only [List.length_append, List.length_take, List.length_drop]; omega)]
theorem row_grow (Z inner cp l l1 l2 : List Value) {I N : Nat} (hl : inner.length = N) (hI : I ≤ N) (h0 : l = inner.take I ++ Z) (hN : N + 7 ≤ l.length) (hc : cp.length = 7) (h1 : l1 = l.take I ++ cp ++ l.drop (I + cp.length)) (h2 : l2 = l1.take (I + 7) ++ inner.drop I ++ l1.drop (I + 7 + (inner.drop I).length)) : l2.take (N + 7) = inner.take I ++ cp ++ inner.drop I := by
  have ht : l.take I = inner.take I := by
    rw [h0, List.take_append_of_le_length (by rw [List.length_take]; omega), List.take_take]
    congr 1
    omega
  have h3 : l1.take (I + 7) = inner.take I ++ cp := by
    rw [h1, ht, List.take_append_of_le_length (by simp only [List.length_append, List.length_take]; omega), List.take_of_length_le (by simp only [List.length_append, List.length_take]; omega)]
  rw [h2, h3, List.take_append_of_le_length (by simp only [List.length_append, List.length_take, List.length_drop]; omega), List.take_of_length_le (by simp only [List.length_append, List.length_take, List.length_drop]; omega)]
theorem sizeOf63 : ∀ w, (Go.sizeOf 63).run Try.prog w = .ok 7 w := by
  intro w
  obtain ⟨i, hi, he⟩ := Option.map_eq_some_iff.1 info63
  have h : i.size = 7 := congrArg (fun q => q.2.1) he
  simp [Go.sizeOf, typeInfo, hi, h]
theorem size63 : (Try.prog.info? 63).map (·.size) = some 7 := by
  obtain ⟨i, hi, he⟩ := Option.map_eq_some_iff.1 info63
  have h : i.size = 7 := congrArg (fun q => q.2.1) he
  rw [hi]; exact congrArg some h
theorem apart70 {w : World} {vb g : Nat} {cp : Array Value} {cur : Array Value} (hne : vb ≠ g) (hg : w.heap[g]? = some (.cells cur 63 (0, 0))) (hv : w.heap[vb]? = some (.cells cp 63 (0, 0))) (h0 : cur.size ≠ 0) (o la ca lb cb : Nat) :
    (callFunc 70 #[.slice (some ⟨vb, 0, none⟩) la ca, .slice (some ⟨g, o, none⟩) lb cb]).run Try.prog w = .ok (.value (.bool false)) w := by
  rw [run_callFunc_extern Try.func70 (by kernel_rfl) (by kernel_rfl) (by kernel_rfl) (e := Extern.SlicesOverlaps.overlaps #[30, 30] #[4]) (by kernel_rfl),
    Lib.run_overlaps_apart w 30 4 63 Try.underlying30 7 sizeOf63 ⟨vb, 0, none⟩ ⟨g, o, none⟩ la ca lb cb hne 63 63 cp.size cur.size (by unfold World.shape?; rw [hv]) (by unfold World.shape?; rw [hg]) h0 (blk_frozen hv _) (blk_frozen hv _)]
  rfl
set_option maxHeartbeats 8000000 in
set_option maxRecDepth 100000 in
/-- There is room, and the place is ahead of the end: in place. -/
theorem slices_Insert_Part.room (g n c vb i : Nat) (cp inner : List Value) (cur : Array Value) (w : World) (hi : i < n) (hroom : n + 1 ≤ c) (hc63 : c ≤ 9223372036854775807) (hne : vb ≠ g) (hg : w.heap[g]? = some (.cells cur 63 (0, 0))) (hcs : cur.size = c * 7) (hin : inner = cur.toList.take (n * 7)) (hv : w.heap[vb]? = some (.cells cp.toArray 63 (0, 0))) (hcl : cp.length = 7) (h1 : ∀ u ∈ inner, u.oneCell' = true) (h2 : ∀ u ∈ cp, u.oneCell' = true) :
    Calls Try.prog 43 #[.slice (some ⟨g, 0, none⟩) n c, .int .i64 i, .slice (some ⟨vb, 0, none⟩) 1 1] w fun e w' => e = .returned (.slice (some ⟨g, 0, none⟩) (n + 1) c) ∧ w' = (w.drew.setCells g ((i + 1) * 7) (inner.drop (i * 7))).setCells g (i * 7) cp := by
  have hov := fun lb cb => apart70 (o := (i + 1) * 7) (la := 1) (ca := 1) (lb := lb) (cb := cb) hne hg hv (by rw [hcs]; omega)
  have hdl : (inner.drop (i * 7)).length = (n - i) * 7 := by rw [List.length_drop, hin, List.length_take, Array.length_toList, hcs]; omega
  have hcp1 : ∀ ty dc sc, (Builtin.copy_ #[30, 30] ty #[.slice (some ⟨g, (i + 1) * 7, none⟩) (n - i) dc, .slice (some ⟨g, i * 7, none⟩) (n + 1 - i) sc]).run Try.prog w.drew = .ok (goInt ((n - i : Nat) : Int)) (w.drew.setCells g ((i + 1) * 7) (inner.drop (i * 7))) := fun ty dc sc =>
    run_copy_N w.drew 30 30 ty 63 7 g ((i + 1) * 7) (n - i) dc ⟨g, i * 7, none⟩ (n + 1 - i) sc (n - i) _ Try.underlying30 size63 (by simp only [Nat.min_def]; split <;> omega) hdl
      (cells_of hg (by rw [hdl, hin, List.drop_take, ← Nat.sub_mul])) (fun j hj => there_of (n := (n - i) * 7) hg (by rw [hcs]; omega) j (by rw [hdl] at hj; exact hj)) (fun j _ => blk_frozen hg _) (fun u hu => h1 u (List.mem_of_mem_drop hu))
  obtain ⟨cur1, hg1, hs1, hl1⟩ := setCells_row (inner.drop (i * 7)) ((i + 1) * 7) w.drew cur hg (by rw [hdl, hcs]; omega)
  obtain ⟨W1, hW1⟩ : ∃ W1, W1 = w.drew.setCells g ((i + 1) * 7) (inner.drop (i * 7)) := ⟨_, rfl⟩
  have hv1 : W1.heap[vb]? = some (.cells cp.toArray 63 (0, 0)) := by rw [hW1, setCells_far _ _ _ hne]; exact hv
  rw [← hW1] at hcp1 hg1 ⊢
  have hcp2 : ∀ ty dc, (Builtin.copy_ #[30, 30] ty #[.slice (some ⟨g, i * 7, none⟩) (n + 1 - i) dc, .slice (some ⟨vb, 0, none⟩) 1 1]).run Try.prog W1 = .ok (goInt 1) (W1.setCells g (i * 7) cp) := fun ty dc =>
    run_copy_N W1 30 30 ty 63 7 g (i * 7) (n + 1 - i) dc ⟨vb, 0, none⟩ 1 1 1 _ Try.underlying30 size63 (by simp only [Nat.min_def]; split <;> omega) (by omega)
      (cells_of hv1 (by rw [List.drop_zero, List.take_of_length_le (by simp)])) (fun j hj => there_of (n := 7) hg1 (by rw [hs1, hcs]; omega) j (by omega)) (fun j _ => blk_frozen hg1 _) h2
  have q1 : ((i : Int) == (n : Int)) = false := beq_eq_false_iff_ne.mpr (by omega)
  have q2 : IntKind.i64.wrap ((n : Int) + 1) = (n : Int) + 1 := by rw [IntKind.wrap_i64]; omega
  have q3 : IntKind.i64.wrap ((i : Int) + 1) = (i : Int) + 1 := by rw [IntKind.wrap_i64]; omega
  have q4 : i ≤ n := by omega
  have q5 : i ≤ c := by omega
  have q6 : (0 : Int) ≤ (n : Int) + 1 := by omega
  have q7 : (n : Int) + 1 ≤ (c : Int) := by omega
  have q8 : decide ((n : Int) + 1 > (c : Int)) = false := decide_eq_false (by omega)
  have q8b : decide ((c : Int) < (n : Int) + 1) = false := q8
  have q9 : ¬ (c = i + 1) := by omega
  have q10 : ¬ (c = i) := by omega
  have q11 : (0 : Int) ≤ (i : Int) + 1 := by omega
  have q12 : (i : Int) + 1 ≤ (n : Int) + 1 := by omega
  have q13 : (i : Int) ≤ (n : Int) + 1 := by omega
  clear hin hcs h1 h2 hg hg1 hs1 hl1 hv hv1 hdl hW1 hcl hne
  go_enter Try.func43, Try.ntmps43
  go_wp2_with (simp only [hov])
  refine start_ (n := 9) (S := fun _ => True) (ds := []) (mk 9 0) (by kernel_rfl) rfl rfl trivial (fun hHeld => ?_)
  refine with_tabW slices_Insert_Part.tab15 slices_Insert_Part.bits15 (fun HT_ HW_ => ?_)
  refine on_ 0 69 (mk 9 0x1) ?_
  refine on_ 1 70 (mk 9 0x3) ?_
  refine on_ 2 71 (mk 9 0x7) ?_
  refine on_ 3 72 (mk 9 0xF) ?_
  refine on_ 4 73 (mk 9 0x1F) ?_
  refine on_ 5 74 (mk 9 0x3F) ?_
  refine on_ 6 75 (mk 9 0x7F) ?_
  refine on_ 7 76 (mk 9 0xFF) ?_
  refine one_ (i := 8) (N := some 77) (mk 9 0x1FF) rfl rfl (one_of HT_.out (by kernel_rfl)) (by decide) (fun K hK => ?_)
  refine copy_step _ (by rfl) (.tmp 73) (.tmp 76) 30 30 rfl (.slice (some ⟨g, (i + 1) * 7, none⟩) (n - i) (c - (i + 1))) (.slice (some ⟨g, i * 7, none⟩) (n + 1 - i) (c - i)) ?e1 ?e2 (hcp1 _ _ _) ?_
  case e1 => rfl
  case e2 => rfl
  refine hK.out _ _ trivial (fun hHeld => nk_ 77 ?_)
  clear hK K
  refine dn_ ?_
  go_wp2_with (((with_reducible refine gate_builtin (b := .copy) (xs := #[.tmp 80, .tmp 81]) rfl ?_); refine copy_run _ rfl (.tmp 80) (.tmp 81) 30 30 rfl _ _ rfl rfl (hcp2 _ _) ?_))
  go_ret
  exact ⟨rfl, rfl⟩
set_option maxHeartbeats 8000000 in
set_option maxRecDepth 100000 in
/-- There is no room, and the place is ahead of the end: a new row. -/
theorem slices_Insert_Part.grow (base g n c vb i : Nat) (cp inner : List Value) (cur : Array Value) (w : World) (hbase : base ≤ w.heap.size) (hi : i < n) (hnc : n ≤ c) (hroom : c < n + 1) (hbig : (n + 1) * 72 ≤ 140737488355328) (hg : w.heap[g]? = some (.cells cur 63 (0, 0))) (hcs : cur.size = c * 7) (hin : inner = cur.toList.take (n * 7)) (hv : w.heap[vb]? = some (.cells cp.toArray 63 (0, 0))) (hcl : cp.length = 7) (h1 : ∀ u ∈ inner, u.oneCell' = true) (h2 : ∀ u ∈ cp, u.oneCell' = true) :
    Calls Try.prog 43 #[.slice (some ⟨g, 0, none⟩) n c, .int .i64 i, .slice (some ⟨vb, 0, none⟩) 1 1] w fun e w' => ∃ v1, e = .returned v1 ∧ w'.ownsRow base 63 7 v1 (n + 1) (inner.take (i * 7) ++ cp ++ inner.drop (i * 7)) ∧ w.grownBy w' (some g) ∧ (v1.ownBlock = some g ∨ v1.ownBlock = some w.heap.size) := by
  have hil : inner.length = n * 7 := by rw [hin, List.length_take, Array.length_toList, hcs]; omega
  have hdl : (inner.drop (i * 7)).length = (n - i) * 7 := by rw [List.length_drop, hil]; omega
  obtain ⟨i0, hi0, he0⟩ := Option.map_eq_some_iff.1 info63
  obtain ⟨z, hz⟩ : ∃ z : Value, z = .agg #[(.int .i64 0), (.int .i64 0), (.slice none 0 0), (.int .i64 0), (.int .i64 0), (.int .i64 0), (.int .i64 0)] := ⟨_, rfl⟩
  rw [← hz] at he0
  have hz0 : i0.zero = some z := congrArg (fun q => q.1) he0
  have hzs : i0.size = 7 := congrArg (fun q => q.2.1) he0
  have hzb : i0.bytes = 72 := congrArg (fun q => q.2.2) he0
  have hzc : z.cells.size = 7 := by rw [hz]; rfl
  have hold : (Builtin.firstCells i0.size i (.slice (some ⟨g, 0, none⟩) i c)).run Try.prog w.drew = .ok (inner.take (i * 7)).toArray w.drew := by
    rw [hzs]
    exact run_firstCells_some w.drew 7 i ⟨g, 0, none⟩ i c _ (by rw [List.length_take, hil]; omega) (cells_of hg (by rw [List.length_take, hil, List.drop_zero, hin, List.take_take]; first | done | (congr 1; omega)))
  have hik : i + (n + 1 - i) = n + 1 := by omega
  have hkk : (n : Int) + 1 - (i : Int) = ((n + 1 - i : Nat) : Int) := by omega
  obtain ⟨G, hG⟩ : ∃ G, G = grownCap w (n + 1) c 63 := ⟨_, rfl⟩
  have hG1 : n + 1 ≤ G := hG ▸ grownCap_ge w _ _ _
  have hG2 : G ≤ maxLen := hG ▸ grownCap_le_maxLen w (n + 1) c 63 (by unfold maxLen; omega)
  have hG63 : G ≤ 9223372036854775807 := hG2
  obtain ⟨ROW, hROW⟩ : ∃ ROW : Array Value, ROW = (inner.take (i * 7)).toArray ++ Builtin.zeroCells z.cells (n + 1 - i) ++ Builtin.zeroCells z.cells (G - (n + 1)) := ⟨_, rfl⟩
  have hrz : ∀ ty, (Builtin.append_ #[30, 3] ty #[.slice (some ⟨g, 0, none⟩) i c, .int .i64 ((n : Int) + 1 - (i : Int))]).run Try.prog w = .ok (.slice (some ⟨w.heap.size, 0, none⟩) (n + 1) G) (w.drew.alloc (.cells ROW 63)) := fun ty => by
    have h := Lib.run_append_grow_zeros w 30 3 ty 63 i0 z .i64 .i64 Try.underlying30 Try.underlying3 hi0 hz0 (some ⟨g, 0, none⟩) i c _ hold (n + 1 - i) (by omega) (by omega) (by omega) (by omega) (by rw [hzb]; omega) (by rw [hzb, hik]; exact growslice_fits (by omega) hbig)
    rw [hik] at h
    rw [hkk, hROW, hG]
    exact h
  have hRs : ROW.size = G * 7 := by
    rw [hROW]
    simp only [Array.size_append, List.size_toArray, size_zeroCells, hzc, List.length_take, hil]
    omega
  have hRl : ROW.toList = inner.take (i * 7) ++ ((Builtin.zeroCells z.cells (n + 1 - i)).toList ++ (Builtin.zeroCells z.cells (G - (n + 1))).toList) := by rw [hROW, Array.toList_append, Array.toList_append, List.append_assoc]
  clear hold hi0 hz0 he0 hROW hkk hik
  obtain ⟨N, hN⟩ : ∃ N, N = w.heap.size := ⟨_, rfl⟩
  have hgN : g < N := hN ▸ blk_lt hg
  have hvN : vb < N := hN ▸ blk_lt hv
  rw [← hN] at hrz ⊢
  obtain ⟨W1, hW1⟩ : ∃ W1, W1 = w.drew.alloc (.cells ROW 63) := ⟨_, rfl⟩
  rw [← hW1] at hrz
  have g1 : W1.heap[N]? = some (.cells ROW 63 (0, 0)) := by rw [hW1, hN]; exact heap_alloc_new w.drew _
  have gr1 : w.grownBy W1 (some g) := by rw [hW1]; exact ⟨rfl, rfl, rfl, by simp, fun k hk _ => heap_alloc_old w.drew _ hk⟩
  have hgg : W1.heap[g]? = some (.cells cur 63 (0, 0)) := by rw [hW1, heap_alloc_old w.drew _ (blk_lt hg)]; exact hg
  have hvv : W1.heap[vb]? = some (.cells cp.toArray 63 (0, 0)) := by rw [hW1, heap_alloc_old w.drew _ (blk_lt hv)]; exact hv
  have hcpA : ∀ ty dc, (Builtin.copy_ #[30, 30] ty #[.slice (some ⟨N, i * 7, none⟩) (n + 1 - i) dc, .slice (some ⟨vb, 0, none⟩) 1 1]).run Try.prog W1 = .ok (goInt 1) (W1.setCells N (i * 7) cp) := fun ty dc =>
    run_copy_N W1 30 30 ty 63 7 N (i * 7) (n + 1 - i) dc ⟨vb, 0, none⟩ 1 1 1 _ Try.underlying30 size63 (by simp only [Nat.min_def]; split <;> omega) (by omega)
      (cells_of hvv (by rw [List.drop_zero, List.take_of_length_le (by simp)])) (fun j hj => there_of (n := 7) g1 (by rw [hRs]; omega) j (by omega)) (fun j _ => blk_frozen g1 _) h2
  obtain ⟨cur2, g2, s2, l2⟩ := setCells_row cp (i * 7) W1 ROW g1 (by rw [hcl, hRs]; omega)
  have hgg2 : (W1.setCells N (i * 7) cp).heap[g]? = some (.cells cur 63 (0, 0)) := by rw [setCells_far _ _ _ (by omega)]; exact hgg
  have gr2 := grown_drew (grown_set cp (i * 7) gr1 (.inr (Nat.le_of_eq hN.symm)))
  obtain ⟨W2, hW2⟩ : ∃ W2, W2 = W1.setCells N (i * 7) cp := ⟨_, rfl⟩
  rw [← hW2] at hcpA g2 hgg2 gr2
  have hcpB : ∀ ty dc sc, (Builtin.copy_ #[30, 30] ty #[.slice (some ⟨N, (i + 1) * 7, none⟩) (n - i) dc, .slice (some ⟨g, i * 7, none⟩) (n - i) sc]).run Try.prog W2.drew = .ok (goInt ((n - i : Nat) : Int)) (W2.drew.setCells N ((i + 1) * 7) (inner.drop (i * 7))) := fun ty dc sc =>
    run_copy_N W2.drew 30 30 ty 63 7 N ((i + 1) * 7) (n - i) dc ⟨g, i * 7, none⟩ (n - i) sc (n - i) _ Try.underlying30 size63 (by simp only [Nat.min_def]; split <;> omega) hdl
      (cells_of hgg2 (by rw [hdl, hin, List.drop_take, ← Nat.sub_mul])) (fun j hj => there_of (n := (n - i) * 7) g2 (by rw [s2, hRs]; omega) j (by rw [hdl] at hj; exact hj)) (fun j _ => blk_frozen g2 _) (fun u hu => h1 u (List.mem_of_mem_drop hu))
  obtain ⟨cur3, g3, s3, l3⟩ := setCells_row (inner.drop (i * 7)) ((i + 1) * 7) W2.drew cur2 g2 (by rw [hdl, s2, hRs]; omega)
  have gr3 := grown_set (inner.drop (i * 7)) ((i + 1) * 7) gr2 (g := N) (.inr (Nat.le_of_eq hN.symm))
  have hrow := row_grow _ inner cp ROW.toList cur2.toList cur3.toList (I := i * 7) (N := n * 7) hil (by omega) hRl (by rw [Array.length_toList, hRs]; omega) hcl l2 (by rw [l3]; simp only [Nat.add_mul, Nat.one_mul])
  have FIN : (W2.drew.setCells N ((i + 1) * 7) (inner.drop (i * 7))).ownsRow base 63 7 (.slice (some ⟨N, 0, none⟩) (n + 1) G) (n + 1) (inner.take (i * 7) ++ cp ++ inner.drop (i * 7)) :=
    ⟨by simp only [List.length_append, List.length_take, hil, hcl, hdl]; omega, .inr ⟨N, G, cur3, rfl, by omega, g3, hG1, hG2, by rw [s3, s2, hRs], by rw [← hrow]; congr 1; omega⟩⟩
  have q1 : ((i : Int) == (n : Int)) = false := beq_eq_false_iff_ne.mpr (by omega)
  have q2 : IntKind.i64.wrap ((n : Int) + 1) = (n : Int) + 1 := by rw [IntKind.wrap_i64]; omega
  have q3 : IntKind.i64.wrap ((i : Int) + 1) = (i : Int) + 1 := by rw [IntKind.wrap_i64]; omega
  have q3b : IntKind.i64.wrap ((n : Int) + 1 - (i : Int)) = (n : Int) + 1 - (i : Int) := by rw [IntKind.wrap_i64]; omega
  have q4 : i ≤ n := by omega
  have q5 : i ≤ c := by omega
  have q6 : (0 : Int) ≤ (n : Int) + 1 := by omega
  have q8 : decide ((n : Int) + 1 > (c : Int)) = true := decide_eq_true (by omega)
  have q8b : decide ((c : Int) < (n : Int) + 1) = true := q8
  have q9 : ¬ (G = i + 1) := by omega
  have q10 : ¬ (G = i) := by omega
  have q10b : ¬ (c = i) := by omega
  have q11 : (0 : Int) ≤ (i : Int) + 1 := by omega
  have q12 : (i : Int) + 1 ≤ (n : Int) + 1 := by omega
  have q13 : (i : Int) ≤ (n : Int) + 1 := by omega
  have q14 : i ≤ G := by omega
  have q15 : i + 1 ≤ G := by omega
  clear hin hcs h1 h2 hg hv hil hdl hcl hrow l2 l3 g2 g3 s2 s3 hgg hgg2 hvv hRl hRs gr2 gr1 g1 hzb hzs hzc hz hvN hgN hG hW2 hW1 hN
  go_enter Try.func43, Try.ntmps43
  go_wp2_with (first
    | ((with_reducible refine gate_builtin (b := .append) (xs := #[.tmp 34, .tmp 39]) rfl ?_); refine append_run _ rfl (.tmp 34) (.tmp 39) 30 3 rfl (.slice (some ⟨g, 0, none⟩) i c) (.int .i64 ((n : Int) + 1 - (i : Int))) rfl rfl (hrz _) ?_)
    | ((with_reducible refine gate_builtin (b := .copy) (xs := #[.tmp 43, .tmp 44]) rfl ?_); refine copy_run _ rfl (.tmp 43) (.tmp 44) 30 30 rfl (.slice (some ⟨N, i * 7, none⟩) (n + 1 - i) (G - i)) (.slice (some ⟨vb, 0, none⟩) 1 1) rfl rfl (hcpA _ _) ?_))
  refine start_ (n := 9) (S := fun _ => True) (ds := []) (mk 9 0) (by kernel_rfl) rfl rfl trivial (fun hHeld => ?_)
  refine with_tabW slices_Insert_Part.tab11 slices_Insert_Part.bits11 (fun HT_ HW_ => ?_)
  refine on_ 0 46 (mk 9 0x1) ?_
  refine on_ 1 47 (mk 9 0x3) ?_
  refine on_ 2 48 (mk 9 0x7) ?_
  refine on_ 3 49 (mk 9 0xF) ?_
  refine on_ 4 50 (mk 9 0x1F) ?_
  refine on_ 5 51 (mk 9 0x3F) ?_
  refine on_ 6 52 (mk 9 0x7F) ?_
  refine on_ 7 53 (mk 9 0xFF) ?_
  refine one_ (i := 8) (N := some 54) (mk 9 0x1FF) rfl rfl (one_of HT_.out (by kernel_rfl)) (by decide) (fun K hK => ?_)
  refine copy_step _ (by rfl) (.tmp 50) (.tmp 53) 30 30 rfl (.slice (some ⟨N, (i + 1) * 7, none⟩) (n - i) (G - (i + 1))) (.slice (some ⟨g, i * 7, none⟩) (n - i) (c - i)) ?e1 ?e2 (hcpB _ _ _) ?_
  case' e1 => rfl
  case' e2 => rfl
  refine hK.out _ _ trivial (fun hHeld => nk_ 54 ?_)
  clear hK K
  refine dn_ ?_
  go_wp2
  go_ret
  exact ⟨_, rfl, FIN, gr3, .inr rfl⟩
set_option maxHeartbeats 8000000 in
set_option maxRecDepth 100000 in
/-- The place is the end. -/
theorem slices_Insert_Part.end_ (base vb n c : Nat) (A : Option Addr) (cp inner : List Value) (w : World) (hbase : base ≤ w.heap.size) (hown : w.ownsRow base 63 7 (.slice A n c) n inner) (hbig : (n + 1) * 72 ≤ 140737488355328) (hv : w.heap[vb]? = some (.cells cp.toArray 63 (0, 0))) (hcl : cp.length = 7) (h2 : ∀ u ∈ cp, u.oneCell' = true) :
    Calls Try.prog 43 #[.slice A n c, .int .i64 n, .slice (some ⟨vb, 0, none⟩) 1 1] w fun e w' => ∃ v1, e = .returned v1 ∧ w'.ownsRow base 63 7 v1 (n + 1) (inner ++ cp) ∧ w.grownBy w' (Value.slice A n c).ownBlock ∧ (v1.ownBlock = (Value.slice A n c).ownBlock ∨ v1.ownBlock = some w.heap.size) := by
  obtain ⟨i0, hi0, he0⟩ := Option.map_eq_some_iff.1 info63
  have hz0 := congrArg (fun q => q.1) he0
  have hzs : i0.size = 7 := congrArg (fun q => q.2.1) he0
  have hzb : i0.bytes = 72 := congrArg (fun q => q.2.2) he0
  have hap : ∀ ty, ∃ v1 w1, (Builtin.append_ #[30, 30] ty #[.slice A n c, .slice (some ⟨vb, 0, none⟩) 1 1]).run Try.prog w = .ok v1 w1 ∧ w1.ownsRow base 63 7 v1 (n + 1) (inner ++ cp) ∧ w.grownBy w1 (Value.slice A n c).ownBlock ∧ (v1.ownBlock = (Value.slice A n c).ownBlock ∨ v1.ownBlock = some w.heap.size) := fun ty => by
    obtain ⟨v1, w1, r1, r2, r3, _, r5⟩ := run_append_own_at (P := Try.prog) w base 30 ty 63 i0 _ 7 72 Try.underlying30 hi0 hz0 hzs hzb rfl (by decide) (.slice A n c) n inner hown ⟨vb, 0, none⟩ 1 1 cp (by omega) (cells_of hv (by rw [List.drop_zero, List.take_of_length_le (by simp)])) h2 (by unfold maxLen; omega) hbig hbase
    exact ⟨v1, w1, r1, r2, r3, r5⟩
  have hf : (A = none ∧ n = 0 ∧ c = 0) ∨ ∃ g, A = some ⟨g, 0, none⟩ ∧ n ≤ c := by
    rcases hown.2 with ⟨h, _⟩ | ⟨g, cap, cur, h, _, _, h3, _⟩
    · injection h with h1 h2 h3
      exact .inl ⟨h1, h2, h3⟩
    · injection h with h1 h2 h4
      exact .inr ⟨g, h1, h4 ▸ h3⟩
  clear hown hbig hv hcl h2 he0 hi0 hz0 hzs hzb hbase
  have q1 : ((n : Int) == (n : Int)) = true := beq_self_eq_true _
  rcases hf with ⟨rfl, rfl, rfl⟩ | ⟨g, rfl, hnc⟩
  · obtain ⟨v1, w1, r1, r2⟩ := hap 30
    clear hap
    go_enter Try.func43, Try.ntmps43
    go_wp2_with (((with_reducible refine gate_builtin (b := .append) (xs := #[.tmp 23, .tmp 24]) rfl ?_); refine append_run _ rfl (.tmp 23) (.tmp 24) 30 30 rfl (.slice none 0 0) (.slice (some ⟨vb, 0, none⟩) 1 1) rfl rfl r1 ?_))
    go_ret
    exact ⟨_, rfl, r2⟩
  · obtain ⟨v1, w1, r1, r2⟩ := hap 30
    clear hap
    go_enter Try.func43, Try.ntmps43
    go_wp2_with (((with_reducible refine gate_builtin (b := .append) (xs := #[.tmp 23, .tmp 24]) rfl ?_); refine append_run _ rfl (.tmp 23) (.tmp 24) 30 30 rfl (.slice (some ⟨g, 0, none⟩) n c) (.slice (some ⟨vb, 0, none⟩) 1 1) rfl rfl r1 ?_))
    all_goals (go_ret; exact ⟨_, rfl, r2⟩)
theorem slices_Insert_Part.own (base vb n c i : Nat) (A : Option Addr) (cp inner : List Value) (w : World) (hbase : base ≤ w.heap.size) (hi : i ≤ n) (hown : w.ownsRow base 63 7 (.slice A n c) n inner) (hbig : (n + 1) * 72 ≤ 140737488355328) (hv : w.heap[vb]? = some (.cells cp.toArray 63 (0, 0))) (hne : some vb ≠ (Value.slice A n c).ownBlock) (hcl : cp.length = 7) (h1 : ∀ u ∈ inner, u.oneCell' = true) (h2 : ∀ u ∈ cp, u.oneCell' = true) :
    Calls Try.prog 43 #[.slice A n c, .int .i64 i, .slice (some ⟨vb, 0, none⟩) 1 1] w fun e w' => ∃ v1, e = .returned v1 ∧ w'.ownsRow base 63 7 v1 (n + 1) (inner.take (i * 7) ++ cp ++ inner.drop (i * 7)) ∧ w.grownBy w' (Value.slice A n c).ownBlock ∧ (v1.ownBlock = (Value.slice A n c).ownBlock ∨ v1.ownBlock = some w.heap.size) := by
  by_cases hin : i < n
  · rcases hown.2 with ⟨_, h⟩ | ⟨g, cap, cur, h, hb, hg, hnc, hcm, hcs, ht⟩
    · omega
    · injection h with e1 _ e3
      subst e1 e3
      by_cases hroom : n + 1 ≤ c
      · have hneg : vb ≠ g := fun e => hne (by rw [e]; rfl)
        have hdl : (inner.drop (i * 7)).length = (n - i) * 7 := by rw [List.length_drop, hown.1]; omega
        obtain ⟨cur1, g1, s1, l1⟩ := setCells_row (inner.drop (i * 7)) ((i + 1) * 7) w.drew cur hg (by rw [hdl, hcs]; omega)
        obtain ⟨cur2, g2, s2, l2⟩ := setCells_row cp (i * 7) _ cur1 g1 (by rw [hcl, s1, hcs]; omega)
        have hrow := row_room cur.toList inner cp cur1.toList cur2.toList (I := i * 7) (N := n * 7) ht.symm (by omega) (by rw [Array.length_toList, hcs]; omega) hcl (by rw [l1]; simp only [Nat.add_mul, Nat.one_mul]) l2
        refine (slices_Insert_Part.room g n c vb i cp inner cur w hin hroom hcm hneg hg hcs ht.symm hv hcl h1 h2).mono ?_
        rintro e w' ⟨rfl, rfl⟩
        exact ⟨_, rfl, ⟨by simp only [List.length_append, List.length_take, hown.1, hcl, hdl]; omega, .inr ⟨g, c, cur2, rfl, hb, g2, hroom, hcm, by rw [s2, s1, hcs], by rw [← hrow]; congr 1; omega⟩⟩, grown_set _ _ (grown_set _ _ (grown_drew ⟨rfl, rfl, rfl, Nat.le_refl _, fun _ _ _ => rfl⟩) (.inl rfl)) (.inl rfl), .inl rfl⟩
      · exact slices_Insert_Part.grow base g n c vb i cp inner cur w hbase hin hnc (by omega) hbig hg hcs ht.symm hv hcl h1 h2
  · obtain rfl : i = n := by omega
    have := slices_Insert_Part.end_ base vb i c A cp inner w hbase hown hbig hv hcl h2
    rw [List.take_of_length_le (Nat.le_of_eq hown.1), List.drop_eq_nil_of_le (Nat.le_of_eq hown.1), List.append_nil]
    exact this
/-- slices.Insert(out, i, p): p's cells lie in the block vb, its own blocks are okp. -/
theorem slices_Insert_Part.calls (base : Nat) (ok okp : Nat → Prop) (A : Option Addr) (vb c i : Nat) (xs : List S63) (p : S63) (cp : List Value) (w0 w : World) (hB : Below base w0 w) (hbase : base ≤ w.heap.size) (hO : Kd.S k63 63 w base ok (.slice A xs.length c) xs) (hi : i ≤ xs.length) (hbig : (xs.length + 1) * 72 ≤ 140737488355328)
    (hv : w.heap[vb]? = some (.cells cp.toArray 63 (0, 0))) (hvb : ¬ ok vb) (hp : k63.M w base okp p cp) (hokp : ∀ k, okp k → ¬ ok k) :
    Calls Try.prog 43 #[.slice A xs.length c, .int .i64 i, .slice (some ⟨vb, 0, none⟩) 1 1] w fun e w' => ∃ v1, e = .returned v1 ∧ Kd.S k63 63 w' base (fun _ => True) v1 (xs.take i ++ p :: xs.drop i) ∧ Below base w0 w' := by
  obtain ⟨okj, inner, h0, hown, hI⟩ := S_open hO
  have hne : some vb ≠ (Value.slice A xs.length c).ownBlock := fun e => hvb (h0 vb e.symm)
  have hbg : ∀ k, (Value.slice A xs.length c).ownBlock = some k → base ≤ k := fun k hk => by
    rcases hown.2 with ⟨h, _⟩ | ⟨g, cap, cur, h, hb, _⟩
    · rw [h] at hk; cases hk
    · rw [h] at hk; cases hk; exact hb
  refine (slices_Insert_Part.own base vb xs.length c i A cp inner w hbase hi hown hbig hv hne (k63.K_len (k63.K_of_M hp)) (Items_one hI) (k63.K_one (k63.K_of_M hp))).mono ?_
  rintro e w' ⟨v1, rfl, ho, hg, hat⟩
  refine ⟨v1, rfl, ?_, pw_below_grown hB _ hbase hg hbg⟩
  have hI' : Items k63 w base (fun k => True ∧ some k ≠ (Value.slice A xs.length c).ownBlock) xs okj inner := ⟨hI.len, hI.apart, fun j k hk => ⟨⟨trivial, (hI.okk j k hk).1.2⟩, (hI.okk j k hk).2⟩, hI.M⟩
  refine S_insert hi (fun _ _ => trivial) hI' hp (fun k hk => ⟨⟨trivial, fun e => hokp k hk (h0 k e.symm)⟩, fun j hj => hokp k hk (hI.okk j k hj).1.1⟩) ho (fun k hlt hk => hg.block k hlt hk) ?_ (fun _ _ => trivial)
  rcases hat with h | h
  · exact .inl h
  · exact .inr ⟨_, h, Nat.le_refl _⟩
def impl_PutPart.fin (k : Nat) (l0 y : List S63) : Option (List S63 × Bool) := (impl_IsStore.f k y).bind fun b => if b = true then some (y, true) else (impl_copyParts.f k l0).bind fun c => some (c, false)
def impl_PutPart.mid (t1 : List S63) (t2 d : Int) (a1_0 : Int) (l1_1 : List Int) (a1_2 : Int) (a1_3 : Int) (a1_4 : Int) : Option (List S63) :=
  if 0 ≤ t2 then (if t2 < (t1.length : Int) then some (put_use t1 t2) else none)
  else (impl_copyResource.f a1_0 l1_1 a1_2 a1_3 a1_4).bind fun q => if t1.length < 1954687338268 then some (t1.take (put_at t1 d) ++ (⟨d, put_res q, 1⟩ : S63) :: t1.drop (put_at t1 d)) else none
def impl_PutPart.f (k : Nat) (l0 : List S63) (a1_0 : Int) (l1_1 : List Int) (a1_2 : Int) (a1_3 : Int) (a1_4 : Int) : Option (List S63 × Bool) :=
  (impl_copyParts.f k l0).bind fun t1 => (impl_IsStore.f k l0).bind fun b => if b = true then (impl_DigestOf.f k a1_0 l1_1 a1_2 a1_3 a1_4).bind fun d => (impl_partAt.f k t1 d).bind fun t2 => (impl_PutPart.mid t1 t2 d a1_0 l1_1 a1_2 a1_3 a1_4).bind fun y => impl_PutPart.fin k l0 y else some (t1, false)
set_option maxHeartbeats 8000000 in
set_option maxRecDepth 100000 in
theorem impl_PutPart.calls (k : Nat) (A0 : Option Addr) (c0 : Nat) (l0 : List (S63)) (a1_0 : Int) (A1_1 : Option Addr) (c1_1 : Nat) (l1_1 : List Int) (a1_2 : Int) (a1_3 : Int) (a1_4 : Int) (r1 : List (S63)) (r2 : Bool) (w : World) (hr0 : Kd.C k63 w A0 l0.length l0) (hc0 : l0.length ≤ c0) (hr1_1 : Kd.C (Kd.int .i64) w A1_1 l1_1.length l1_1) (hc1_1 : l1_1.length ≤ c1_1) (h : impl_PutPart.f k l0 a1_0 l1_1 a1_2 a1_3 a1_4 = some (r1, r2)) :
    Calls Try.prog 11 #[.slice A0 l0.length c0, .agg #[.int .i64 a1_0, .slice A1_1 l1_1.length c1_1, .int .i64 a1_2, .int .i64 a1_3, .int .i64 a1_4]] w fun e w' => ∃ v0_ : Value, e = .returned (.tuple #[v0_, .bool r2]) ∧ Kd.S k63 63 w' w.heap.size (fun _ => True) v0_ r1 ∧ Below w.heap.size w w' := by
  have hu36 := Try.underlying36
  have hu63 := Try.underlying63
  have HR0 := Aside0.mk hr0
  have HC0 := Aside0.mk hc0
  have HR1 := Aside0.mk hr1_1
  have HC1 := Aside0.mk hc1_1
  clear hr0 hc0 hr1_1 hc1_1
  have HB := Aside0.mk (Below.refl w.heap.size w)
  obtain ⟨t1, A3, H⟩ := Option.bind_eq_some_iff.mp h
  obtain ⟨t9, A9, H⟩ := Option.bind_eq_some_iff.mp H
  clear h
  replace A3 := Aside0.mk A3
  replace A9 := Aside0.mk A9
  by_cases c6 : t9 = true
  · subst c6
    rw [if_pos rfl] at H
    obtain ⟨d, AD, H⟩ := Option.bind_eq_some_iff.mp H
    obtain ⟨t2, AT, H⟩ := Option.bind_eq_some_iff.mp H
    obtain ⟨y, AM, H⟩ := Option.bind_eq_some_iff.mp H
    replace AD := Aside0.mk AD
    replace AT := Aside0.mk AT
    have HF := Aside0.mk H
    replace AM := Aside0.mk AM
    clear H
    go_enter Try.func11, Try.ntmps11
    go_upto_region 4 with (first | ((with_reducible refine gate_dst (N := 3) rfl ?_); refine box_event ?hg (N := 3) ?hd (cs := #[.int .i64 a1_0, .slice A1_1 l1_1.length c1_1, .int .i64 a1_2, .int .i64 a1_3, .int .i64 a1_4]) (t := 36) ?hr ?_; (case hd => rfl); (case hg => rfl); (case hr => first | (go_simp; done) | (go_simp; rfl)); intro gb hg_ w4 hbox hb; have n0_ := Aside0.mk (below_step HB.out hb); have gbK := Aside0.mk hbox; clear HB hbox hg_ hb; have HB := n0_; clear n0_) | ((with_reducible refine gate_callee (f := 41) rfl ?_); refine goesL_ (some 11) rfl rfl Try.func41 (by kernel_rfl) rfl #[.slice A0 l0.length c0] rfl (by (try simp only [List.map_toArray, List.map_cons, List.map_nil]); first | done | rfl) ?_; refine (impl_copyParts.calls k _ _ l0 t1 _ (Kd.C_below HR0.out HB.out) HC0.out A3.out).mono ?_; rintro e w6 ⟨v1, rfl, ho0, hb⟩; refine ⟨_, rfl, ?_⟩; have HO := Aside0.mk (Kd.S_lower ho0 (below_size HB.out)); have n1_ := Aside0.mk (below_step HB.out hb); have n2_ := Aside0.mk (blk_below gbK.out hb); clear HB gbK ho0 hb; have HB := n1_; have gbK := n2_; clear n1_ n2_; obtain ⟨Ao, co, eo⟩ := Kd.S_slice HO.out; subst eo) | ((with_reducible refine gate_callee (f := 25) rfl ?_); refine goesL_ (some 13) rfl rfl Try.func25 (by kernel_rfl) rfl #[.slice A0 l0.length c0] rfl (by (try simp only [List.map_toArray, List.map_cons, List.map_nil]); first | done | rfl) ?_; refine (impl_IsStore.calls k _ _ l0 _ _ (Kd.C_below HR0.out HB.out) HC0.out A9.out).mono ?_; rintro e w7 ⟨rfl, hb⟩; refine ⟨_, rfl, ?_⟩; have n0_ := Aside0.mk (Kd.S_below HO.out hb); have n1_ := Aside0.mk (below_step HB.out hb); have n2_ := Aside0.mk (blk_below gbK.out hb); clear HO HB gbK hb; have HO := n0_; have HB := n1_; have gbK := n2_; clear n0_ n1_ n2_))
    have hz := box5z gbK.out
    go_upto_if 22 with (first | ((with_reducible refine gate_callee (f := 20) rfl ?_); refine goesL_ (some 17) rfl rfl Try.func20 (by kernel_rfl) rfl #[.agg #[.int .i64 a1_0, .slice A1_1 l1_1.length c1_1, .int .i64 a1_2, .int .i64 a1_3, .int .i64 a1_4]] rfl (by (try simp only [List.map_toArray, List.map_cons, List.map_nil]); first | done | rfl) ?_; refine (impl_DigestOf.calls k a1_0 _ _ l1_1 a1_2 a1_3 a1_4 d _ (Kd.C_below HR1.out HB.out) HC1.out AD.out).mono ?_; rintro e w7 ⟨rfl, hb⟩; refine ⟨_, rfl, ?_⟩; have n0_ := Aside0.mk (Kd.S_below HO.out hb); have n1_ := Aside0.mk (below_step HB.out hb); have n2_ := Aside0.mk (blk_below gbK.out hb); clear HO HB gbK hb; have HO := n0_; have HB := n1_; have gbK := n2_; clear n0_ n1_ n2_) | ((with_reducible refine gate_callee (f := 42) rfl ?_); refine goesL_ (some 20) rfl rfl Try.func42 (by kernel_rfl) rfl #[.slice Ao t1.length co, .int .i64 d] rfl (by (try simp only [List.map_toArray, List.map_cons, List.map_nil]); first | done | rfl) ?_; refine (impl_partAt.calls k _ _ t1 d t2 _ (Kd.S_reads' HO.out).2.2 (Kd.S_reads' HO.out).2.1 AT.out).mono ?_; rintro e w8 ⟨rfl, hb⟩; refine ⟨_, rfl, ?_⟩; have n0_ := Aside0.mk (Kd.S_below HO.out hb); have n1_ := Aside0.mk (below_step HB.out hb); have n2_ := Aside0.mk (blk_below gbK.out hb); clear HO HB gbK hb; have HO := n0_; have HB := n1_; have gbK := n2_; clear n0_ n1_ n2_))
    clear hz
    go_cut [6] (fun v6 wc => ∃ y : List S63, Aside0 (impl_PutPart.fin k l0 y = some (r1, r2)) ∧ Aside0 (Kd.S k63 63 wc w.heap.size (fun _ => True) v6 y) ∧ Aside0 (Below w.heap.size w wc))
    case first =>
      have HM := AM.out
      clear AM
      unfold impl_PutPart.mid at HM
      by_cases c14 : 0 ≤ t2
      · rw [if_pos c14] at HM
        obtain ⟨i, rfl⟩ := Int.eq_ofNat_of_zero_le c14
        by_cases c15 : (i : Int) < (t1.length : Int)
        · rw [if_pos c15] at HM
          have hin : i < t1.length := by omega
          have hmax := (Kd.S_reads' HO.out).2.2.2.1
          obtain ⟨g, cg, eg, GB, _, _⟩ := Kd.S_form HO.out (by omega)
          injection eg with ea _ ec
          subst ea ec
          obtain ⟨ad, A2, c2, e2, hx0, hx1, hx2, hx3, hx4, hx5, hx6, hl2, hi2⟩ := at_T63 (Kd.S_reads' HO.out).2.2 (i : Int) c14 c15
          injection e2 with e2
          subst e2
          simp only [add_plain] at hx6
          have E1 := Aside0.mk (Option.some.inj HM)
          clear HM
          obtain ⟨⟨dx, ⟨kd, bd, ⟨ho, pa, qu⟩⟩, us⟩, hx⟩ : ∃ x, rd_T63 t1 (i : Int) = x := ⟨_, rfl⟩
          simp only [hx] at hx6
          have p14 := eq_true c14
          have p15 := eq_true c15
          have hx6' : w8.cell? ⟨g, i * 7 + 6, none⟩ = some (.int .i64 us) := hx6
          clear hx0 hx1 hx2 hx3 hx4 hx5 hl2 hi2
          have HX := Aside0.mk (show Kd.S k63 63 w8 w.heap.size (fun k_ => True ∧ ¬ False) (.slice (some ⟨g, 0, none⟩) t1.length co) t1 from Kd.S_mono HO.out (fun k_ hk => ⟨trivial, fun e_ => e_⟩))
          obtain ⟨oki, ce, hcl, hM, hcc, hfr, hoki, hH⟩ := Kd.S_elem HX.out z63 (i : Int) c14 c15
          rw [show t1.getD (i : Int).toNat z63 = _ from hx] at hM
          obtain ⟨ve, rfl, ge⟩ := k63_openM hM
          have HP := Aside0.mk (Kd.S_seg (ok := fun _ => True) (okg := fun _ => False) hH c14 c15 (seg := [.int .i64 (wrap64 (us + 1))]) (j := 6) (show 7 ≤ 7 from by decide) (x' := (⟨dx, (⟨kd, bd, (⟨ho, pa, qu⟩ : S34)⟩ : S36), wrap64 (us + 1)⟩ : S63)) (k63_mkM _ _ _ (⟨dx, (⟨kd, bd, (⟨ho, pa, qu⟩ : S34)⟩ : S36), wrap64 (us + 1)⟩ : S63) (Kd.R_mono ge (fun _ h_ => Or.inl h_))) (fun _ hk => hk) (fun k_ hk_ => hk_.elim))
          have hf6 : w8.frozen? ⟨g, i * 7 + 6, none⟩ = false := hfr 6
          have ey : t1.set i (⟨dx, (⟨kd, bd, (⟨ho, pa, qu⟩ : S34)⟩ : S36), wrap64 (us + 1)⟩ : S63) = y := by rw [← E1.out]; unfold put_use; rw [hx]; rfl
          have EY := Aside0.mk ey
          clear hcl hcc hfr hM hoki hH HX ge ey hx E1
          go_wp2_with (first | ((with_reducible refine gate_store (t := 3) (p := 30) rfl ?_); refine store_event (t := 3) (p := 30) (v := ?vo) (w1 := (w8.setCell ⟨g, i * 7 + 6, none⟩ (.int .i64 (wrap64 (us + 1))))) ?hg ?ho ?hn ?hr ?_; (case ho => rfl); (case hg => rfl); (case hn => rfl); (case hr => first | (go_simp; done) | (go_simp; rfl)); intro w28 hw; have n0_ := Aside0.mk (show Kd.S k63 63 w28 w.heap.size (fun _ => True) (.slice (some ⟨g, 0, none⟩) t1.length co) (t1.set i (⟨dx, (⟨kd, bd, (⟨ho, pa, qu⟩ : S34)⟩ : S36), wrap64 (us + 1)⟩ : S63)) from hw ▸ HP.out.1); have n1_ := Aside0.mk (show Below w.heap.size w w28 from hw ▸ below_set HB.out GB); clear HO HB hw; have HO := n0_; have HB := n1_; clear n0_ n1_))
          go_meet
          case rel => exact ⟨y, HF, ⟨EY.out ▸ HO.out⟩, HB⟩
        · rw [if_neg c15] at HM
          exact absurd HM (by simp)
      · rw [if_neg c14] at HM
        obtain ⟨⟨q0, q1, q2, q3, q4⟩, AQ, HM⟩ := Option.bind_eq_some_iff.mp HM
        replace AQ := Aside0.mk AQ
        by_cases c15 : t1.length < 1954687338268
        · rw [if_pos c15] at HM
          have E1 := Aside0.mk (Option.some.inj HM)
          have HL := Aside0.mk (show (t1.length + 1) * 72 ≤ 140737488355328 by omega)
          have c14c : decide (0 ≤ t2) = false := decide_eq_false c14
          rw [c14c]
          clear HM c15 c14c c14
          iterate 10 go_step
          go_cut [9] (fun v9 wc => v9 = .int .i64 ((put_at t1 d : Nat) : Int) ∧ Aside0 (Kd.S k63 63 wc w.heap.size (fun _ => True) (.slice Ao t1.length co) t1) ∧ Aside0 (Below w.heap.size w wc) ∧ Aside0 (wc.heap[gb]? = some (.cells #[.int .i64 a1_0, .slice A1_1 l1_1.length c1_1, .int .i64 a1_2, .int .i64 a1_3, .int .i64 a1_4] 36 (0, 0))))
          case first =>
            go_wp2
            go_loopg [9] (t1.length + 1) (fun kq v9 w' => ∃ i : Nat, v9 = .int .i64 (i : Int) ∧ Aside0 (i ≤ t1.length ∧ t1.length + 1 ≤ i + kq ∧ put_at t1 d = i + put_at (t1.drop i) d) ∧ Aside0 (Kd.S k63 63 w' w.heap.size (fun _ => True) (.slice Ao t1.length co) t1) ∧ Aside0 (Below w.heap.size w w') ∧ Aside0 (w'.heap[gb]? = some (.cells #[.int .i64 a1_0, .slice A1_1 l1_1.length c1_1, .int .i64 a1_2, .int .i64 a1_3, .int .i64 a1_4] 36 (0, 0))))
            case atStart => exact ⟨0, rfl, ⟨Nat.zero_le _, by omega, by rw [Nat.zero_add]; rfl⟩, HO, HB, gbK⟩
            case round =>
              clear HO HB gbK
              try clear p2
              obtain ⟨i, rfl, HI, HO, HB, gbK⟩ := hrel
              obtain ⟨k2, rfl⟩ : ∃ k2, gk = k2 + 1 := ⟨gk - 1, by have := HI.out; omega⟩
              have hlen := (Kd.S_reads' HO.out).2.2.2.1
              by_cases c3 : i < t1.length
              · have c3b : decide ((i : Int) < (t1.length : Int)) = true := decide_eq_true (by omega)
                obtain ⟨ad, A2, c2, e2, hx0, hx1, hx2, hx3, hx4, hx5, hx6, hl2, hi2⟩ := at_T63 (Kd.S_reads' HO.out).2.2 (i : Int) (by omega) (by omega)
                cases e2
                replace hx0 : wr.cell? (ad.add (i * 7)) = some (.int .i64 (rd_T63 t1 (i : Int)).f0) := hx0
                clear hx1 hx2 hx3 hx4 hx5 hx6 hl2 hi2
                by_cases c4 : (rd_T63 t1 (i : Int)).f0 < d
                · have nI := Aside0.mk (put_at_step c3 c4 HI.out.2.2)
                  generalize (rd_T63 t1 (i : Int)).f0 = dx at hx0 c4
                  have c4b : decide (dx < d) = true := decide_eq_true c4
                  have hwi : IntKind.i64.wrap ((i : Int) + 1) = ((i + 1 : Nat) : Int) := by rw [i64_w]; unfold wrap64; omega
                  go_wp2
                  go_roundg k2
                  case measure => have := HI.out; omega
                  case rel => exact ⟨i + 1, by first | rfl | (simp; done), ⟨by omega, by have := HI.out; omega, nI.out⟩, HO, HB, gbK⟩
                · have nI := Aside0.mk (put_at_stop c3 c4 HI.out.2.2)
                  generalize (rd_T63 t1 (i : Int)).f0 = dx at hx0 c4
                  have c4b : decide (dx < d) = false := decide_eq_false c4
                  go_wp2
                  go_meet
                  case rel => exact ⟨by rw [nI.out], HO, HB, gbK⟩
              · have c3b : decide ((i : Int) < (t1.length : Int)) = false := decide_eq_false (by omega)
                have nI := Aside0.mk (put_at_end c3 HI.out.2.2)
                go_wp2
                go_meet
                case rel => exact ⟨by rw [nI.out], HO, HB, gbK⟩
          case rest =>
            clear HO HB gbK
            try clear p2
            obtain ⟨rfl, HO, HB, gbK⟩ := hcut
            have HP := Aside0.mk (put_at_le t1 d)
            generalize put_at t1 d = p at HP E1
            have hz := box5z gbK.out
            go_wp2_with (first | ((with_reducible refine gate_callee (f := 44) rfl ?_); refine goesL_ (some 50) rfl rfl Try.func44 (by kernel_rfl) rfl #[.agg #[.int .i64 a1_0, .slice A1_1 l1_1.length c1_1, .int .i64 a1_2, .int .i64 a1_3, .int .i64 a1_4]] rfl (by (try simp only [List.map_toArray, List.map_cons, List.map_nil]); first | done | rfl) ?_; refine (impl_copyResource.calls a1_0 _ _ l1_1 a1_2 a1_3 a1_4 q0 q1 q2 q3 q4 _ (Kd.C_below HR1.out HB.out) HC1.out AQ.out).mono ?_; rintro e w9 ⟨v5, rfl, ho5, hb5⟩; refine ⟨_, rfl, ?_⟩; obtain ⟨A5, c5, e5⟩ := Kd.R_slice ho5; subst e5; have HQ5 := Aside0.mk ho5; have HB5 := Aside0.mk hb5; clear ho5 hb5))
            have MD := MadeB.callbox HB.out HO.out HQ5.out HB5.out rfl (heap_alloc_new w9 (.cells #[.int .i64 d, .int .i64 q0, .slice A5 q1.length c5, .int .i64 q2, .int .i64 q3, .int .i64 q4, .int .i64 1] 63)) (below_alloc (Below.refl _ _) _)
            refine (slices_Insert_Part.calls w.heap.size (fun k_ => k_ ≠ w9.heap.size ∧ ¬ some k_ = (Value.slice A5 q1.length c5).ownBlock) (fun k_ => some k_ = (Value.slice A5 q1.length c5).ownBlock) Ao w9.heap.size co p t1 (⟨d, (⟨q0, q1, (⟨q2, q3, q4⟩ : S34)⟩ : S36), 1⟩ : S63) [.int .i64 d, .int .i64 q0, .slice A5 q1.length c5, .int .i64 q2, .int .i64 q3, .int .i64 q4, .int .i64 1] w _ MD.pack.2.2.2.2.1 MD.pack.2.2.2.2.2 MD.pack.2.2.2.1 HP.out HL.out MD.2.2.1 (fun h_ => h_.1 rfl) (k63_mkM _ _ _ (⟨d, (⟨q0, q1, (⟨q2, q3, q4⟩ : S34)⟩ : S36), 1⟩ : S63) MD.pack.1) (fun k_ hk_ h_ => h_.2 hk_)).mono ?_
            rintro e w10 ⟨v1, rfl, ho, hb⟩
            clear HO HB MD
            have HO := Aside0.mk ho
            have HB := Aside0.mk hb
            clear ho hb
            go_wp2
            go_meet
            case rel => exact ⟨y, HF, ⟨E1.out ▸ HO.out⟩, HB⟩
        · rw [if_neg c15] at HM
          exact absurd HM (by simp)
    case rest =>
      clear HF AM HO HB gbK
      try clear p2
      obtain ⟨y, HF, HO, HB⟩ := hcut
      obtain ⟨Ay, cy, ey⟩ := Kd.S_slice HO.out
      subst ey
      obtain ⟨b, AB, H⟩ := Option.bind_eq_some_iff.mp HF.out
      clear HF
      replace AB := Aside0.mk AB
      by_cases c7 : b = true
      · subst c7
        rw [if_pos rfl] at H
        simp only [Option.some.injEq, Prod.mk.injEq] at H
        obtain ⟨rfl, rfl⟩ := H
        go_wp2_with (first | ((with_reducible refine gate_callee (f := 25) rfl ?_); refine goesL_ (some 55) rfl rfl Try.func25 (by kernel_rfl) rfl #[.slice Ay y.length cy] rfl (by (try simp only [List.map_toArray, List.map_cons, List.map_nil]); first | done | rfl) ?_; refine (impl_IsStore.calls k _ _ y _ _ (Kd.S_reads' HO.out).2.2 (Kd.S_reads' HO.out).2.1 AB.out).mono ?_; rintro e w11 ⟨rfl, hb⟩; refine ⟨_, rfl, ?_⟩; have n0_ := Aside0.mk (Kd.S_below HO.out hb); have n1_ := Aside0.mk (below_step HB.out hb); clear HO HB hb; have HO := n0_; have HB := n1_; clear n0_ n1_))
        go_ret2
        exact ⟨_, (by first | rfl | (simp [errW_none, errW_some] <;> rfl) | (simp [*, errW_none, errW_some] <;> rfl)), HO.out, (by repeat (first | (with_reducible first | exact HB.out | apply below_alloc | apply pw_below_drewN | apply below_drew1) | exact HB.out))⟩
      · replace c7 := Bool.eq_false_iff.mpr c7
        subst c7
        rw [if_neg (show ¬ (false = true) by decide)] at H
        obtain ⟨z1, AZ, H⟩ := Option.bind_eq_some_iff.mp H
        replace AZ := Aside0.mk AZ
        simp only [Option.some.injEq, Prod.mk.injEq] at H
        obtain ⟨rfl, rfl⟩ := H
        go_wp2_with (first | ((with_reducible refine gate_callee (f := 25) rfl ?_); refine goesL_ (some 55) rfl rfl Try.func25 (by kernel_rfl) rfl #[.slice Ay y.length cy] rfl (by (try simp only [List.map_toArray, List.map_cons, List.map_nil]); first | done | rfl) ?_; refine (impl_IsStore.calls k _ _ y _ _ (Kd.S_reads' HO.out).2.2 (Kd.S_reads' HO.out).2.1 AB.out).mono ?_; rintro e w11 ⟨rfl, hb⟩; refine ⟨_, rfl, ?_⟩; have n0_ := Aside0.mk (Kd.S_below HO.out hb); have n1_ := Aside0.mk (below_step HB.out hb); clear HO HB hb; have HO := n0_; have HB := n1_; clear n0_ n1_) | ((with_reducible refine gate_callee (f := 41) rfl ?_); refine goesL_ (some 58) rfl rfl Try.func41 (by kernel_rfl) rfl #[.slice A0 l0.length c0] rfl (by (try simp only [List.map_toArray, List.map_cons, List.map_nil]); first | done | rfl) ?_; refine (impl_copyParts.calls k _ _ l0 z1 _ (Kd.C_below HR0.out HB.out) HC0.out AZ.out).mono ?_; rintro e w12 ⟨v1, rfl, ho0, hb⟩; refine ⟨_, rfl, ?_⟩; clear HO; have HO := Aside0.mk (Kd.S_lower ho0 (below_size HB.out)); have n1_ := Aside0.mk (below_step HB.out hb); clear HB ho0 hb; have HB := n1_; clear n1_))
        go_ret2
        exact ⟨_, (by first | rfl | (simp [errW_none, errW_some] <;> rfl) | (simp [*, errW_none, errW_some] <;> rfl)), HO.out, (by repeat (first | (with_reducible first | exact HB.out | apply below_alloc | apply pw_below_drewN | apply below_drew1) | exact HB.out))⟩
  · replace c6 := Bool.eq_false_iff.mpr c6
    subst c6
    rw [if_neg (show ¬ (false = true) by decide)] at H
    simp only [Option.some.injEq, Prod.mk.injEq] at H
    obtain ⟨rfl, rfl⟩ := H
    go_enter Try.func11, Try.ntmps11
    go_wp2_with (first | ((with_reducible refine gate_dst (N := 3) rfl ?_); refine box_event ?hg (N := 3) ?hd (cs := #[.int .i64 a1_0, .slice A1_1 l1_1.length c1_1, .int .i64 a1_2, .int .i64 a1_3, .int .i64 a1_4]) (t := 36) ?hr ?_; (case hd => rfl); (case hg => rfl); (case hr => first | (go_simp; done) | (go_simp; rfl)); intro gb hg_ w4 hbox hb; have n0_ := Aside0.mk (below_step HB.out hb); have gbK := Aside0.mk hbox; clear HB hbox hg_ hb; have HB := n0_; clear n0_) | ((with_reducible refine gate_callee (f := 41) rfl ?_); refine goesL_ (some 11) rfl rfl Try.func41 (by kernel_rfl) rfl #[.slice A0 l0.length c0] rfl (by (try simp only [List.map_toArray, List.map_cons, List.map_nil]); first | done | rfl) ?_; refine (impl_copyParts.calls k _ _ l0 t1 _ (Kd.C_below HR0.out HB.out) HC0.out A3.out).mono ?_; rintro e w6 ⟨v1, rfl, ho0, hb⟩; refine ⟨_, rfl, ?_⟩; have HO := Aside0.mk (Kd.S_lower ho0 (below_size HB.out)); have n1_ := Aside0.mk (below_step HB.out hb); have n2_ := Aside0.mk (blk_below gbK.out hb); clear HB gbK ho0 hb; have HB := n1_; have gbK := n2_; clear n1_ n2_; obtain ⟨Ao, co, eo⟩ := Kd.S_slice HO.out; subst eo) | ((with_reducible refine gate_callee (f := 25) rfl ?_); refine goesL_ (some 13) rfl rfl Try.func25 (by kernel_rfl) rfl #[.slice A0 l0.length c0] rfl (by (try simp only [List.map_toArray, List.map_cons, List.map_nil]); first | done | rfl) ?_; refine (impl_IsStore.calls k _ _ l0 _ _ (Kd.C_below HR0.out HB.out) HC0.out A9.out).mono ?_; rintro e w7 ⟨rfl, hb⟩; refine ⟨_, rfl, ?_⟩; have n0_ := Aside0.mk (Kd.S_below HO.out hb); have n1_ := Aside0.mk (below_step HB.out hb); have n2_ := Aside0.mk (blk_below gbK.out hb); clear HO HB gbK hb; have HO := n0_; have HB := n1_; have gbK := n2_; clear n0_ n1_ n2_))
    go_ret2
    exact ⟨_, (by first | rfl | (simp [errW_none, errW_some] <;> rfl) | (simp [*, errW_none, errW_some] <;> rfl)), HO.out, (by repeat (first | (with_reducible first | exact HB.out | apply below_alloc | apply pw_below_drewN | apply below_drew1) | exact HB.out))⟩

/-! ### laws_big: function 17 -/
def laws_big.f (l0 : List Int) : Option (Bool) := some (decide ((l0.length : Int) > 1048576))
set_option maxHeartbeats 8000000 in
set_option maxRecDepth 100000 in
theorem laws_big.calls (A0 : Option Addr) (c0 : Nat) (l0 : List Int) (r : Bool) (w : World) (hr0 : Kd.C (Kd.int .u8) w A0 l0.length l0) (hc0 : l0.length ≤ c0) (h : laws_big.f l0 = some r) :
    Calls Try.prog 17 #[.slice A0 l0.length c0] w fun e w' => e = .returned (.bool r) ∧ Drawn0 w w' := by
  have HR0 := Aside0.mk hr0
  have HC0 := Aside0.mk hc0
  clear hr0 hc0
  have H : (some (decide ((l0.length : Int) > 1048576))) = some r := h
  clear h
  obtain rfl := Option.some.inj H
  go_enter Try.func17, Try.ntmps17
  go_wp2
  go_ret
  exact ⟨by first | rfl | (simp; done) | (simp [*]; done), by repeat (first | exact Drawn0.refl _ | apply Drawn0.step)⟩

/-- A state of type 88 at block g of W; what its slices lead to came in by w0. -/
def IsS88 (w0 W : World) (g : Nat) (f0 : List Int) (f1 : Int) (f2 : Int) : Prop := ∃ A0 c0, W.heap[g]? = some (.cells #[.slice A0 f0.length c0, .int .i64 f1, .int .i64 f2] 88 (0, 0)) ∧ w0.heap.size ≤ g ∧ Kd.C (Kd.int .u8) w0 A0 f0.length f0
theorem IsS88.grown {w0 W : World} {g : Nat} {f0 : List Int} {f1 : Int} {f2 : Int} {W1 : World} {row : Option Nat} (h : IsS88 w0 W g f0 f1 f2) (hw : W.grownBy W1 row) (hne : some g ≠ row) : IsS88 w0 W1 g f0 f1 f2 := by
  obtain ⟨A0, c0, hb, hg, hr0⟩ := h
  exact ⟨A0, c0, blk_grown hb hw hne, hg, hr0⟩
theorem IsS88.own_neN {w0 W : World} {g : Nat} {f0 : List Int} {f1 : Int} {f2 : Int} {α : Type} {d : Kd α} {e : Nat} {base : Nat} {ok : Nat → Prop} {v : Value} {xs : List α} (h : IsS88 w0 W g f0 f1 f2) (ho : Kd.N d e W base ok v xs) (ht : e ≠ 88) : some g ≠ v.ownBlock := by
  obtain ⟨A0, c0, hb, hg, hr0⟩ := h
  exact Kd.N_ne ho hb ht
theorem IsS88.fresh {w0 W : World} {g : Nat} {f0 : List Int} {f1 : Int} {f2 : Int} (h : IsS88 w0 W g f0 f1 f2) : ∀ k, W.heap.size ≤ k → k ≠ g := by
  obtain ⟨A0, c0, hb, hg, hr0⟩ := h
  exact Kd.freshB hb
theorem IsS88.kept {w0 W : World} {g : Nat} {f0 : List Int} {f1 : Int} {f2 : Int} {W1 : World} {S : Nat → Prop} (h : IsS88 w0 W g f0 f1 f2) (hk : Kept W W1 S) (hne : ¬ S g) : IsS88 w0 W1 g f0 f1 f2 := by
  obtain ⟨A0, c0, hb, hg, hr0⟩ := h
  exact ⟨A0, c0, blk_kept hb hk hne, hg, hr0⟩
theorem IsS88.below {w0 W : World} {g : Nat} {f0 : List Int} {f1 : Int} {f2 : Int} {W1 : World} (h : IsS88 w0 W g f0 f1 f2) (hw : Below W.heap.size W W1) : IsS88 w0 W1 g f0 f1 f2 := h.grown (grown_of_below hw none) (by simp)
theorem IsS88.alloc {w0 W : World} {g : Nat} {f0 : List Int} {f1 : Int} {f2 : Int} (h : IsS88 w0 W g f0 f1 f2) (o : Obj) : IsS88 w0 (W.alloc o) g f0 f1 f2 := h.below (below_alloc (Below.refl _ _) o)
theorem IsS88.drewN {w0 W : World} {g : Nat} {f0 : List Int} {f1 : Int} {f2 : Int} (h : IsS88 w0 W g f0 f1 f2) (m : Nat) : IsS88 w0 (W.drewN m) g f0 f1 f2 := h
theorem IsS88.drew {w0 W : World} {g : Nat} {f0 : List Int} {f1 : Int} {f2 : Int} (h : IsS88 w0 W g f0 f1 f2) : IsS88 w0 W.drew g f0 f1 f2 := h
theorem IsS88.at_ {w0 W : World} {g : Nat} {f0 : List Int} {f1 : Int} {f2 : Int} {w' : World} {m : Nat} (hq : W.drewN m = w') (h : IsS88 w0 W g f0 f1 f2) : IsS88 w0 w' g f0 f1 f2 := by subst hq; exact IsS88.drewN h m
theorem IsS88.apart {w0 W : World} {g : Nat} {f0 : List Int} {f1 : Int} {f2 : Int} {α : Type} {d : Kd α} {e : Nat} {base : Nat} {ok : Nat → Prop} {v : Value} {xs : List α} (h : IsS88 w0 W g f0 f1 f2) (ho : d.R e W base ok v xs) (ht : ∀ q, q ∈ e :: d.E → q ≠ 88) : d.R e W base (fun k => ok k ∧ k ≠ g) v xs := by
  obtain ⟨A0, c0, hb, hg, hr0⟩ := h
  exact Kd.R_types ho hb ht
theorem IsS88.own_ne {w0 W : World} {g : Nat} {f0 : List Int} {f1 : Int} {f2 : Int} {α : Type} {d : Kd α} {e : Nat} {base : Nat} {ok : Nat → Prop} {v : Value} {xs : List α} (h : IsS88 w0 W g f0 f1 f2) (ho : d.R e W base ok v xs) (ht : e ≠ 88) : some g ≠ v.ownBlock := by
  obtain ⟨A0, c0, hb, hg, hr0⟩ := h
  exact Kd.R_ne ho hb ht
theorem IsS88.apartQ {w0 W : World} {g : Nat} {f0 : List Int} {f1 : Int} {f2 : Int} {α : Type} {d : Kd α} {e : Nat} {base : Nat} {ok : Nat → Prop} {v : Value} {xs : List α} (h : IsS88 w0 W g f0 f1 f2) (ho : d.Q e W base ok v xs) (ht : ∀ q, q ∈ e :: d.E → q ≠ 88) : d.Q e W base (fun k => ok k ∧ k ≠ g) v xs := by
  obtain ⟨A0, c0, hb, hg, hr0⟩ := h
  exact Kd.Q_types ho hb ht
theorem IsS88.own_neQ {w0 W : World} {g : Nat} {f0 : List Int} {f1 : Int} {f2 : Int} {α : Type} {d : Kd α} {e : Nat} {base : Nat} {ok : Nat → Prop} {v : Value} {xs : List α} (h : IsS88 w0 W g f0 f1 f2) (ho : d.Q e W base ok v xs) (ht : e ≠ 88) : some g ≠ v.ownBlock := by
  obtain ⟨A0, c0, hb, hg, hr0⟩ := h
  exact Kd.Q_ne ho hb ht
theorem IsS88.apartS {w0 W : World} {g : Nat} {f0 : List Int} {f1 : Int} {f2 : Int} {α : Type} {d : Kd α} {e : Nat} {base : Nat} {ok : Nat → Prop} {v : Value} {xs : List α} (h : IsS88 w0 W g f0 f1 f2) (ho : d.S e W base ok v xs) (ht : ∀ q, q ∈ e :: d.E → q ≠ 88) : d.S e W base (fun k => ok k ∧ k ≠ g) v xs := by
  obtain ⟨A0, c0, hb, hg, hr0⟩ := h
  exact Kd.S_types ho hb ht
theorem IsS88.own_neS {w0 W : World} {g : Nat} {f0 : List Int} {f1 : Int} {f2 : Int} {α : Type} {d : Kd α} {e : Nat} {base : Nat} {ok : Nat → Prop} {v : Value} {xs : List α} (h : IsS88 w0 W g f0 f1 f2) (ho : d.S e W base ok v xs) (ht : e ≠ 88) : some g ≠ v.ownBlock := by
  obtain ⟨A0, c0, hb, hg, hr0⟩ := h
  exact Kd.S_ne ho hb ht
theorem IsS88.lt {w0 W : World} {g : Nat} {f0 : List Int} {f1 : Int} {f2 : Int} (h : IsS88 w0 W g f0 f1 f2) : g < W.heap.size := by
  obtain ⟨A0, c0, hb, hg, hr0⟩ := h
  exact blk_lt hb
theorem IsS88.ge {w0 W : World} {g : Nat} {f0 : List Int} {f1 : Int} {f2 : Int} (h : IsS88 w0 W g f0 f1 f2) : w0.heap.size ≤ g := by
  obtain ⟨A0, c0, hb, hg, hr0⟩ := h
  exact hg
theorem IsS88.ne_blk {w0 W : World} {g : Nat} {f0 : List Int} {f1 : Int} {f2 : Int} {a : Nat} {cs : Array Value} {t : TypeId} {fr : Nat × Nat} (h : IsS88 w0 W g f0 f1 f2) (hb2 : W.heap[a]? = some (.cells cs t fr)) (ht : t ≠ 88) : g ≠ a := by
  obtain ⟨A0, c0, hb, hg, hr0⟩ := h
  rintro rfl
  rw [hb] at hb2
  injection hb2 with hb2
  injection hb2 with _ ht2
  exact ht ht2.symm
theorem IsS88.far {w0 W : World} {g : Nat} {f0 : List Int} {f1 : Int} {f2 : Int} {p : Addr} (h : IsS88 w0 W g f0 f1 f2) (hne : g ≠ p.block) (u : Value) : IsS88 w0 (W.setCell p u) g f0 f1 f2 := by
  obtain ⟨A0, c0, hb, hg, hr0⟩ := h
  exact ⟨A0, c0, blk_far hb hne u, hg, hr0⟩
theorem cellS88_0 {W : World} {g : Nat} {A0 : Option Addr} {c0 : Nat} {f0 : List Int} {f1 : Int} {f2 : Int} (h : W.heap[g]? = some (.cells #[.slice A0 f0.length c0, .int .i64 f1, .int .i64 f2] 88 (0, 0))) : W.cell? ⟨g, 0, none⟩ = some (.slice A0 f0.length c0) := (blk_cell h 0).trans rfl
theorem cellS88_1 {W : World} {g : Nat} {A0 : Option Addr} {c0 : Nat} {f0 : List Int} {f1 : Int} {f2 : Int} (h : W.heap[g]? = some (.cells #[.slice A0 f0.length c0, .int .i64 f1, .int .i64 f2] 88 (0, 0))) : W.cell? ⟨g, 1, none⟩ = some (.int .i64 f1) := (blk_cell h 1).trans rfl
theorem IsS88.set_1 {w0 W : World} {g : Nat} {f0 : List Int} {f1 : Int} {f2 : Int} (h : IsS88 w0 W g f0 f1 f2) (x : Int) : IsS88 w0 (W.setCell ⟨g, 1, none⟩ (.int .i64 x)) g f0 x f2 := by
  obtain ⟨A0, c0, hb, hg, hr0⟩ := h
  exact ⟨A0, c0, by simpa using blk_set hb 1 (.int .i64 x), hg, hr0⟩
theorem cellS88_2 {W : World} {g : Nat} {A0 : Option Addr} {c0 : Nat} {f0 : List Int} {f1 : Int} {f2 : Int} (h : W.heap[g]? = some (.cells #[.slice A0 f0.length c0, .int .i64 f1, .int .i64 f2] 88 (0, 0))) : W.cell? ⟨g, 2, none⟩ = some (.int .i64 f2) := (blk_cell h 2).trans rfl
theorem IsS88.set_2 {w0 W : World} {g : Nat} {f0 : List Int} {f1 : Int} {f2 : Int} (h : IsS88 w0 W g f0 f1 f2) (x : Int) : IsS88 w0 (W.setCell ⟨g, 2, none⟩ (.int .i64 x)) g f0 f1 x := by
  obtain ⟨A0, c0, hb, hg, hr0⟩ := h
  exact ⟨A0, c0, by simpa using blk_set hb 2 (.int .i64 x), hg, hr0⟩
theorem IsS88.new (w0 W : World) (A0 : Option Addr) (c0 : Nat) (f0 : List Int) (f1 : Int) (f2 : Int) (hB : Below w0.heap.size w0 W) (hr0 : Kd.C (Kd.int .u8) w0 A0 f0.length f0) : IsS88 w0 (W.alloc (.cells #[.slice A0 f0.length c0, .int .i64 f1, .int .i64 f2] 88)) W.heap.size f0 f1 f2 := ⟨A0, c0, by simpa using heap_alloc_new W _, hB.size, hr0⟩

/-! ### spec_l1New: function 50 -/
def spec_l1New.l0 : Nat → List Int → Int → Int → Option (List Int × Int × Int)
  | 0, _, _, _ => none
  | k + 1, x0, x3, x4 => if x4 < (x0.length : Int) then (if x4 < 4000 then (if 0 ≤ x4 then (spec_l1New.l0 k x0 (Go.bits .and .i64 (wrap64 ((wrap64 ((wrap64 (x3 * 137)) + (wrap64 (rd x0 x4)))) + 11)) 1073741823) (wrap64 (x4 + 1))) else (none)) else (some (x0, 0, x3))) else (some (x0, 0, x3))
def spec_l1New.f (k : Nat) (l0 : List Int) : Option (List Int × Int × Int) := spec_l1New.l0 k l0 (wrap64 (193017 + (l0.length : Int))) 0
set_option maxHeartbeats 8000000 in
set_option maxRecDepth 100000 in
theorem spec_l1New.calls (k : Nat) (A0 : Option Addr) (c0 : Nat) (l0 : List Int) (r1 : List Int) (r2 : Int) (r3 : Int) (w0 w : World) (hB : Below w0.heap.size w0 w) (hr0 : Kd.C (Kd.int .u8) w0 A0 l0.length l0) (hc0 : l0.length ≤ c0) (h : spec_l1New.f k l0 = some (r1, r2, r3)) :
    Calls Try.prog 50 #[.slice A0 l0.length c0] w fun e w' => ∃ g_ : Nat, e = .returned (.pointer (some ⟨g_, 0, none⟩)) ∧ IsS88 w0 w' g_ r1 r2 r3 ∧ Below w0.heap.size w0 w' ∧ Below w.heap.size w w' := by
  have hu88 := Try.underlying88
  have HR0 := Aside0.mk hr0
  have HC0 := Aside0.mk hc0
  clear hr0 hc0
  have HBW := Aside0.mk (Below.refl w.heap.size w)
  have HW0 := Aside0.mk hB.size
  have HB := Aside0.mk hB
  clear hB
  have H : (spec_l1New.l0 k l0 (wrap64 (193017 + (l0.length : Int))) 0) = some (r1, r2, r3) := h
  clear h
  have H' := Aside0.mk H
  clear H
  go_enter Try.func50, Try.ntmps50
  go_wp2
  go_loopg [3, 4] k (fun kq v3 v4 w' => ∃ (x3_1 : Int) (x4_1 : Int), v3 = .int .i64 x3_1 ∧ v4 = .int .i64 x4_1 ∧ Aside0 (spec_l1New.l0 kq l0 x3_1 x4_1 = some (r1, r2, r3)) ∧ Aside0 (kq ≤ k) ∧ Aside0 (Below w0.heap.size w0 w') ∧ Aside0 (Below w.heap.size w w'))
  case atStart => exact ⟨(wrap64 (193017 + (l0.length : Int))), (0), (by first | rfl | (simp; done) | (simp [*]; done)), (by first | rfl | (simp; done) | (simp [*]; done)), H', ⟨Nat.le_refl _⟩, ⟨by repeat (first | (with_reducible first | exact HB.out | apply below_alloc | apply pw_below_drewN | apply below_drew1) | exact HB.out)⟩, ⟨by repeat (first | (with_reducible first | exact HBW.out | apply below_alloc | apply pw_below_drewN | apply below_drew1) | exact HBW.out)⟩⟩
  case round =>
    clear H'
    obtain ⟨x3_1, x4_1, rfl, rfl, HA, HK1, HB, HBX⟩ := hrel
    clear HBW
    have HBW := HBX
    clear HBX
    cases gk with
    | zero => exact absurd HA.out (by simp [spec_l1New.l0])
    | succ k1 =>
      have H := HA.out
      clear HA
      simp only [spec_l1New.l0] at H
      by_cases c2 : x4_1 < (l0.length : Int)
      · rw [if_pos c2] at H
        have c2b0 : decide (x4_1 < (l0.length : Int)) = true := decide_eq_true c2
        clear c2
        by_cases c3 : x4_1 < 4000
        · rw [if_pos c3] at H
          have c3b0 : decide (x4_1 < 4000) = true := decide_eq_true c3
          clear c3
          by_cases c4 : 0 ≤ x4_1
          · rw [if_pos c4] at H
            have c4b0 : decide (0 ≤ x4_1) = true := decide_eq_true c4
            clear c4
            have H' := Aside0.mk H
            clear H
            have p202 : 0 ≤ (x4_1 : Int) := of_decide_eq_true (by first | (with_reducible assumption) | assumption)
            have q202 : x4_1 < (l0.length : Int) := of_decide_eq_true (by first | (with_reducible assumption) | assumption)
            obtain ⟨ad202, e202, hx202_0⟩ := Kd.at_int HR0.out x4_1 p202 q202
            cases e202
            replace hx202_0 := pw_cell_below HB.out hx202_0
            replace p202 := eq_true p202
            replace q202 := eq_true q202
            go_wp2
            go_roundg k1
            case measure => have := HK1.out; omega
            case rel => exact ⟨(Go.bits .and .i64 (wrap64 ((wrap64 ((wrap64 (x3_1 * 137)) + (wrap64 (rd l0 x4_1)))) + 11)) 1073741823), (wrap64 (x4_1 + 1)), (by first | rfl | (simp; done) | (simp [*]; done)), (by first | rfl | (simp; done) | (simp [*]; done)), H', ⟨by have := HK1.out; omega⟩, ⟨by repeat (first | (with_reducible first | exact HB.out | apply below_alloc | apply pw_below_drewN | apply below_drew1) | exact HB.out)⟩, ⟨by repeat (first | (with_reducible first | exact HBW.out | apply below_alloc | apply pw_below_drewN | apply below_drew1) | exact HBW.out)⟩⟩
          · rw [if_neg c4] at H
            exact absurd H (by simp)
        · rw [if_neg c3] at H
          have c3b0 : decide (x4_1 < 4000) = false := decide_eq_false c3
          clear c3
          simp only [Option.some.injEq, Prod.mk.injEq] at H
          obtain ⟨rfl, rfl, rfl⟩ := H
          go_wp2_with (first | ((with_reducible refine gate_dst (N := 31) rfl ?_); refine box_event ?hg (N := 31) ?hd (cs := #[.slice A0 l0.length c0, .int .i64 0, .int .i64 x3_1]) (t := 88) ?hr ?_; (case hd => rfl); (case hg => rfl); (case hr => first | (go_simp; done) | (go_simp; rfl)); intro gb203 hg w5 hbox hb; have n0_ := Aside0.mk (below_step HBW.out hb); have n1_ := Aside0.mk (below_step (by repeat (first | (with_reducible first | exact HB.out | apply below_alloc | apply pw_below_drewN | apply below_drew1) | exact HB.out)) hb); have n2_ := Aside0.mk (hbox); have n3_ := Aside0.mk ((by rw [hg]; exact (below_size (by repeat (first | (with_reducible first | exact HBW.out | apply below_alloc | apply pw_below_drewN | apply below_drew1) | exact HBW.out))) : w.heap.size ≤ gb203)); have n4_ := Aside0.mk ((Nat.le_trans HW0.out (by rw [hg]; exact (below_size (by repeat (first | (with_reducible first | exact HBW.out | apply below_alloc | apply pw_below_drewN | apply below_drew1) | exact HBW.out))) : w.heap.size ≤ gb203) : w0.heap.size ≤ gb203)); clear HBW; clear HB; have HBW := n0_; have HB := n1_; have BK203 := n2_; have GW203 := n3_; have GE203 := n4_; clear n0_ n1_ n2_ n3_ n4_; clear hb hbox hg))
          go_ret
          exact ⟨_, rfl, (show IsS88 w0 _ gb203 l0 0 x3_1 from ⟨_, _, by (with_reducible repeat (first | refine blk_drewN ?_ _ | refine blk_drew ?_ | refine blk_alloc ?_ _)); exact BK203.out, GE203.out, HR0.out⟩), by repeat (first | (with_reducible first | exact HB.out | apply below_alloc | apply pw_below_drewN | apply below_drew1 | refine below_set ?_ GE203.out) | exact HB.out), by repeat (first | (with_reducible first | exact HBW.out | apply below_alloc | apply pw_below_drewN | apply below_drew1 | refine below_set ?_ GW203.out) | exact HBW.out)⟩
      · rw [if_neg c2] at H
        have c2b0 : decide (x4_1 < (l0.length : Int)) = false := decide_eq_false c2
        clear c2
        simp only [Option.some.injEq, Prod.mk.injEq] at H
        obtain ⟨rfl, rfl, rfl⟩ := H
        go_wp2_with (first | ((with_reducible refine gate_dst (N := 31) rfl ?_); refine box_event ?hg (N := 31) ?hd (cs := #[.slice A0 l0.length c0, .int .i64 0, .int .i64 x3_1]) (t := 88) ?hr ?_; (case hd => rfl); (case hg => rfl); (case hr => first | (go_simp; done) | (go_simp; rfl)); intro gb204 hg w6 hbox hb; have n0_ := Aside0.mk (below_step HBW.out hb); have n1_ := Aside0.mk (below_step (by repeat (first | (with_reducible first | exact HB.out | apply below_alloc | apply pw_below_drewN | apply below_drew1) | exact HB.out)) hb); have n2_ := Aside0.mk (hbox); have n3_ := Aside0.mk ((by rw [hg]; exact (below_size (by repeat (first | (with_reducible first | exact HBW.out | apply below_alloc | apply pw_below_drewN | apply below_drew1) | exact HBW.out))) : w.heap.size ≤ gb204)); have n4_ := Aside0.mk ((Nat.le_trans HW0.out (by rw [hg]; exact (below_size (by repeat (first | (with_reducible first | exact HBW.out | apply below_alloc | apply pw_below_drewN | apply below_drew1) | exact HBW.out))) : w.heap.size ≤ gb204) : w0.heap.size ≤ gb204)); clear HBW; clear HB; have HBW := n0_; have HB := n1_; have BK204 := n2_; have GW204 := n3_; have GE204 := n4_; clear n0_ n1_ n2_ n3_ n4_; clear hb hbox hg))
        go_ret
        exact ⟨_, rfl, (show IsS88 w0 _ gb204 l0 0 x3_1 from ⟨_, _, by (with_reducible repeat (first | refine blk_drewN ?_ _ | refine blk_drew ?_ | refine blk_alloc ?_ _)); exact BK204.out, GE204.out, HR0.out⟩), by repeat (first | (with_reducible first | exact HB.out | apply below_alloc | apply pw_below_drewN | apply below_drew1 | refine below_set ?_ GE204.out) | exact HB.out), by repeat (first | (with_reducible first | exact HBW.out | apply below_alloc | apply pw_below_drewN | apply below_drew1 | refine below_set ?_ GW204.out) | exact HBW.out)⟩

/-! ### spec_l1Byte: function 77 -/
def spec_l1Byte.f (s0_0 : List Int) (s0_1 : Int) (s0_2 : Int) : Option (Int × Int × Int) := if s0_1 < (s0_0.length : Int) then (if 0 ≤ s0_1 then (some (Go.bits .and .i64 (wrap64 ((Go.bits .and .i64 (Go.bits .xor .i64 ((wrap64 ((wrap64 (s0_2 * 6364136223846793005)) + 1442695040888963407)) / 8589934592) ((wrap64 ((wrap64 (s0_2 * 6364136223846793005)) + 1442695040888963407)) / 140737488355328)) 255) + (wrap64 (rd s0_0 s0_1)))) 255, wrap64 (s0_1 + 1), wrap64 ((wrap64 (s0_2 * 6364136223846793005)) + 1442695040888963407))) else (none)) else (some (Go.bits .and .i64 (Go.bits .xor .i64 ((wrap64 ((wrap64 (s0_2 * 6364136223846793005)) + 1442695040888963407)) / 8589934592) ((wrap64 ((wrap64 (s0_2 * 6364136223846793005)) + 1442695040888963407)) / 140737488355328)) 255, s0_1, wrap64 ((wrap64 (s0_2 * 6364136223846793005)) + 1442695040888963407)))
set_option maxHeartbeats 8000000 in
set_option maxRecDepth 100000 in
theorem spec_l1Byte.calls (g : Nat) (s0_0 : List Int) (s0_1 : Int) (s0_2 : Int) (r1 : Int) (r2 : Int) (r3 : Int) (w0 w : World) (hI : IsS88 w0 w g s0_0 s0_1 s0_2) (hB : Below w0.heap.size w0 w) (h : spec_l1Byte.f s0_0 s0_1 s0_2 = some (r1, r2, r3)) :
    Calls Try.prog 77 #[.pointer (some ⟨g, 0, none⟩)] w fun e w' => e = .returned (.int .i64 r1) ∧ IsS88 w0 w' g s0_0 r2 r3 ∧ Below w0.heap.size w0 w' ∧ KeepBut w w' g none := by
  have HI0 := Aside0.mk hI
  have HK := Aside0.mk (KeepBut.refl w g none)
  have HL := Aside0.mk hB.size
  clear hI
  have HW0 := Aside0.mk hB.size
  have HB := Aside0.mk hB
  clear hB
  have H : (if s0_1 < (s0_0.length : Int) then (if 0 ≤ s0_1 then (some (Go.bits .and .i64 (wrap64 ((Go.bits .and .i64 (Go.bits .xor .i64 ((wrap64 ((wrap64 (s0_2 * 6364136223846793005)) + 1442695040888963407)) / 8589934592) ((wrap64 ((wrap64 (s0_2 * 6364136223846793005)) + 1442695040888963407)) / 140737488355328)) 255) + (wrap64 (rd s0_0 s0_1)))) 255, wrap64 (s0_1 + 1), wrap64 ((wrap64 (s0_2 * 6364136223846793005)) + 1442695040888963407))) else (none)) else (some (Go.bits .and .i64 (Go.bits .xor .i64 ((wrap64 ((wrap64 (s0_2 * 6364136223846793005)) + 1442695040888963407)) / 8589934592) ((wrap64 ((wrap64 (s0_2 * 6364136223846793005)) + 1442695040888963407)) / 140737488355328)) 255, s0_1, wrap64 ((wrap64 (s0_2 * 6364136223846793005)) + 1442695040888963407)))) = some (r1, r2, r3) := h
  clear h
  by_cases c2 : s0_1 < (s0_0.length : Int)
  · rw [if_pos c2] at H
    have c2b0 : decide (s0_1 < (s0_0.length : Int)) = true := decide_eq_true c2
    clear c2
    by_cases c3 : 0 ≤ s0_1
    · rw [if_pos c3] at H
      have c3b0 : decide (0 ≤ s0_1) = true := decide_eq_true c3
      clear c3
      simp only [Option.some.injEq, Prod.mk.injEq] at H
      obtain ⟨rfl, rfl, rfl⟩ := H
      obtain ⟨ASz4_0, cSz4_0, HGz4, hgz4, HSz4_0⟩ := HI0.out
      have hcz4_0 := cellS88_0 HGz4
      have hcz4_1 := cellS88_1 HGz4
      have hcz4_2 := cellS88_2 HGz4
      have hfz4_1 := blk_frozen HGz4 1
      have hfz4_2 := blk_frozen HGz4 2
      clear HGz4 hgz4
      have p205 : 0 ≤ (s0_1 : Int) := of_decide_eq_true (by first | (with_reducible assumption) | assumption)
      have q205 : s0_1 < (s0_0.length : Int) := of_decide_eq_true (by first | (with_reducible assumption) | assumption)
      obtain ⟨ad205, e205, hx205_0⟩ := Kd.at_int HSz4_0 s0_1 p205 q205
      cases e205
      have hn205_0 : ad205.block ≠ g := Nat.ne_of_lt (Nat.lt_of_lt_of_le (by have := World.block_lt_of_cell? _ _ hx205_0; first | rwa [add_block] at this | exact this) (IsS88.ge HI0.out))
      replace hx205_0 := pw_cell_below HB.out hx205_0
      replace hx205_0 := (cell_far (p := ⟨g, 2, none⟩) (by first | (rw [add_block]; exact hn205_0) | (show (Addr.add _ _).block ≠ _; rw [add_block]; exact hn205_0) | exact hn205_0) (.int .i64 (wrap64 ((wrap64 (s0_2 * 6364136223846793005)) + 1442695040888963407)))).trans hx205_0
      (try have hy205_0 := fun (n_ : Nat) => (show (((w.drewN n_).setCell ⟨g, 2, none⟩ (.int .i64 (wrap64 ((wrap64 (s0_2 * 6364136223846793005)) + 1442695040888963407))))).cell? _ = some _ from hx205_0))
      clear hn205_0
      replace p205 := eq_true p205
      replace q205 := eq_true q205
      go_enter Try.func77, Try.ntmps77
      go_wp2
      repeat (go_quiet (fail); try go_wp2)
      go_ret
      exact ⟨by first | rfl | (simp [errW_none, errW_some] <;> rfl) | (simp [*, errW_none, errW_some] <;> rfl), by repeat (first | (with_reducible first | exact HI0.out | apply IsS88.alloc | apply IsS88.drewN | apply IsS88.drew | apply IsS88.set_1 | apply IsS88.set_2) | exact HI0.out), by repeat (first | (with_reducible first | exact HB.out | apply below_alloc | apply pw_below_drewN | apply below_drew1 | refine below_set ?_ (IsS88.ge HI0.out)) | exact HB.out), by repeat (first | (with_reducible first | exact HK.out | apply KeepBut.set_ | apply keep_drewN | apply keep_drew | apply keep_alloc) | exact HK.out)⟩
    · rw [if_neg c3] at H
      exact absurd H (by simp)
  · rw [if_neg c2] at H
    have c2b0 : decide (s0_1 < (s0_0.length : Int)) = false := decide_eq_false c2
    clear c2
    simp only [Option.some.injEq, Prod.mk.injEq] at H
    obtain ⟨rfl, rfl, rfl⟩ := H
    obtain ⟨ASz5_0, cSz5_0, HGz5, hgz5, HSz5_0⟩ := HI0.out
    have hcz5_0 := cellS88_0 HGz5
    have hcz5_1 := cellS88_1 HGz5
    have hcz5_2 := cellS88_2 HGz5
    have hfz5_1 := blk_frozen HGz5 1
    have hfz5_2 := blk_frozen HGz5 2
    clear HGz5 hgz5
    go_enter Try.func77, Try.ntmps77
    go_wp2
    repeat (go_quiet (fail); try go_wp2)
    go_ret
    exact ⟨by first | rfl | (simp [errW_none, errW_some] <;> rfl) | (simp [*, errW_none, errW_some] <;> rfl), by repeat (first | (with_reducible first | exact HI0.out | apply IsS88.alloc | apply IsS88.drewN | apply IsS88.drew | apply IsS88.set_1 | apply IsS88.set_2) | exact HI0.out), by repeat (first | (with_reducible first | exact HB.out | apply below_alloc | apply pw_below_drewN | apply below_drew1 | refine below_set ?_ (IsS88.ge HI0.out)) | exact HB.out), by repeat (first | (with_reducible first | exact HK.out | apply KeepBut.set_ | apply keep_drewN | apply keep_drew | apply keep_alloc) | exact HK.out)⟩

/-! ### spec_l1Below: function 54 -/
def spec_l1Below.f (s0_0 : List Int) (s0_1 : Int) (s0_2 : Int) (a1 : Int) : Option (Int × Int × Int) := if a1 ≤ 0 then (some (0, s0_1, s0_2)) else (if a1 ≤ 256 then ((spec_l1Byte.f s0_0 s0_1 s0_2).bind fun bt206 => (if a1 = 0 then (none) else (some (Int.tmod bt206.1 a1, bt206.2.1, bt206.2.2)))) else ((spec_l1Byte.f s0_0 s0_1 s0_2).bind fun bt209 => ((spec_l1Byte.f s0_0 bt209.2.1 bt209.2.2).bind fun bt212 => ((spec_l1Byte.f s0_0 bt212.2.1 bt212.2.2).bind fun bt215 => (if a1 = 0 then (none) else (some (Int.tmod (wrap64 ((wrap64 ((wrap64 (bt209.1 * 65536)) + (wrap64 (bt212.1 * 256)))) + bt215.1)) a1, bt215.2.1, bt215.2.2)))))))
set_option maxHeartbeats 8000000 in
set_option maxRecDepth 100000 in
theorem spec_l1Below.calls (g : Nat) (s0_0 : List Int) (s0_1 : Int) (s0_2 : Int) (a1 : Int) (r1 : Int) (r2 : Int) (r3 : Int) (w0 w : World) (hI : IsS88 w0 w g s0_0 s0_1 s0_2) (hB : Below w0.heap.size w0 w) (h : spec_l1Below.f s0_0 s0_1 s0_2 a1 = some (r1, r2, r3)) :
    Calls Try.prog 54 #[.pointer (some ⟨g, 0, none⟩), .int .i64 a1] w fun e w' => e = .returned (.int .i64 r1) ∧ IsS88 w0 w' g s0_0 r2 r3 ∧ Below w0.heap.size w0 w' ∧ KeepBut w w' g none := by
  have HI0 := Aside0.mk hI
  have HK := Aside0.mk (KeepBut.refl w g none)
  have HL := Aside0.mk hB.size
  clear hI
  have HW0 := Aside0.mk hB.size
  have HB := Aside0.mk hB
  clear hB
  have H : (if a1 ≤ 0 then (some (0, s0_1, s0_2)) else (if a1 ≤ 256 then ((spec_l1Byte.f s0_0 s0_1 s0_2).bind fun bt206 => (if a1 = 0 then (none) else (some (Int.tmod bt206.1 a1, bt206.2.1, bt206.2.2)))) else ((spec_l1Byte.f s0_0 s0_1 s0_2).bind fun bt209 => ((spec_l1Byte.f s0_0 bt209.2.1 bt209.2.2).bind fun bt212 => ((spec_l1Byte.f s0_0 bt212.2.1 bt212.2.2).bind fun bt215 => (if a1 = 0 then (none) else (some (Int.tmod (wrap64 ((wrap64 ((wrap64 (bt209.1 * 65536)) + (wrap64 (bt212.1 * 256)))) + bt215.1)) a1, bt215.2.1, bt215.2.2)))))))) = some (r1, r2, r3) := h
  clear h
  by_cases c3 : a1 ≤ 0
  · rw [if_pos c3] at H
    have c3b0 : decide (a1 ≤ 0) = true := decide_eq_true c3
    clear c3
    simp only [Option.some.injEq, Prod.mk.injEq] at H
    obtain ⟨rfl, rfl, rfl⟩ := H
    go_enter Try.func54, Try.ntmps54
    go_wp2
    go_ret
    exact ⟨by first | rfl | (simp [errW_none, errW_some] <;> rfl) | (simp [*, errW_none, errW_some] <;> rfl), by repeat (first | (with_reducible first | exact HI0.out | apply IsS88.alloc | apply IsS88.drewN | apply IsS88.drew | apply IsS88.set_1 | apply IsS88.set_2) | exact HI0.out), by repeat (first | (with_reducible first | exact HB.out | apply below_alloc | apply pw_below_drewN | apply below_drew1 | refine below_set ?_ (IsS88.ge HI0.out)) | exact HB.out), by repeat (first | (with_reducible first | exact HK.out | apply KeepBut.set_ | apply keep_drewN | apply keep_drew | apply keep_alloc) | exact HK.out)⟩
  · rw [if_neg c3] at H
    have c3b0 : decide (a1 ≤ 0) = false := decide_eq_false c3
    clear c3
    by_cases c4 : a1 ≤ 256
    · rw [if_pos c4] at H
      have c4b0 : decide (a1 ≤ 256) = true := decide_eq_true c4
      clear c4
      replace H := Option.bind_eq_some_iff.mp H
      obtain ⟨⟨t206, t207, t208⟩, A50, H⟩ := H
      replace H : (if a1 = 0 then (none) else (some (Int.tmod t206 a1, t207, t208))) = some (r1, r2, r3) := H
      have A5 := Aside0.mk A50
      clear A50
      by_cases c6 : a1 = 0
      · rw [if_pos c6] at H
        exact absurd H (by simp)
      · rw [if_neg c6] at H
        have c6b0 : (a1 == 0) = false := beq_eq_false_iff_ne.mpr c6
        have c6b1 : (a1 != 0) = true := bne_iff_ne.mpr c6
        simp only [Option.some.injEq, Prod.mk.injEq] at H
        obtain ⟨rfl, rfl, rfl⟩ := H
        go_enter Try.func54, Try.ntmps54
        go_wp2_with (first | ((with_reducible refine gate_callee (f := 77) rfl ?_); refine goesL_ (some 13) rfl rfl Try.func77 (by kernel_rfl) rfl #[.pointer (some ⟨g, 0, none⟩)] rfl (by (try simp only [List.map_toArray, List.map_cons, List.map_nil]); first | done | rfl | (simp only [List.length_drop, List.length_take]; rfl)) ?_; (with_reducible refine (spec_l1Byte.calls g s0_0 s0_1 s0_2 t206 t207 t208 w0 _ ?side1 ?side2 A5.out).mono ?_); (case side1 => repeat (first | (with_reducible first | exact HI0.out | apply IsS88.alloc | apply IsS88.drewN | apply IsS88.drew | apply IsS88.set_1 | apply IsS88.set_2) | exact HI0.out)); (case side2 => repeat (first | (with_reducible first | exact HB.out | apply below_alloc | apply pw_below_drewN | apply below_drew1 | refine below_set ?_ (IsS88.ge HI0.out)) | exact HB.out)); rintro e w7 ⟨rfl, hi, hb, hk⟩; refine ⟨_, rfl, ?_⟩; have n0_ := Aside0.mk (KeepBut.trans (by repeat (first | (with_reducible first | exact HK.out | apply KeepBut.set_ | apply keep_drewN | apply keep_drew | apply keep_alloc) | exact HK.out)) hk (.inl rfl)); have n1_ := Aside0.mk (hb); have n2_ := Aside0.mk (hi); clear HK; clear HB; clear HI0; have HK := n0_; have HB := n1_; have HI0 := n2_; clear n0_ n1_ n2_; (try clear hb); (try clear hb2); (try clear hk); (try clear hi)))
        go_ret
        exact ⟨by first | rfl | (simp [errW_none, errW_some] <;> rfl) | (simp [*, errW_none, errW_some] <;> rfl), by repeat (first | (with_reducible first | exact HI0.out | apply IsS88.alloc | apply IsS88.drewN | apply IsS88.drew | apply IsS88.set_1 | apply IsS88.set_2) | exact HI0.out), by repeat (first | (with_reducible first | exact HB.out | apply below_alloc | apply pw_below_drewN | apply below_drew1 | refine below_set ?_ (IsS88.ge HI0.out)) | exact HB.out), by repeat (first | (with_reducible first | exact HK.out | apply KeepBut.set_ | apply keep_drewN | apply keep_drew | apply keep_alloc) | exact HK.out)⟩
    · rw [if_neg c4] at H
      have c4b0 : decide (a1 ≤ 256) = false := decide_eq_false c4
      clear c4
      replace H := Option.bind_eq_some_iff.mp H
      obtain ⟨⟨t209, t210, t211⟩, A80, H⟩ := H
      replace H : ((spec_l1Byte.f s0_0 t210 t211).bind fun bt212 => ((spec_l1Byte.f s0_0 bt212.2.1 bt212.2.2).bind fun bt215 => (if a1 = 0 then (none) else (some (Int.tmod (wrap64 ((wrap64 ((wrap64 (t209 * 65536)) + (wrap64 (bt212.1 * 256)))) + bt215.1)) a1, bt215.2.1, bt215.2.2))))) = some (r1, r2, r3) := H
      have A8 := Aside0.mk A80
      clear A80
      replace H := Option.bind_eq_some_iff.mp H
      obtain ⟨⟨t212, t213, t214⟩, A90, H⟩ := H
      replace H : ((spec_l1Byte.f s0_0 t213 t214).bind fun bt215 => (if a1 = 0 then (none) else (some (Int.tmod (wrap64 ((wrap64 ((wrap64 (t209 * 65536)) + (wrap64 (t212 * 256)))) + bt215.1)) a1, bt215.2.1, bt215.2.2)))) = some (r1, r2, r3) := H
      have A9 := Aside0.mk A90
      clear A90
      replace H := Option.bind_eq_some_iff.mp H
      obtain ⟨⟨t215, t216, t217⟩, A100, H⟩ := H
      replace H : (if a1 = 0 then (none) else (some (Int.tmod (wrap64 ((wrap64 ((wrap64 (t209 * 65536)) + (wrap64 (t212 * 256)))) + t215)) a1, t216, t217))) = some (r1, r2, r3) := H
      have A10 := Aside0.mk A100
      clear A100
      by_cases c11 : a1 = 0
      · rw [if_pos c11] at H
        exact absurd H (by simp)
      · rw [if_neg c11] at H
        have c11b0 : (a1 == 0) = false := beq_eq_false_iff_ne.mpr c11
        have c11b1 : (a1 != 0) = true := bne_iff_ne.mpr c11
        simp only [Option.some.injEq, Prod.mk.injEq] at H
        obtain ⟨rfl, rfl, rfl⟩ := H
        go_enter Try.func54, Try.ntmps54
        go_wp2_with (first | ((with_reducible refine gate_callee (f := 77) rfl ?_); refine goesL_ (some 17) rfl rfl Try.func77 (by kernel_rfl) rfl #[.pointer (some ⟨g, 0, none⟩)] rfl (by (try simp only [List.map_toArray, List.map_cons, List.map_nil]); first | done | rfl | (simp only [List.length_drop, List.length_take]; rfl)) ?_; (with_reducible refine (spec_l1Byte.calls g s0_0 s0_1 s0_2 t209 t210 t211 w0 _ ?side1 ?side2 A8.out).mono ?_); (case side1 => repeat (first | (with_reducible first | exact HI0.out | apply IsS88.alloc | apply IsS88.drewN | apply IsS88.drew | apply IsS88.set_1 | apply IsS88.set_2) | exact HI0.out)); (case side2 => repeat (first | (with_reducible first | exact HB.out | apply below_alloc | apply pw_below_drewN | apply below_drew1 | refine below_set ?_ (IsS88.ge HI0.out)) | exact HB.out)); rintro e w12 ⟨rfl, hi, hb, hk⟩; refine ⟨_, rfl, ?_⟩; have n0_ := Aside0.mk (KeepBut.trans (by repeat (first | (with_reducible first | exact HK.out | apply KeepBut.set_ | apply keep_drewN | apply keep_drew | apply keep_alloc) | exact HK.out)) hk (.inl rfl)); have n1_ := Aside0.mk (hb); have n2_ := Aside0.mk (hi); clear HK; clear HB; clear HI0; have HK := n0_; have HB := n1_; have HI0 := n2_; clear n0_ n1_ n2_; (try clear hb); (try clear hb2); (try clear hk); (try clear hi)) | ((with_reducible refine gate_callee (f := 77) rfl ?_); refine goesL_ (some 19) rfl rfl Try.func77 (by kernel_rfl) rfl #[.pointer (some ⟨g, 0, none⟩)] rfl (by (try simp only [List.map_toArray, List.map_cons, List.map_nil]); first | done | rfl | (simp only [List.length_drop, List.length_take]; rfl)) ?_; (with_reducible refine (spec_l1Byte.calls g s0_0 t210 t211 t212 t213 t214 w0 _ ?side1 ?side2 A9.out).mono ?_); (case side1 => repeat (first | (with_reducible first | exact HI0.out | apply IsS88.alloc | apply IsS88.drewN | apply IsS88.drew | apply IsS88.set_1 | apply IsS88.set_2) | exact HI0.out)); (case side2 => repeat (first | (with_reducible first | exact HB.out | apply below_alloc | apply pw_below_drewN | apply below_drew1 | refine below_set ?_ (IsS88.ge HI0.out)) | exact HB.out)); rintro e w13 ⟨rfl, hi, hb, hk⟩; refine ⟨_, rfl, ?_⟩; have n0_ := Aside0.mk (KeepBut.trans (by repeat (first | (with_reducible first | exact HK.out | apply KeepBut.set_ | apply keep_drewN | apply keep_drew | apply keep_alloc) | exact HK.out)) hk (.inl rfl)); have n1_ := Aside0.mk (hb); have n2_ := Aside0.mk (hi); clear HK; clear HB; clear HI0; have HK := n0_; have HB := n1_; have HI0 := n2_; clear n0_ n1_ n2_; (try clear hb); (try clear hb2); (try clear hk); (try clear hi)) | ((with_reducible refine gate_callee (f := 77) rfl ?_); refine goesL_ (some 21) rfl rfl Try.func77 (by kernel_rfl) rfl #[.pointer (some ⟨g, 0, none⟩)] rfl (by (try simp only [List.map_toArray, List.map_cons, List.map_nil]); first | done | rfl | (simp only [List.length_drop, List.length_take]; rfl)) ?_; (with_reducible refine (spec_l1Byte.calls g s0_0 t213 t214 t215 t216 t217 w0 _ ?side1 ?side2 A10.out).mono ?_); (case side1 => repeat (first | (with_reducible first | exact HI0.out | apply IsS88.alloc | apply IsS88.drewN | apply IsS88.drew | apply IsS88.set_1 | apply IsS88.set_2) | exact HI0.out)); (case side2 => repeat (first | (with_reducible first | exact HB.out | apply below_alloc | apply pw_below_drewN | apply below_drew1 | refine below_set ?_ (IsS88.ge HI0.out)) | exact HB.out)); rintro e w14 ⟨rfl, hi, hb, hk⟩; refine ⟨_, rfl, ?_⟩; have n0_ := Aside0.mk (KeepBut.trans (by repeat (first | (with_reducible first | exact HK.out | apply KeepBut.set_ | apply keep_drewN | apply keep_drew | apply keep_alloc) | exact HK.out)) hk (.inl rfl)); have n1_ := Aside0.mk (hb); have n2_ := Aside0.mk (hi); clear HK; clear HB; clear HI0; have HK := n0_; have HB := n1_; have HI0 := n2_; clear n0_ n1_ n2_; (try clear hb); (try clear hb2); (try clear hk); (try clear hi)))
        go_ret
        exact ⟨by first | rfl | (simp [errW_none, errW_some] <;> rfl) | (simp [*, errW_none, errW_some] <;> rfl), by repeat (first | (with_reducible first | exact HI0.out | apply IsS88.alloc | apply IsS88.drewN | apply IsS88.drew | apply IsS88.set_1 | apply IsS88.set_2) | exact HI0.out), by repeat (first | (with_reducible first | exact HB.out | apply below_alloc | apply pw_below_drewN | apply below_drew1 | refine below_set ?_ (IsS88.ge HI0.out)) | exact HB.out), by repeat (first | (with_reducible first | exact HK.out | apply KeepBut.set_ | apply keep_drewN | apply keep_drew | apply keep_alloc) | exact HK.out)⟩

/-! ### spec_l1Int: function 74 -/
def spec_l1Int.f (s0_0 : List Int) (s0_1 : Int) (s0_2 : Int) (l1 : List Int) : Option (Int × Int × Int) := (spec_l1Below.f s0_0 s0_1 s0_2 (l1.length : Int)).bind fun bt218 => (if 0 ≤ bt218.1 then (if bt218.1 < (l1.length : Int) then (some (rd l1 bt218.1, bt218.2.1, bt218.2.2)) else (none)) else (none))
set_option maxHeartbeats 8000000 in
set_option maxRecDepth 100000 in
theorem spec_l1Int.calls (g : Nat) (s0_0 : List Int) (s0_1 : Int) (s0_2 : Int) (A1 : Option Addr) (c1 : Nat) (l1 : List Int) (r1 : Int) (r2 : Int) (r3 : Int) (w0 w : World) (hI : IsS88 w0 w g s0_0 s0_1 s0_2) (hB : Below w0.heap.size w0 w) (hr1 : Kd.C (Kd.int .i64) w A1 l1.length l1) (hc1 : l1.length ≤ c1) (hf1 : ∀ ad, A1 = some ad → 0 < l1.length → ad.block ≠ g) (h : spec_l1Int.f s0_0 s0_1 s0_2 l1 = some (r1, r2, r3)) :
    Calls Try.prog 74 #[.pointer (some ⟨g, 0, none⟩), .slice A1 l1.length c1] w fun e w' => e = .returned (.int .i64 r1) ∧ IsS88 w0 w' g s0_0 r2 r3 ∧ Below w0.heap.size w0 w' ∧ KeepBut w w' g none := by
  have HR1 := Aside0.mk hr1
  have HC1 := Aside0.mk hc1
  clear hr1 hc1
  have HI0 := Aside0.mk hI
  have HK := Aside0.mk (KeepBut.refl w g none)
  have HL := Aside0.mk hB.size
  clear hI
  have HW0 := Aside0.mk hB.size
  have HB := Aside0.mk hB
  clear hB
  have H : ((spec_l1Below.f s0_0 s0_1 s0_2 (l1.length : Int)).bind fun bt218 => (if 0 ≤ bt218.1 then (if bt218.1 < (l1.length : Int) then (some (rd l1 bt218.1, bt218.2.1, bt218.2.2)) else (none)) else (none))) = some (r1, r2, r3) := h
  clear h
  replace H := Option.bind_eq_some_iff.mp H
  obtain ⟨⟨t218, t219, t220⟩, A30, H⟩ := H
  replace H : (if 0 ≤ t218 then (if t218 < (l1.length : Int) then (some (rd l1 t218, t219, t220)) else (none)) else (none)) = some (r1, r2, r3) := H
  have A3 := Aside0.mk A30
  clear A30
  by_cases c4 : 0 ≤ t218
  · rw [if_pos c4] at H
    have c4b0 : decide (0 ≤ t218) = true := decide_eq_true c4
    clear c4
    by_cases c5 : t218 < (l1.length : Int)
    · rw [if_pos c5] at H
      have c5b0 : decide (t218 < (l1.length : Int)) = true := decide_eq_true c5
      clear c5
      simp only [Option.some.injEq, Prod.mk.injEq] at H
      obtain ⟨rfl, rfl, rfl⟩ := H
      go_enter Try.func74, Try.ntmps74
      go_wp2_with (first | ((with_reducible refine gate_callee (f := 54) rfl ?_); refine goesL_ (some 9) rfl rfl Try.func54 (by kernel_rfl) rfl #[.pointer (some ⟨g, 0, none⟩), .int .i64 (l1.length : Int)] rfl (by (try simp only [List.map_toArray, List.map_cons, List.map_nil]); first | done | rfl | (simp only [List.length_drop, List.length_take]; rfl)) ?_; (with_reducible refine (spec_l1Below.calls g s0_0 s0_1 s0_2 (l1.length : Int) t218 t219 t220 w0 _ ?side1 ?side2 A3.out).mono ?_); (case side1 => repeat (first | (with_reducible first | exact HI0.out | apply IsS88.alloc | apply IsS88.drewN | apply IsS88.drew | apply IsS88.set_1 | apply IsS88.set_2) | exact HI0.out)); (case side2 => repeat (first | (with_reducible first | exact HB.out | apply below_alloc | apply pw_below_drewN | apply below_drew1 | refine below_set ?_ (IsS88.ge HI0.out)) | exact HB.out)); rintro e w6 ⟨rfl, hi, hb, hk⟩; refine ⟨_, rfl, ?_⟩; have n0_ := Aside0.mk (KeepBut.trans (by repeat (first | (with_reducible first | exact HK.out | apply KeepBut.set_ | apply keep_drewN | apply keep_drew | apply keep_alloc) | exact HK.out)) hk (.inl rfl)); have n1_ := Aside0.mk (hb); have n2_ := Aside0.mk (hi); clear HK; clear HB; clear HI0; have HK := n0_; have HB := n1_; have HI0 := n2_; clear n0_ n1_ n2_; (try clear hb); (try clear hb2); (try clear hk); (try clear hi); have p221 : 0 ≤ (t218 : Int) := of_decide_eq_true (by first | (with_reducible assumption) | assumption); have q221 : t218 < (l1.length : Int) := of_decide_eq_true (by first | (with_reducible assumption) | assumption); obtain ⟨ad221, e221, hx221_0⟩ := Kd.at_int HR1.out t218 p221 q221; cases e221; replace hx221_0 := keep_cell HK.out hx221_0 (by first | (rw [add_block]; exact hf1 _ rfl (by omega)) | exact hf1 _ rfl (by omega) | exact hf1 ad221 rfl (by omega)); replace p221 := eq_true p221; replace q221 := eq_true q221))
      go_ret
      exact ⟨by first | rfl | (simp [errW_none, errW_some] <;> rfl) | (simp [*, errW_none, errW_some] <;> rfl), by repeat (first | (with_reducible first | exact HI0.out | apply IsS88.alloc | apply IsS88.drewN | apply IsS88.drew | apply IsS88.set_1 | apply IsS88.set_2) | exact HI0.out), by repeat (first | (with_reducible first | exact HB.out | apply below_alloc | apply pw_below_drewN | apply below_drew1 | refine below_set ?_ (IsS88.ge HI0.out)) | exact HB.out), by repeat (first | (with_reducible first | exact HK.out | apply KeepBut.set_ | apply keep_drewN | apply keep_drew | apply keep_alloc) | exact HK.out)⟩
    · rw [if_neg c5] at H
      exact absurd H (by simp)
  · rw [if_neg c4] at H
    exact absurd H (by simp)

/-! ### spec_l4Draw: function 85 -/
def spec_l4Draw.f (s0_0 : List Int) (s0_1 : Int) (s0_2 : Int) : Option (Int × Int × Int × Int × Int) := (spec_l1Below.f s0_0 s0_1 s0_2 3).bind fun bt223 => ((spec_l1Below.f s0_0 bt223.2.1 bt223.2.2 3).bind fun bt226 => ((spec_l1Below.f s0_0 bt226.2.1 bt226.2.2 3).bind fun bt229 => (some (wrap64 (1 + bt223.1), bt226.1, bt229.1, bt229.2.1, bt229.2.2))))
set_option maxHeartbeats 8000000 in
set_option maxRecDepth 100000 in
theorem spec_l4Draw.calls (g : Nat) (s0_0 : List Int) (s0_1 : Int) (s0_2 : Int) (r1 : Int) (r2 : Int) (r3 : Int) (r4 : Int) (r5 : Int) (w0 w : World) (hI : IsS88 w0 w g s0_0 s0_1 s0_2) (hB : Below w0.heap.size w0 w) (h : spec_l4Draw.f s0_0 s0_1 s0_2 = some (r1, r2, r3, r4, r5)) :
    Calls Try.prog 85 #[.pointer (some ⟨g, 0, none⟩)] w fun e w' => e = .returned (.agg #[.int .i64 r1, .int .i64 r2, .int .i64 r3]) ∧ IsS88 w0 w' g s0_0 r4 r5 ∧ Below w0.heap.size w0 w' ∧ KeepBut w w' g none := by
  have hu34 := Try.underlying34
  have HI0 := Aside0.mk hI
  have HK := Aside0.mk (KeepBut.refl w g none)
  have HL := Aside0.mk hB.size
  clear hI
  have HW0 := Aside0.mk hB.size
  have HB := Aside0.mk hB
  clear hB
  have H : ((spec_l1Below.f s0_0 s0_1 s0_2 3).bind fun bt223 => ((spec_l1Below.f s0_0 bt223.2.1 bt223.2.2 3).bind fun bt226 => ((spec_l1Below.f s0_0 bt226.2.1 bt226.2.2 3).bind fun bt229 => (some (wrap64 (1 + bt223.1), bt226.1, bt229.1, bt229.2.1, bt229.2.2))))) = some (r1, r2, r3, r4, r5) := h
  clear h
  replace H := Option.bind_eq_some_iff.mp H
  obtain ⟨⟨t223, t224, t225⟩, A20, H⟩ := H
  replace H : ((spec_l1Below.f s0_0 t224 t225 3).bind fun bt226 => ((spec_l1Below.f s0_0 bt226.2.1 bt226.2.2 3).bind fun bt229 => (some (wrap64 (1 + t223), bt226.1, bt229.1, bt229.2.1, bt229.2.2)))) = some (r1, r2, r3, r4, r5) := H
  have A2 := Aside0.mk A20
  clear A20
  replace H := Option.bind_eq_some_iff.mp H
  obtain ⟨⟨t226, t227, t228⟩, A30, H⟩ := H
  replace H : ((spec_l1Below.f s0_0 t227 t228 3).bind fun bt229 => (some (wrap64 (1 + t223), t226, bt229.1, bt229.2.1, bt229.2.2))) = some (r1, r2, r3, r4, r5) := H
  have A3 := Aside0.mk A30
  clear A30
  replace H := Option.bind_eq_some_iff.mp H
  obtain ⟨⟨t229, t230, t231⟩, A40, H⟩ := H
  replace H : (some (wrap64 (1 + t223), t226, t229, t230, t231)) = some (r1, r2, r3, r4, r5) := H
  have A4 := Aside0.mk A40
  clear A40
  simp only [Option.some.injEq, Prod.mk.injEq] at H
  obtain ⟨rfl, rfl, rfl, rfl, rfl⟩ := H
  go_enter Try.func85, Try.ntmps85
  go_wp2_with (first | ((with_reducible refine gate_dst (N := 2) rfl ?_); refine box_event ?hg (N := 2) ?hd (cs := #[.int .i64 0, .int .i64 0, .int .i64 0]) (t := 34) ?hr ?_; (case hd => rfl); (case hg => rfl); (case hr => first | (go_simp; done) | (go_simp; rfl)); intro gb222 hg w5 hbox hb; have n0_ := Aside0.mk (IsS88.below (by repeat (first | (with_reducible first | exact HI0.out | apply IsS88.alloc | apply IsS88.drewN | apply IsS88.drew | apply IsS88.set_1 | apply IsS88.set_2) | exact HI0.out)) hb); have n1_ := Aside0.mk (KeepBut.trans (by repeat (first | (with_reducible first | exact HK.out | apply KeepBut.set_ | apply keep_drewN | apply keep_drew | apply keep_alloc) | exact HK.out)) (KeepBut.of_below hb g none) (.inl rfl)); have n2_ := Aside0.mk (below_step (by repeat (first | (with_reducible first | exact HB.out | apply below_alloc | apply pw_below_drewN | apply below_drew1 | refine below_set ?_ (IsS88.ge HI0.out)) | exact HB.out)) hb); have n3_ := Aside0.mk (hbox); have n4_ := Aside0.mk ((by rw [hg]; exact (keep_size (w := w) (g := g) (row := none) (by repeat (first | (with_reducible first | exact HK.out | apply KeepBut.set_ | apply keep_drewN | apply keep_drew | apply keep_alloc) | exact HK.out))) : w.heap.size ≤ gb222)); have n5_ := Aside0.mk ((Nat.le_trans HW0.out (by rw [hg]; exact (keep_size (w := w) (g := g) (row := none) (by repeat (first | (with_reducible first | exact HK.out | apply KeepBut.set_ | apply keep_drewN | apply keep_drew | apply keep_alloc) | exact HK.out))) : w.heap.size ≤ gb222) : w0.heap.size ≤ gb222)); have n6_ := Aside0.mk ((by rw [hg]; exact Nat.ne_of_lt (IsS88.lt (show IsS88 w0 _ g s0_0 s0_1 s0_2 from by repeat (first | (with_reducible first | exact HI0.out | apply IsS88.alloc | apply IsS88.drewN | apply IsS88.drew | apply IsS88.set_1 | apply IsS88.set_2) | exact HI0.out))) : g ≠ gb222)); have n7_ := Aside0.mk ((by rw [hg]; exact Nat.ne_of_gt (IsS88.lt (show IsS88 w0 _ g s0_0 s0_1 s0_2 from by repeat (first | (with_reducible first | exact HI0.out | apply IsS88.alloc | apply IsS88.drewN | apply IsS88.drew | apply IsS88.set_1 | apply IsS88.set_2) | exact HI0.out))) : gb222 ≠ g)); clear HI0; clear HK; clear HB; have HI0 := n0_; have HK := n1_; have HB := n2_; have BK222 := n3_; have GW222 := n4_; have GE222 := n5_; have NB0_222 := n6_; have NB222_0 := n7_; clear n0_ n1_ n2_ n3_ n4_ n5_ n6_ n7_; clear hb hbox hg) | ((with_reducible refine gate_callee (f := 54) rfl ?_); refine goesL_ (some 4) rfl rfl Try.func54 (by kernel_rfl) rfl #[.pointer (some ⟨g, 0, none⟩), .int .i64 3] rfl (by (try simp only [List.map_toArray, List.map_cons, List.map_nil]); first | done | rfl | (simp only [List.length_drop, List.length_take]; rfl)) ?_; (with_reducible refine (spec_l1Below.calls g s0_0 s0_1 s0_2 3 t223 t224 t225 w0 _ ?side1 ?side2 A2.out).mono ?_); (case side1 => repeat (first | (with_reducible first | exact HI0.out | apply IsS88.alloc | apply IsS88.drewN | apply IsS88.drew | apply IsS88.set_1 | apply IsS88.set_2 | refine IsS88.far ?_ NB0_222.out _) | exact HI0.out)); (case side2 => repeat (first | (with_reducible first | exact HB.out | apply below_alloc | apply pw_below_drewN | apply below_drew1 | refine below_set ?_ (IsS88.ge HI0.out) | refine below_set ?_ GE222.out) | exact HB.out)); rintro e w6 ⟨rfl, hi, hb, hk⟩; refine ⟨_, rfl, ?_⟩; have n0_ := Aside0.mk (KeepBut.blk hk (g' := gb222) (o := .cells #[.int .i64 0, .int .i64 0, .int .i64 0] 34 (0, 0)) (by (with_reducible repeat (first | refine blk_drewN ?_ _ | refine blk_drew ?_ | refine blk_alloc ?_ _)); exact BK222.out) NB222_0.out (by simp)); have n1_ := Aside0.mk (KeepBut.trans (by repeat (first | (with_reducible first | exact HK.out | apply KeepBut.set_ | apply keep_drewN | apply keep_drew | apply keep_alloc | refine keep_far ?_ GW222.out _) | exact HK.out)) hk (.inl rfl)); have n2_ := Aside0.mk (hb); have n3_ := Aside0.mk (hi); clear BK222; clear HK; clear HB; clear HI0; have BK222 := n0_; have HK := n1_; have HB := n2_; have HI0 := n3_; clear n0_ n1_ n2_ n3_; (try clear hb); (try clear hb2); (try clear hk); (try clear hi)) | ((with_reducible refine gate_callee (f := 54) rfl ?_); refine goesL_ (some 7) rfl rfl Try.func54 (by kernel_rfl) rfl #[.pointer (some ⟨g, 0, none⟩), .int .i64 3] rfl (by (try simp only [List.map_toArray, List.map_cons, List.map_nil]); first | done | rfl | (simp only [List.length_drop, List.length_take]; rfl)) ?_; (with_reducible refine (spec_l1Below.calls g s0_0 t224 t225 3 t226 t227 t228 w0 _ ?side1 ?side2 A3.out).mono ?_); (case side1 => repeat (first | (with_reducible first | exact HI0.out | apply IsS88.alloc | apply IsS88.drewN | apply IsS88.drew | apply IsS88.set_1 | apply IsS88.set_2 | refine IsS88.far ?_ NB0_222.out _) | exact HI0.out)); (case side2 => repeat (first | (with_reducible first | exact HB.out | apply below_alloc | apply pw_below_drewN | apply below_drew1 | refine below_set ?_ (IsS88.ge HI0.out) | refine below_set ?_ GE222.out) | exact HB.out)); rintro e w7 ⟨rfl, hi, hb, hk⟩; refine ⟨_, rfl, ?_⟩; have n0_ := Aside0.mk (KeepBut.blk hk (g' := gb222) (o := .cells #[.int .i64 0, .int .i64 0, .int .i64 0] 34 (0, 0)) (by (with_reducible repeat (first | refine blk_drewN ?_ _ | refine blk_drew ?_ | refine blk_alloc ?_ _)); exact BK222.out) NB222_0.out (by simp)); have n1_ := Aside0.mk (KeepBut.trans (by repeat (first | (with_reducible first | exact HK.out | apply KeepBut.set_ | apply keep_drewN | apply keep_drew | apply keep_alloc | refine keep_far ?_ GW222.out _) | exact HK.out)) hk (.inl rfl)); have n2_ := Aside0.mk (hb); have n3_ := Aside0.mk (hi); clear BK222; clear HK; clear HB; clear HI0; have BK222 := n0_; have HK := n1_; have HB := n2_; have HI0 := n3_; clear n0_ n1_ n2_ n3_; (try clear hb); (try clear hb2); (try clear hk); (try clear hi)) | ((with_reducible refine gate_callee (f := 54) rfl ?_); refine goesL_ (some 9) rfl rfl Try.func54 (by kernel_rfl) rfl #[.pointer (some ⟨g, 0, none⟩), .int .i64 3] rfl (by (try simp only [List.map_toArray, List.map_cons, List.map_nil]); first | done | rfl | (simp only [List.length_drop, List.length_take]; rfl)) ?_; (with_reducible refine (spec_l1Below.calls g s0_0 t227 t228 3 t229 t230 t231 w0 _ ?side1 ?side2 A4.out).mono ?_); (case side1 => repeat (first | (with_reducible first | exact HI0.out | apply IsS88.alloc | apply IsS88.drewN | apply IsS88.drew | apply IsS88.set_1 | apply IsS88.set_2 | refine IsS88.far ?_ NB0_222.out _) | exact HI0.out)); (case side2 => repeat (first | (with_reducible first | exact HB.out | apply below_alloc | apply pw_below_drewN | apply below_drew1 | refine below_set ?_ (IsS88.ge HI0.out) | refine below_set ?_ GE222.out) | exact HB.out)); rintro e w8 ⟨rfl, hi, hb, hk⟩; refine ⟨_, rfl, ?_⟩; have n0_ := Aside0.mk (KeepBut.blk hk (g' := gb222) (o := .cells #[.int .i64 0, .int .i64 0, .int .i64 0] 34 (0, 0)) (by (with_reducible repeat (first | refine blk_drewN ?_ _ | refine blk_drew ?_ | refine blk_alloc ?_ _)); exact BK222.out) NB222_0.out (by simp)); have n1_ := Aside0.mk (KeepBut.trans (by repeat (first | (with_reducible first | exact HK.out | apply KeepBut.set_ | apply keep_drewN | apply keep_drew | apply keep_alloc | refine keep_far ?_ GW222.out _) | exact HK.out)) hk (.inl rfl)); have n2_ := Aside0.mk (hb); have n3_ := Aside0.mk (hi); clear BK222; clear HK; clear HB; clear HI0; have BK222 := n0_; have HK := n1_; have HB := n2_; have HI0 := n3_; clear n0_ n1_ n2_ n3_; (try clear hb); (try clear hb2); (try clear hk); (try clear hi); have hnb9 := NB222_0.out; have hnc9 := NB0_222.out; have hcz10_0 : w8.cell? ⟨gb222, 0, none⟩ = some (.int .i64 0) := (blk_cell BK222.out 0).trans rfl; have hcz10_1 : w8.cell? ⟨gb222, 1, none⟩ = some (.int .i64 0) := (blk_cell BK222.out 1).trans rfl; have hcz10_2 : w8.cell? ⟨gb222, 2, none⟩ = some (.int .i64 0) := (blk_cell BK222.out 2).trans rfl; have hfz10_0 := blk_frozen BK222.out 0; have hfz10_1 := blk_frozen BK222.out 1; have hfz10_2 := blk_frozen BK222.out 2))
  refine bodyPost_ret (results_cell_row rfl _ _ gb222 34 #[.int .i64 (wrap64 (1 + t223)), .int .i64 t226, .int .i64 t229] (0, 0) _ rfl (by (with_reducible repeat (first | refine blk_drewN ?_ _ | refine blk_drew ?_ | refine blk_alloc ?_ _)); refine blk_put (cs := #[.int .i64 (wrap64 (1 + t223)), .int .i64 t226, .int .i64 0]) ?_ 2 _ rfl; (with_reducible repeat (first | refine blk_drewN ?_ _ | refine blk_drew ?_ | refine blk_alloc ?_ _)); refine blk_put (cs := #[.int .i64 (wrap64 (1 + t223)), .int .i64 0, .int .i64 0]) ?_ 1 _ rfl; (with_reducible repeat (first | refine blk_drewN ?_ _ | refine blk_drew ?_ | refine blk_alloc ?_ _)); refine blk_put (cs := #[.int .i64 0, .int .i64 0, .int .i64 0]) ?_ 0 _ rfl; (with_reducible repeat (first | refine blk_drewN ?_ _ | refine blk_drew ?_ | refine blk_alloc ?_ _)); exact BK222.out) Try.underlying34 rfl (by kernel_rfl)) rfl ?_
  exact ⟨by first | rfl | (simp [errW_none, errW_some] <;> rfl) | (simp [*, errW_none, errW_some] <;> rfl), by repeat (first | (with_reducible first | exact HI0.out | apply IsS88.alloc | apply IsS88.drewN | apply IsS88.drew | apply IsS88.set_1 | apply IsS88.set_2 | refine IsS88.far ?_ NB0_222.out _) | exact HI0.out), by repeat (first | (with_reducible first | exact HB.out | apply below_alloc | apply pw_below_drewN | apply below_drew1 | refine below_set ?_ (IsS88.ge HI0.out) | refine below_set ?_ GE222.out) | exact HB.out), by repeat (first | (with_reducible first | exact HK.out | apply KeepBut.set_ | apply keep_drewN | apply keep_drew | apply keep_alloc | refine keep_far ?_ GW222.out _) | exact HK.out)⟩

end Go.Proofs.Ytlpfobakbgipbaa.QFnParts
