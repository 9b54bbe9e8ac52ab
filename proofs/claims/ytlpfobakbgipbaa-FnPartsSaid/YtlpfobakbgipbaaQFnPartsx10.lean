/- The Go functions that the law FnParts comes to, each as a Lean function, with a proof that the call does what it says; written by a program of this session over the print of the kit. No conditions. -/
import Derived.Test.YtlpfobakbgipbaaQFnPartsx1
import Derived.Test.YtlpfobakbgipbaaQFnPartsx6
import Derived.Test.YtlpfobakbgipbaaQFnPartsx0
import Derived.Test.YtlpfobakbgipbaaQFnPartsx2
import Derived.Test.YtlpfobakbgipbaaQFnPartsx3
import Derived.Test.YtlpfobakbgipbaaQFnPartsx4
import Derived.Test.YtlpfobakbgipbaaQFnPartsx5
import Derived.Test.YtlpfobakbgipbaaQFnPartsx7
import Derived.Test.YtlpfobakbgipbaaQFnPartsx8
import Derived.Test.YtlpfobakbgipbaaQFnPartsx9
namespace Go.Proofs.Ytlpfobakbgipbaa.QFnParts
open Go.RowKit Go.Proofs.YtlpfobakbgipbaaW.PrintWords Go.Proofs.YtlpfobakbgipbaaW.PrintLast Go.Proofs.YtlpfobakbgipbaaW.PrintMore
attribute [local go_sem] max2_int min2_int max_two min_two max_three min_three max_four min_four   -- for this text's walks alone
set_option linter.unusedVariables false
set_option linter.unusedSimpArgs false

theorem cut_add (c i k g : Nat) : (if c = i then some (⟨g, 0, none⟩ : Addr) else some ⟨g, k, none⟩) = if c = i then some ⟨g, 0, none⟩ else (some (⟨g, 0, none⟩ : Addr)).map (·.add k) := by
  by_cases h : c = i
  · rw [if_pos h, if_pos h]
  · rw [if_neg h, if_neg h, Option.map_some, add_plain]
theorem zero_run {P : Program} {t : TypeId} {z : Value} {sz by_ : Nat} (h : (P.info? t).map (fun i => (i.zero, i.size, i.bytes)) = some (some z, sz, by_)) : ∀ w, (zeroValue t).run P w = .ok z w := by
  intro w
  obtain ⟨i, hi, he⟩ := Option.map_eq_some_iff.1 h
  have hz : i.zero = some z := congrArg (fun q => q.1) he
  simp [zeroValue, typeInfo, hi, hz]
theorem clear_run {P : Program} {ops : Array Oper} {rest : List Oper} {o : Oper} {a : Act} {Q : Exit → Act → World → Prop} (w : World) (hgd : o.guard = none) (s : Operand) (t : TypeId) (ho : o.op = .call { callee := .builtin .clear, args := #[s], argTypes := #[t] }) (v : Value) (hs : a.eval s = v) {v' : Value} {w' : World} (hr : (Builtin.clear_ #[t] o.type #[v]).run P w = .ok v' w') (hN : o.dst = none) (h : wpList P ops Q rest a w') : wpList P ops Q (o :: rest) a w := by
  refine wpList_plain hgd fun K hK => ?_
  unfold Oper.wp execOp
  simp only [ho, resolve, invoke, builtin, Sem.run_bind, Sem.run_pure, Result.andThen_ok, List.map_toArray, List.map_cons, List.map_nil, hs, hr]
  show K (a.put o.dst v') w'
  rw [hN]
  exact hK _ _ h
/-- The element behind a row's end is set to zero: the row is as it was. -/
theorem S_clear {α : Type} (d : Kd α) {P : Program} {W w0 : World} {base g n c : Nat} {e t ty : TypeId} {ok : Nat → Prop} {xs : List α} (z : Value) (hO : Kd.S d e W base ok (.slice (some ⟨g, 0, none⟩) n c) xs) (hn : n < c) (ht : P.underlying t = some (.slice e)) (hz : ∀ w, (zeroValue e).run P w = .ok z w) (hzs : z.cells.size = d.sz) (h1 : (Builtin.zeroCells z.cells 1).toList.all (fun u => u.oneCell') = true) (hlen : (Builtin.zeroCells z.cells 1).toList.length = d.sz) (HB : Below base w0 W) (c2 : Nat) :
    ∃ w1, (Builtin.clear_ #[t] ty #[.slice (some ⟨g, n * d.sz, none⟩) 1 c2]).run P W = .ok (.tuple #[]) w1 ∧ Kd.S d e w1 base ok (.slice (some ⟨g, 0, none⟩) n c) xs ∧ Below base w0 w1 := by
  obtain ⟨f, hok, inner, hown, hr⟩ := hO
  rcases hown.2 with ⟨hv, _⟩ | ⟨g', cap', cur, hv, hb, hh, hnc, hcm, hcs, htake⟩
  · cases hv
  injection hv with ha hn' hc'
  injection ha with ha
  injection ha with hg' _ _
  subst hg' hc'
  have hfit : n * d.sz + (Builtin.zeroCells z.cells 1).toList.length ≤ cur.size := by
    rw [hlen, hcs, ← Nat.succ_mul]
    exact Nat.mul_le_mul_right _ hn
  have hrun := run_storeCells_cells (P := P) g (n * d.sz) (Builtin.zeroCells z.cells 1).toList 0 W (fun j hj => by rw [Nat.add_zero, blk_cell hh, Array.getElem?_eq_getElem (by omega)]; rfl) (fun j _ => blk_frozen hh _) (List.all_eq_true.1 h1)
  obtain ⟨cur', h2, h3, h4⟩ := setCells_row (Builtin.zeroCells z.cells 1).toList (n * d.sz) W cur hh hfit
  obtain ⟨s1, s2, s3, s4⟩ := setCells_same g (Builtin.zeroCells z.cells 1).toList (n * d.sz) W
  have hgb : W.grownBy (W.setCells g (n * d.sz) (Builtin.zeroCells z.cells 1).toList) (some g) := ⟨s1, s2, s3, Nat.le_of_eq s4.symm, fun k hk hne => setCells_far _ _ k (fun he => hne (by rw [he]))⟩
  refine ⟨_, by simp [Builtin.clear_, run_underlying ht, hz, hrun], ⟨f, hok, inner, ⟨hown.1, .inr ⟨g, c, cur', by rw [← hn'], hb, h2, hnc, hcm, by rw [h3, hcs], ?_⟩⟩, ?_⟩, ?_⟩
  · have e : xs.zipIdx.length * (Kd.tag f d).sz = n * d.sz := by rw [← hn']; rfl
    rw [e] at htake ⊢
    rw [← htake, h4, List.append_assoc, List.take_append_of_le_length (by rw [List.length_take, Array.length_toList]; omega), List.take_take, Nat.min_self]
  · exact hr.imp_ (fun p cs hM => (Kd.tag f d).M_move (fun k hk => setCells_far _ _ k (fun he => hk.2 (by rw [he]; rfl))) hM)
  · exact pw_below_grown HB _ (Nat.le_of_lt (Nat.lt_of_le_of_lt hb (blk_lt hh))) hgb (fun k hk => by cases hk; exact hb)
def slices_Delete_Part.T5 : Bool × List (List Nat × List Nat) := (true, [([], []), ([], []), ([0, 1], [0, 1]), ([], []), ([], []), ([3, 4], [3, 4]), ([2, 5], [2, 5]), ([6, 6, 0, 1, 2, 3, 4, 5, 6], [0, 3, 6])])
def slices_Delete_Part.B5 : List Nat := [0, 0, 3, 0, 0, 24, 63, 127]
theorem slices_Delete_Part.tab5 : rtab .any (opsOf Try.f65 5) = slices_Delete_Part.T5 := by kernel_rfl
theorem slices_Delete_Part.bits5 : waitsOk slices_Delete_Part.T5.2 slices_Delete_Part.B5 = true := by kernel_rfl
set_option maxHeartbeats 8000000 in
set_option maxRecDepth 100000 in
theorem slices_Delete_Part.calls (base : Nat) (ok : Nat → Prop) (g n c i : Nat) (xs : List S63) (w0 w : World) (hB : Below base w0 w) (hbase : base ≤ w.heap.size) (hO : Kd.S k63 63 w base ok (.slice (some ⟨g, 0, none⟩) n c) xs) (hi : i < n) :
    Calls Try.prog 65 #[.slice (some ⟨g, 0, none⟩) n c, .int .i64 i, .int .i64 ((i : Int) + 1)] w fun e w' => e = .returned (.slice (some ⟨g, 0, none⟩) (n - 1) c) ∧ Kd.S k63 63 w' base ok (.slice (some ⟨g, 0, none⟩) (n - 1) c) (xs.eraseIdx i) ∧ Below base w0 w' := by
  obtain ⟨m, rfl⟩ : ∃ m, n = m + 1 := ⟨n - 1, by omega⟩
  have HB := Aside0.mk hB
  have HO := Aside0.mk hO
  have hnc : m + 1 ≤ c := (Kd.S_reads' hO).2.1
  clear hB hO
  have q1 : ¬ ((i : Int) = ((i : Int) + 1)) := by omega
  have q2 : ((i : Int) == ((i : Int) + 1)) = false := beq_eq_false_iff_ne.mpr q1
  have q3 : i + 1 ≤ m + 1 := hi
  have q4 : i + 1 ≤ c := by omega
  have q5 : i ≤ m + 1 := by omega
  have q6 : i ≤ c := by omega
  have q7 : i ≤ i + 1 := by omega
  have q10 : ¬ (c = m) := by omega
  have q11 : (m : Int) + 1 ≤ (c : Int) := by omega
  have q12 : (m : Int) ≤ (m : Int) + 1 := by omega
  have q8 : (0 : Int) ≤ (i : Int) + 1 := by omega
  have q9 : (i : Int) + 1 ≤ (m : Int) + 1 := by omega
  go_enter Try.func65, Try.ntmps65
  go_wp2_with fail
  refine start_ (n := 8) (S := fun _ => True) (ds := []) (mk 8 0) (by kernel_rfl) rfl rfl trivial (fun hHeld => ?_)
  refine with_tabW slices_Delete_Part.tab5 slices_Delete_Part.bits5 (fun HT_ HW_ => ?_)
  refine on_ 0 20 (mk 8 0x1) ?_
  refine on_ 1 21 (mk 8 0x3) ?_
  refine on_ 2 22 (mk 8 0x7) ?_
  refine on_ 3 23 (mk 8 0xF) ?_
  refine on_ 4 24 (mk 8 0x1F) ?_
  refine on_ 5 25 (mk 8 0x3F) ?_
  refine one_ (i := 6) (N := some 26) (mk 8 0x7F) rfl rfl (one_of HT_.out (by kernel_rfl)) (by decide) (fun K hK => ?_)
  refine Kd.S_delete_step k63 (w0 := w0) base (by rfl) (.tmp 22) (.tmp 25) 30 63 rfl Try.underlying30 (by kernel_rfl) (g := g) (n := m + 1) (c := c) (k := i) (m := m - i) (c2 := c - (i + 1)) (A := if c = i + 1 then some ⟨g, 0, none⟩ else (some (⟨g, 0, none⟩ : Addr)).map (·.add ((i + 1) * k63.sz))) rfl ?hx rfl (by omega) (Kd.S_drew HO.out) hi (below_drew HB.out) hbase ?_
  case hx => exact congrArg (fun z => Value.slice z (m - i) (c - (i + 1))) (cut_add c (i + 1) ((i + 1) * 7) g)
  intro w1 ho hb1 hg
  refine hK.out _ _ trivial (fun hHeld => nk_ 26 ?_)
  clear hK K
  refine on_ 7 0 (mk 8 0xFF) ?_
  refine dn_ ?_
  generalize (if c = i + 1 then some (⟨g, 0, none⟩ : Addr) else some ⟨g, (i + 1) * 7, none⟩) = zA
  go_wp2_with (((with_reducible refine gate_builtin (b := .clear) (xs := #[.tmp 31]) rfl ?_); obtain ⟨w2, hr2, ho2, hb2⟩ := S_clear k63 (P := Try.prog) (ty := 0) (t := 30) _ ho (show m < c by omega) Try.underlying30 (zero_run info63) rfl (by kernel_rfl) (by kernel_rfl) hb1 (c - m); refine clear_run _ rfl (.tmp 31) 30 rfl _ rfl hr2 rfl ?_))
  go_ret
  exact ⟨rfl, ho2, hb2⟩
/-! ### impl_TakePart: function 27 -/
def impl_TakePart.j0 : Nat → List (S63) → Int → Bool → Option ((List (S63)) × Bool)
  | 0, _, _, _ => none
  | k + 1, x6, x7, x19 => if x19 = true then (some (x6, false)) else (if 0 ≤ x7 then (if x7 < (x6.length : Int) then (if ((rd_T63 x6 x7).f2) = 1 then (if x7 ≤ (x6.length : Int) then (if 0 ≤ (wrap64 (x7 + 1)) then (if (wrap64 (x7 + 1)) ≤ (x6.length : Int) then (some ((x6.eraseIdx (x7 : Int).toNat), true)) else (none)) else (none)) else (none)) else (some ((x6.set (x7 : Int).toNat (⟨(rd_T63 x6 x7).f0, (⟨(rd_T63 x6 x7).f1.f0, (rd_T63 x6 x7).f1.f1, (⟨(rd_T63 x6 x7).f1.f2.f0, (rd_T63 x6 x7).f1.f2.f1, (rd_T63 x6 x7).f1.f2.f2⟩ : S34)⟩ : S36), wrap64 (((rd_T63 x6 x7).f2) - 1)⟩ : S63)), true))) else (none)) else (none))
def impl_TakePart.f (k : Nat) (l0 : List (S63)) (a1 : Int) : Option ((List (S63)) × Bool) := (impl_copyParts.f k l0).bind fun t546 => ((impl_partAt.f k t546 a1).bind fun t549 => ((impl_IsStore.f k l0).bind fun t550 => (if t550 = true then (impl_TakePart.j0 k t546 t549 (decide (t549 < 0))) else (impl_TakePart.j0 k t546 t549 true))))
set_option maxHeartbeats 8000000 in
set_option maxRecDepth 100000 in
theorem impl_TakePart.calls (k : Nat) (A0 : Option Addr) (c0 : Nat) (l0 : List (S63)) (a1 : Int) (r1 : List (S63)) (r2 : Bool) (w : World) (hr0 : Kd.C k63 w A0 l0.length l0) (hc0 : l0.length ≤ c0) (h : impl_TakePart.f k l0 a1 = some (r1, r2)) :
    Calls Try.prog 27 #[.slice A0 l0.length c0, .int .i64 a1] w fun e w' => ∃ v0_ : Value, e = .returned (.tuple #[v0_, .bool r2]) ∧ Kd.S k63 63 w' w.heap.size (fun _ => True) v0_ r1 ∧ Below w.heap.size w w' := by
  have hu63 := Try.underlying63
  have HR0 := Aside0.mk hr0
  have HC0 := Aside0.mk hc0
  clear hr0 hc0
  have HB := Aside0.mk (Below.refl w.heap.size w)
  obtain ⟨t1, A3, H⟩ := Option.bind_eq_some_iff.mp h
  obtain ⟨t2, A4, H⟩ := Option.bind_eq_some_iff.mp H
  clear h
  replace A3 := Aside0.mk A3
  replace A4 := Aside0.mk A4
  have HC4 := Aside0.mk H
  clear H
  go_enter Try.func27, Try.ntmps27
  go_upto_region 3 with (first | ((with_reducible refine gate_callee (f := 41) rfl ?_); refine goesL_ (some 9) rfl rfl Try.func41 (by kernel_rfl) rfl #[.slice A0 l0.length c0] rfl (by (try simp only [List.map_toArray, List.map_cons, List.map_nil]); first | done | rfl) ?_; refine (impl_copyParts.calls k _ _ l0 t1 _ HR0.out HC0.out A3.out).mono ?_; rintro e w6 ⟨v1, rfl, ho0, hb⟩; refine ⟨_, rfl, ?_⟩; have HO := Aside0.mk (Kd.S_lower ho0 (below_size HB.out)); have n1_ := Aside0.mk (below_step HB.out hb); clear HB ho0 hb; have HB := n1_; clear n1_; obtain ⟨Ao, co, eo⟩ := Kd.S_slice HO.out; subst eo) | ((with_reducible refine gate_callee (f := 42) rfl ?_); refine goesL_ (some 12) rfl rfl Try.func42 (by kernel_rfl) rfl #[.slice Ao t1.length co, .int .i64 a1] rfl (by (try simp only [List.map_toArray, List.map_cons, List.map_nil]); first | done | rfl) ?_; refine (impl_partAt.calls k _ _ t1 a1 t2 _ (Kd.S_reads' HO.out).2.2 (Kd.S_reads' HO.out).2.1 A4.out).mono ?_; rintro e w8 ⟨rfl, hb⟩; refine ⟨_, rfl, ?_⟩; have n0_ := Aside0.mk (Kd.S_below HO.out hb); have n1_ := Aside0.mk (below_step HB.out hb); clear HO HB hb; have HO := n0_; have HB := n1_; clear n0_ n1_))
  (try simp only [Act.put, List.setIfInBounds_toArray, List.set_cons_zero, List.set_cons_succ])
  go_cut [19] (fun v19 wc => ∃ (kq : Nat) (x19_4 : Bool), v19 = .bool x19_4 ∧ Aside0 (impl_TakePart.j0 kq t1 t2 x19_4 = some (r1, r2)) ∧ Aside0 (kq ≤ k) ∧ Aside0 (Kd.S k63 63 wc w.heap.size (fun _ => True) (.slice Ao t1.length co) t1) ∧ Aside0 (Below w.heap.size w wc))
  case first =>
    obtain ⟨t9, A9, H⟩ := Option.bind_eq_some_iff.mp HC4.out
    clear HC4
    replace A9 := Aside0.mk A9
    by_cases c6 : t9 = true
    · subst c6
      rw [if_pos rfl] at H
      have H' := Aside0.mk H
      clear H
      go_wp2_with (first | ((with_reducible refine gate_callee (f := 25) rfl ?_); refine goesL_ (some 14) rfl rfl Try.func25 (by kernel_rfl) rfl #[.slice A0 l0.length c0] rfl (by (try simp only [List.map_toArray, List.map_cons, List.map_nil]); first | done | rfl) ?_; refine (impl_IsStore.calls k _ _ l0 _ _ (Kd.C_below HR0.out HB.out) HC0.out A9.out).mono ?_; rintro e w11 ⟨rfl, hb⟩; refine ⟨_, rfl, ?_⟩; have n0_ := Aside0.mk (Kd.S_below HO.out hb); have n1_ := Aside0.mk (below_step HB.out hb); clear HO HB hb; have HO := n0_; have HB := n1_; clear n0_ n1_))
      go_meet
      case rel => exact ⟨_, decide (t2 < 0), (by first | rfl | (simp; done) | (simp [*]; done)), H', ⟨Nat.le_refl _⟩, HO, ⟨(by repeat (first | (with_reducible first | exact HB.out | apply below_alloc | apply pw_below_drewN | apply below_drew1) | exact HB.out))⟩⟩
    · replace c6 := Bool.eq_false_iff.mpr c6
      subst c6
      rw [if_neg (show ¬ (false = true) by decide)] at H
      have H' := Aside0.mk H
      clear H
      go_wp2_with (first | ((with_reducible refine gate_callee (f := 25) rfl ?_); refine goesL_ (some 14) rfl rfl Try.func25 (by kernel_rfl) rfl #[.slice A0 l0.length c0] rfl (by (try simp only [List.map_toArray, List.map_cons, List.map_nil]); first | done | rfl) ?_; refine (impl_IsStore.calls k _ _ l0 _ _ (Kd.C_below HR0.out HB.out) HC0.out A9.out).mono ?_; rintro e w11 ⟨rfl, hb⟩; refine ⟨_, rfl, ?_⟩; have n0_ := Aside0.mk (Kd.S_below HO.out hb); have n1_ := Aside0.mk (below_step HB.out hb); clear HO HB hb; have HO := n0_; have HB := n1_; clear n0_ n1_))
      go_meet
      case rel => exact ⟨_, true, (by first | rfl | (simp; done) | (simp [*]; done)), H', ⟨Nat.le_refl _⟩, HO, ⟨(by repeat (first | (with_reducible first | exact HB.out | apply below_alloc | apply pw_below_drewN | apply below_drew1) | exact HB.out))⟩⟩
  case rest =>
    clear HC4
    try clear p2
    try clear HO HB
    obtain ⟨kq, x19_4, rfl, HA, HJ4, HO, HB⟩ := hcut
    cases kq with
    | zero => exact absurd HA.out (by simp [impl_TakePart.j0])
    | succ kj4 =>
      have H := HA.out
      clear HA
      simp only [impl_TakePart.j0] at H
      by_cases c13 : x19_4 = true
      · subst c13
        rw [if_pos rfl] at H
        simp only [Option.some.injEq, Prod.mk.injEq] at H
        obtain ⟨rfl, rfl⟩ := H
        go_wp2
        go_ret2
        exact ⟨_, (by first | rfl | (simp [errW_none, errW_some] <;> rfl) | (simp [*, errW_none, errW_some] <;> rfl)), HO.out, (by repeat (first | (with_reducible first | exact HB.out | apply below_alloc | apply pw_below_drewN | apply below_drew1) | exact HB.out))⟩
      · replace c13 := Bool.eq_false_iff.mpr c13
        subst c13
        rw [if_neg (show ¬ (false = true) by decide)] at H
        by_cases c14 : 0 ≤ t2
        · rw [if_pos c14] at H
          obtain ⟨i, rfl⟩ := Int.eq_ofNat_of_zero_le c14
          by_cases c15 : (i : Int) < (t1.length : Int)
          · rw [if_pos c15] at H
            have hin : i < t1.length := by omega
            have hmax := (Kd.S_reads' HO.out).2.2.2.1
            have hwr : wrap64 ((i : Int) + 1) = (i : Int) + 1 := by unfold wrap64; omega
            have hwi : IntKind.i64.wrap ((i : Int) + 1) = (i : Int) + 1 := (i64_w _).trans hwr
            obtain ⟨g, cg, eg, GB, _, _⟩ := Kd.S_form HO.out (by omega)
            injection eg with ea _ ec
            subst ea ec
            obtain ⟨ad, A2, c2, e2, hx0, hx1, hx2, hx3, hx4, hx5, hx6, hl2, hi2⟩ := at_T63 (Kd.S_reads' HO.out).2.2 (i : Int) c14 c15
            injection e2 with e2
            subst e2
            simp only [add_plain] at hx6
            obtain ⟨⟨d, ⟨kd, bd, ⟨ho, pa, qu⟩⟩, us⟩, hx⟩ : ∃ x, rd_T63 t1 (i : Int) = x := ⟨_, rfl⟩
            simp only [hx] at H hx6
            have p14 := eq_true c14
            have p15 := eq_true c15
            have hx6' : wc.cell? ⟨g, i * 7 + 6, none⟩ = some (.int .i64 us) := hx6
            clear hx0 hx1 hx2 hx3 hx4 hx5 hl2 hi2
            by_cases c16 : us = 1
            · subst c16
              rw [if_pos rfl, if_pos (by omega), hwr, if_pos (by omega), if_pos (by omega)] at H
              simp only [Option.some.injEq, Prod.mk.injEq] at H
              obtain ⟨e1, e2⟩ := H
              subst e2
              have E1 := Aside0.mk e1
              clear e1 hwr
              go_wp2_with (first | ((with_reducible refine gate_callee (f := 65) rfl ?_); refine goesL_ (some 31) rfl rfl Try.func65 (by kernel_rfl) rfl #[.slice (some ⟨g, 0, none⟩) t1.length co, .int .i64 i, .int .i64 ((i : Int) + 1)] rfl (by (try simp only [List.map_toArray, List.map_cons, List.map_nil]); first | done | rfl) ?_; refine (slices_Delete_Part.calls w.heap.size (fun _ => True) g t1.length co i t1 w _ HB.out (below_size HB.out) HO.out hin).mono ?_; rintro e w31 ⟨rfl, ho, hb⟩; refine ⟨_, rfl, ?_⟩; clear HO HB; have HO := Aside0.mk ho; have HB := Aside0.mk hb; clear ho hb))
              go_ret2
              refine ⟨_, (by first | rfl | (simp [errW_none, errW_some] <;> rfl) | (simp [*, errW_none, errW_some] <;> rfl)), ?_, (by repeat (first | (with_reducible first | exact HB.out | apply below_alloc | apply pw_below_drewN | apply below_drew1) | exact HB.out))⟩
              rw [← E1.out]
              exact HO.out
            · rw [if_neg c16] at H
              have c16b0 : (us == 1) = false := beq_eq_false_iff_ne.mpr c16
              simp only [Option.some.injEq, Prod.mk.injEq] at H
              obtain ⟨e1, e2⟩ := H
              subst e2
              have E1 := Aside0.mk e1
              clear e1 hwr hwi c16
              have HX := Aside0.mk (show Kd.S k63 63 wc w.heap.size (fun k_ => True ∧ ¬ False) (.slice (some ⟨g, 0, none⟩) t1.length co) t1 from Kd.S_mono HO.out (fun k_ hk => ⟨trivial, fun e_ => e_⟩))
              obtain ⟨oki, ce, hcl, hM, hcc, hfr, hoki, hH⟩ := Kd.S_elem HX.out z63 (i : Int) c14 c15
              rw [show t1.getD (i : Int).toNat z63 = _ from hx] at hM
              obtain ⟨ve, rfl, ge⟩ := k63_openM hM
              have HP := Aside0.mk (Kd.S_seg (ok := fun _ => True) (okg := fun _ => False) hH c14 c15 (seg := [.int .i64 (wrap64 (us - 1))]) (j := 6) (show 7 ≤ 7 from by decide) (x' := (⟨d, (⟨kd, bd, (⟨ho, pa, qu⟩ : S34)⟩ : S36), wrap64 (us - 1)⟩ : S63)) (k63_mkM _ _ _ (⟨d, (⟨kd, bd, (⟨ho, pa, qu⟩ : S34)⟩ : S36), wrap64 (us - 1)⟩ : S63) (Kd.R_mono ge (fun _ h_ => Or.inl h_))) (fun _ hk => hk) (fun k_ hk_ => hk_.elim))
              have hf6 : wc.frozen? ⟨g, i * 7 + 6, none⟩ = false := hfr 6
              clear hcl hcc hfr hM hoki hH HX ge
              go_wp2_with (first | ((with_reducible refine gate_store (t := 3) (p := 39) rfl ?_); refine store_event (t := 3) (p := 39) (v := ?vo) (w1 := (wc.setCell ⟨g, i * 7 + 6, none⟩ (.int .i64 (wrap64 (us - 1))))) ?hg ?ho ?hn ?hr ?_; (case ho => rfl); (case hg => rfl); (case hn => rfl); (case hr => first | (go_simp; done) | (go_simp; rfl)); intro w28 hw; have n0_ := Aside0.mk (show Kd.S k63 63 w28 w.heap.size (fun _ => True) (.slice (some ⟨g, 0, none⟩) t1.length co) (t1.set i (⟨d, (⟨kd, bd, (⟨ho, pa, qu⟩ : S34)⟩ : S36), wrap64 (us - 1)⟩ : S63)) from hw ▸ HP.out.1); have n1_ := Aside0.mk (show Below w.heap.size w w28 from hw ▸ below_set HB.out GB); clear HO HB hw; have HO := n0_; have HB := n1_; clear n0_ n1_))
              go_ret2
              refine ⟨_, (by first | rfl | (simp [errW_none, errW_some] <;> rfl) | (simp [*, errW_none, errW_some] <;> rfl)), ?_, (by repeat (first | (with_reducible first | exact HB.out | apply below_alloc | apply pw_below_drewN | apply below_drew1) | exact HB.out))⟩
              rw [← E1.out]
              exact HO.out
          · rw [if_neg c15] at H
            exact absurd H (by simp)
        · rw [if_neg c14] at H
          exact absurd H (by simp)

/-! ### impl_SizeOf: function 29 -/
def impl_SizeOf.f (a0_0 : Int) (l0_1 : List Int) (a0_2 : Int) (a0_3 : Int) (a0_4 : Int) : Option (Int) := some (wrap64 ((l0_1.length : Int) + 1))
set_option maxHeartbeats 8000000 in
set_option maxRecDepth 100000 in
theorem impl_SizeOf.calls (a0_0 : Int) (A0_1 : Option Addr) (c0_1 : Nat) (l0_1 : List Int) (a0_2 : Int) (a0_3 : Int) (a0_4 : Int) (r : Int) (w : World) (hr0_1 : Kd.C (Kd.int .i64) w A0_1 l0_1.length l0_1) (hc0_1 : l0_1.length ≤ c0_1) (h : impl_SizeOf.f a0_0 l0_1 a0_2 a0_3 a0_4 = some r) :
    Calls Try.prog 29 #[.agg #[.int .i64 a0_0, .slice A0_1 l0_1.length c0_1, .int .i64 a0_2, .int .i64 a0_3, .int .i64 a0_4]] w fun e w' => e = .returned (.int .i64 r) ∧ Below w.heap.size w w' := by
  have hu36 := Try.underlying36
  have HR0_1 := Aside0.mk hr0_1
  have HC0_1 := Aside0.mk hc0_1
  clear hr0_1 hc0_1
  have HB := Aside0.mk (Below.refl w.heap.size w)
  have H : (some (wrap64 ((l0_1.length : Int) + 1))) = some r := h
  clear h
  obtain rfl := Option.some.inj H
  go_enter Try.func29, Try.ntmps29
  go_wp2_with (first | ((with_reducible refine gate_dst (N := 1) rfl ?_); refine box_event ?hg (N := 1) ?hd (cs := #[.int .i64 a0_0, .slice A0_1 l0_1.length c0_1, .int .i64 a0_2, .int .i64 a0_3, .int .i64 a0_4]) (t := 36) ?hr ?_; (case hd => rfl); (case hg => rfl); (case hr => first | (go_simp; done) | (go_simp; rfl)); intro gb565 hg w2 hbox hb; have n0_ := Aside0.mk (below_step (by repeat (first | (with_reducible first | exact HB.out | apply below_alloc | apply pw_below_drewN | apply below_drew1) | exact HB.out)) hb); have n1_ := Aside0.mk (hbox); have n2_ := Aside0.mk ((by rw [hg]; exact (below_size (by repeat (first | (with_reducible first | exact HB.out | apply below_alloc | apply pw_below_drewN | apply below_drew1) | exact HB.out))) : w.heap.size ≤ gb565)); have n3_ := Aside0.mk ((by rw [hg]; exact (below_size (by repeat (first | (with_reducible first | exact HB.out | apply below_alloc | apply pw_below_drewN | apply below_drew1) | exact HB.out))) : w.heap.size ≤ gb565)); clear HB; have HB := n0_; have BK565 := n1_; have GW565 := n2_; have GE565 := n3_; clear n0_ n1_ n2_ n3_; clear hb hbox hg; have hcz3_0 : w2.cell? ⟨gb565, 0, none⟩ = some (.int .i64 a0_0) := (blk_cell BK565.out 0).trans rfl; have hcz3_1 : w2.cell? ⟨gb565, 1, none⟩ = some (.slice A0_1 l0_1.length c0_1) := (blk_cell BK565.out 1).trans rfl; have hcz3_2 : w2.cell? ⟨gb565, 2, none⟩ = some (.int .i64 a0_2) := (blk_cell BK565.out 2).trans rfl; have hcz3_3 : w2.cell? ⟨gb565, 3, none⟩ = some (.int .i64 a0_3) := (blk_cell BK565.out 3).trans rfl; have hcz3_4 : w2.cell? ⟨gb565, 4, none⟩ = some (.int .i64 a0_4) := (blk_cell BK565.out 4).trans rfl; have hfz3_0 := blk_frozen BK565.out 0; have hfz3_1 := blk_frozen BK565.out 1; have hfz3_2 := blk_frozen BK565.out 2; have hfz3_3 := blk_frozen BK565.out 3; have hfz3_4 := blk_frozen BK565.out 4))
  go_ret
  exact ⟨by first | rfl | (simp [errW_none, errW_some] <;> rfl) | (simp [*, errW_none, errW_some] <;> rfl), by repeat (first | (with_reducible first | exact HB.out | apply below_alloc | apply pw_below_drewN | apply below_drew1 | refine below_set ?_ GE565.out) | exact HB.out)⟩

/-! ### impl_StoredSize: function 28 -/
def impl_StoredSize.l0 : Nat → Int → Int → List (S63) → Int → Int → Option (Int × Int)
  | 0, _, _, _, _, _ => none
  | k + 1, x4, x5, x9, x10, x11 => if x11 < x10 then (if 0 ≤ x11 then (if x11 < (x9.length : Int) then ((impl_SizeOf.f ((rd_T63 x9 x11).f1.f0) ((rd_T63 x9 x11).f1.f1) ((rd_T63 x9 x11).f1.f2.f0) ((rd_T63 x9 x11).f1.f2.f1) ((rd_T63 x9 x11).f1.f2.f2)).bind fun t568 => (impl_StoredSize.l0 k (wrap64 (x4 + t568)) (wrap64 (x5 + (wrap64 (t568 * (mn (mx ((rd_T63 x9 x11).f2) 0) 1000))))) x9 x10 (wrap64 (x11 + 1)))) else (none)) else (none)) else (some (x4, x5))
def impl_StoredSize.f (k : Nat) (l0 : List (S63)) : Option (Int × Int) := impl_StoredSize.l0 k 0 0 l0 (l0.length : Int) 0
set_option maxHeartbeats 8000000 in
set_option maxRecDepth 100000 in
theorem impl_StoredSize.calls (k : Nat) (A0 : Option Addr) (c0 : Nat) (l0 : List (S63)) (r1 : Int) (r2 : Int) (w : World) (hr0 : Kd.C k63 w A0 l0.length l0) (hc0 : l0.length ≤ c0) (h : impl_StoredSize.f k l0 = some (r1, r2)) :
    Calls Try.prog 28 #[.slice A0 l0.length c0] w fun e w' => e = .returned (.tuple #[.int .i64 r1, .int .i64 r2]) ∧ Below w.heap.size w w' := by
  have hu63 := Try.underlying63
  have hu36 := Try.underlying36
  have HR0 := Aside0.mk hr0
  have HC0 := Aside0.mk hc0
  clear hr0 hc0
  have HB := Aside0.mk (Below.refl w.heap.size w)
  have H : (impl_StoredSize.l0 k 0 0 l0 (l0.length : Int) 0) = some (r1, r2) := h
  clear h
  have H' := Aside0.mk H
  clear H
  go_enter Try.func28, Try.ntmps28
  go_wp2
  go_loopg [4, 5, 11] k (fun kq v4 v5 v11 w' => ∃ (x4_1 : Int) (x5_1 : Int) (x11_1 : Int), v4 = .int .i64 x4_1 ∧ v5 = .int .i64 x5_1 ∧ v11 = .int .i64 x11_1 ∧ Aside0 (impl_StoredSize.l0 kq x4_1 x5_1 l0 (l0.length : Int) x11_1 = some (r1, r2)) ∧ Aside0 (kq ≤ k) ∧ Aside0 (Below w.heap.size w w'))
  case atStart => exact ⟨(0), (0), (0), (by first | rfl | (simp; done) | (simp [*]; done)), (by first | rfl | (simp; done) | (simp [*]; done)), (by first | rfl | (simp; done) | (simp [*]; done)), H', ⟨Nat.le_refl _⟩, ⟨by repeat (first | (with_reducible first | exact HB.out | apply below_alloc | apply pw_below_drewN | apply below_drew1) | exact HB.out)⟩⟩
  case round =>
    clear H'
    obtain ⟨x4_1, x5_1, x11_1, rfl, rfl, rfl, HA, HK1, HB⟩ := hrel
    cases gk with
    | zero => exact absurd HA.out (by simp [impl_StoredSize.l0])
    | succ k1 =>
      have H := HA.out
      clear HA
      simp only [impl_StoredSize.l0] at H
      by_cases c2 : x11_1 < (l0.length : Int)
      · rw [if_pos c2] at H
        have c2b0 : decide (x11_1 < (l0.length : Int)) = true := decide_eq_true c2
        clear c2
        by_cases c3 : 0 ≤ x11_1
        · rw [if_pos c3] at H
          have c3b0 : decide (0 ≤ x11_1) = true := decide_eq_true c3
          clear c3
          by_cases c4 : x11_1 < (l0.length : Int)
          · rw [if_pos c4] at H
            have c4b0 : decide (x11_1 < (l0.length : Int)) = true := decide_eq_true c4
            clear c4
            replace H := Option.bind_eq_some_iff.mp H
            obtain ⟨t568, A50, H⟩ := H
            replace H : (impl_StoredSize.l0 k1 (wrap64 (x4_1 + t568)) (wrap64 (x5_1 + (wrap64 (t568 * (mn (mx ((rd_T63 l0 x11_1).f2) 0) 1000))))) l0 (l0.length : Int) (wrap64 (x11_1 + 1))) = some (r1, r2) := H
            have A5 := Aside0.mk A50
            clear A50
            obtain ⟨ji6, hji6⟩ : ∃ j_ : Int, (mx ((rd_T63 l0 x11_1).f2) 0) = j_ := ⟨_, rfl⟩
            replace H : (impl_StoredSize.l0 k1 (wrap64 (x4_1 + t568)) (wrap64 (x5_1 + (wrap64 (t568 * (mn (ji6) 1000))))) l0 (l0.length : Int) (wrap64 (x11_1 + 1))) = some (r1, r2) := by first | (rw [hji6] at H; exact H) | (simp only [hji6] at H ⊢; exact H)
            (try rw [hji6] at A5)
            have hji6_ : (if ((rd_T63 l0 x11_1).f2) < 0 then 0 else ((rd_T63 l0 x11_1).f2)) = ji6 := hji6
            obtain ⟨ji7, hji7⟩ : ∃ j_ : Int, (mn (ji6) 1000) = j_ := ⟨_, rfl⟩
            replace H : (impl_StoredSize.l0 k1 (wrap64 (x4_1 + t568)) (wrap64 (x5_1 + (wrap64 (t568 * (ji7))))) l0 (l0.length : Int) (wrap64 (x11_1 + 1))) = some (r1, r2) := by first | (rw [hji7] at H; exact H) | (simp only [hji7] at H ⊢; exact H)
            (try rw [hji7] at A5)
            have hji7_ : (if 1000 < (ji6) then 1000 else (ji6)) = ji7 := hji7
            have H' := Aside0.mk H
            clear H
            have p566 : 0 ≤ (x11_1 : Int) := of_decide_eq_true (by first | (with_reducible assumption) | assumption)
            have q566 : x11_1 < (l0.length : Int) := of_decide_eq_true (by first | (with_reducible assumption) | assumption)
            obtain ⟨ad566, A566_2, c566_2, e566, hx566_0, hx566_1, hx566_2, hx566_3, hx566_4, hx566_5, hx566_6, hl566_2, hi566_2⟩ := at_T63 HR0.out x11_1 p566 q566
            cases e566
            replace hx566_0 := (HB.out.cell (World.block_lt_of_cell? w _ hx566_0)).trans hx566_0
            replace hx566_1 := (HB.out.cell (World.block_lt_of_cell? w _ hx566_1)).trans hx566_1
            replace hx566_2 := (HB.out.cell (World.block_lt_of_cell? w _ hx566_2)).trans hx566_2
            replace hx566_3 := (HB.out.cell (World.block_lt_of_cell? w _ hx566_3)).trans hx566_3
            replace hx566_4 := (HB.out.cell (World.block_lt_of_cell? w _ hx566_4)).trans hx566_4
            replace hx566_5 := (HB.out.cell (World.block_lt_of_cell? w _ hx566_5)).trans hx566_5
            replace hx566_6 := (HB.out.cell (World.block_lt_of_cell? w _ hx566_6)).trans hx566_6
            have HR566_2 := Aside0.mk hi566_2
            have HC566_2 := Aside0.mk hl566_2
            clear hi566_2 hl566_2
            replace p566 := eq_true p566
            replace q566 := eq_true q566
            go_wp2_with (first | ((with_reducible refine gate_dst (N := 7) rfl ?_); refine box_event ?hg (N := 7) ?hd (cs := #[.int .i64 0, .int .i64 0, .slice none 0 0, .int .i64 0, .int .i64 0, .int .i64 0, .int .i64 0]) (t := 63) ?hr ?_; (case hd => rfl); (case hg => rfl); (case hr => first | (go_simp; done) | (go_simp; rfl)); intro gb567 hg w8 hbox hb; have n0_ := Aside0.mk (below_step (by repeat (first | (with_reducible first | exact HB.out | apply below_alloc | apply pw_below_drewN | apply below_drew1) | exact HB.out)) hb); have n1_ := Aside0.mk (hbox); have n2_ := Aside0.mk ((by rw [hg]; exact (below_size (by repeat (first | (with_reducible first | exact HB.out | apply below_alloc | apply pw_below_drewN | apply below_drew1) | exact HB.out))) : w.heap.size ≤ gb567)); have n3_ := Aside0.mk ((by rw [hg]; exact (below_size (by repeat (first | (with_reducible first | exact HB.out | apply below_alloc | apply pw_below_drewN | apply below_drew1) | exact HB.out))) : w.heap.size ≤ gb567)); clear HB; have HB := n0_; have BK567 := n1_; have GW567 := n2_; have GE567 := n3_; clear n0_ n1_ n2_ n3_; clear hb hbox hg; have hcz9_0 : w8.cell? ⟨gb567, 0, none⟩ = some (.int .i64 0) := (blk_cell BK567.out 0).trans rfl; have hcz9_1 : w8.cell? ⟨gb567, 1, none⟩ = some (.int .i64 0) := (blk_cell BK567.out 1).trans rfl; have hcz9_2 : w8.cell? ⟨gb567, 2, none⟩ = some (.slice none 0 0) := (blk_cell BK567.out 2).trans rfl; have hcz9_3 : w8.cell? ⟨gb567, 3, none⟩ = some (.int .i64 0) := (blk_cell BK567.out 3).trans rfl; have hcz9_4 : w8.cell? ⟨gb567, 4, none⟩ = some (.int .i64 0) := (blk_cell BK567.out 4).trans rfl; have hcz9_5 : w8.cell? ⟨gb567, 5, none⟩ = some (.int .i64 0) := (blk_cell BK567.out 5).trans rfl; have hcz9_6 : w8.cell? ⟨gb567, 6, none⟩ = some (.int .i64 0) := (blk_cell BK567.out 6).trans rfl; have hfz9_0 := blk_frozen BK567.out 0; have hfz9_1 := blk_frozen BK567.out 1; have hfz9_2 := blk_frozen BK567.out 2; have hfz9_3 := blk_frozen BK567.out 3; have hfz9_4 := blk_frozen BK567.out 4; have hfz9_5 := blk_frozen BK567.out 5; have hfz9_6 := blk_frozen BK567.out 6) | ((with_reducible refine gate_callee (f := 29) rfl ?_); refine goesL_ (some 17) rfl rfl Try.func29 (by kernel_rfl) rfl #[.agg #[.int .i64 ((rd_T63 l0 x11_1).f1.f0), .slice A566_2 ((rd_T63 l0 x11_1).f1.f1).length c566_2, .int .i64 ((rd_T63 l0 x11_1).f1.f2.f0), .int .i64 ((rd_T63 l0 x11_1).f1.f2.f1), .int .i64 ((rd_T63 l0 x11_1).f1.f2.f2)]] rfl (by (try simp only [List.map_toArray, List.map_cons, List.map_nil]); first | done | rfl | (simp only [List.length_drop, List.length_take]; rfl)) ?_; (with_reducible refine (impl_SizeOf.calls ((rd_T63 l0 x11_1).f1.f0) _ _ ((rd_T63 l0 x11_1).f1.f1) ((rd_T63 l0 x11_1).f1.f2.f0) ((rd_T63 l0 x11_1).f1.f2.f1) ((rd_T63 l0 x11_1).f1.f2.f2) t568 _ ?side1 ?side2 A5.out).mono ?_); (case side1 => exact Kd.C_below HR566_2.out (by repeat (first | (with_reducible first | exact HB.out | apply below_alloc | apply pw_below_drewN | apply below_drew1 | refine below_set ?_ GE567.out) | exact HB.out))); (case side2 => exact HC566_2.out); rintro e w10 ⟨rfl, hb⟩; refine ⟨_, rfl, ?_⟩; have n0_ := Aside0.mk (blk_below (g := gb567) (o := .cells #[.int .i64 ((rd_T63 l0 x11_1).f0), .int .i64 ((rd_T63 l0 x11_1).f1.f0), .slice A566_2 ((rd_T63 l0 x11_1).f1.f1).length c566_2, .int .i64 ((rd_T63 l0 x11_1).f1.f2.f0), .int .i64 ((rd_T63 l0 x11_1).f1.f2.f1), .int .i64 ((rd_T63 l0 x11_1).f1.f2.f2), .int .i64 ((rd_T63 l0 x11_1).f2)] 63 (0, 0)) (by (with_reducible repeat (first | refine blk_drewN ?_ _ | refine blk_drew ?_ | refine blk_alloc ?_ _)); refine blk_put (cs := #[.int .i64 ((rd_T63 l0 x11_1).f0), .int .i64 ((rd_T63 l0 x11_1).f1.f0), .slice A566_2 ((rd_T63 l0 x11_1).f1.f1).length c566_2, .int .i64 ((rd_T63 l0 x11_1).f1.f2.f0), .int .i64 ((rd_T63 l0 x11_1).f1.f2.f1), .int .i64 ((rd_T63 l0 x11_1).f1.f2.f2), .int .i64 0]) ?_ 6 _ rfl; (with_reducible repeat (first | refine blk_drewN ?_ _ | refine blk_drew ?_ | refine blk_alloc ?_ _)); refine blk_put (cs := #[.int .i64 ((rd_T63 l0 x11_1).f0), .int .i64 ((rd_T63 l0 x11_1).f1.f0), .slice A566_2 ((rd_T63 l0 x11_1).f1.f1).length c566_2, .int .i64 ((rd_T63 l0 x11_1).f1.f2.f0), .int .i64 ((rd_T63 l0 x11_1).f1.f2.f1), .int .i64 0, .int .i64 0]) ?_ 5 _ rfl; (with_reducible repeat (first | refine blk_drewN ?_ _ | refine blk_drew ?_ | refine blk_alloc ?_ _)); refine blk_put (cs := #[.int .i64 ((rd_T63 l0 x11_1).f0), .int .i64 ((rd_T63 l0 x11_1).f1.f0), .slice A566_2 ((rd_T63 l0 x11_1).f1.f1).length c566_2, .int .i64 ((rd_T63 l0 x11_1).f1.f2.f0), .int .i64 0, .int .i64 0, .int .i64 0]) ?_ 4 _ rfl; (with_reducible repeat (first | refine blk_drewN ?_ _ | refine blk_drew ?_ | refine blk_alloc ?_ _)); refine blk_put (cs := #[.int .i64 ((rd_T63 l0 x11_1).f0), .int .i64 ((rd_T63 l0 x11_1).f1.f0), .slice A566_2 ((rd_T63 l0 x11_1).f1.f1).length c566_2, .int .i64 0, .int .i64 0, .int .i64 0, .int .i64 0]) ?_ 3 _ rfl; (with_reducible repeat (first | refine blk_drewN ?_ _ | refine blk_drew ?_ | refine blk_alloc ?_ _)); refine blk_put (cs := #[.int .i64 ((rd_T63 l0 x11_1).f0), .int .i64 ((rd_T63 l0 x11_1).f1.f0), .slice none 0 0, .int .i64 0, .int .i64 0, .int .i64 0, .int .i64 0]) ?_ 2 _ rfl; (with_reducible repeat (first | refine blk_drewN ?_ _ | refine blk_drew ?_ | refine blk_alloc ?_ _)); refine blk_put (cs := #[.int .i64 ((rd_T63 l0 x11_1).f0), .int .i64 0, .slice none 0 0, .int .i64 0, .int .i64 0, .int .i64 0, .int .i64 0]) ?_ 1 _ rfl; (with_reducible repeat (first | refine blk_drewN ?_ _ | refine blk_drew ?_ | refine blk_alloc ?_ _)); refine blk_put (cs := #[.int .i64 0, .int .i64 0, .slice none 0 0, .int .i64 0, .int .i64 0, .int .i64 0, .int .i64 0]) ?_ 0 _ rfl; (with_reducible repeat (first | refine blk_drewN ?_ _ | refine blk_drew ?_ | refine blk_alloc ?_ _)); exact BK567.out) hb); have n1_ := Aside0.mk (below_step (by repeat (first | (with_reducible first | exact HB.out | apply below_alloc | apply pw_below_drewN | apply below_drew1 | refine below_set ?_ GE567.out) | exact HB.out)) hb); clear BK567; clear HB; have BK567 := n0_; have HB := n1_; clear n0_ n1_; (try clear hb); (try clear hb2); (try clear hk); (try clear hi); have hcz11_0 : w10.cell? ⟨gb567, 0, none⟩ = some (.int .i64 ((rd_T63 l0 x11_1).f0)) := (blk_cell BK567.out 0).trans rfl; have hcz11_1 : w10.cell? ⟨gb567, 1, none⟩ = some (.int .i64 ((rd_T63 l0 x11_1).f1.f0)) := (blk_cell BK567.out 1).trans rfl; have hcz11_2 : w10.cell? ⟨gb567, 2, none⟩ = some (.slice A566_2 ((rd_T63 l0 x11_1).f1.f1).length c566_2) := (blk_cell BK567.out 2).trans rfl; have hcz11_3 : w10.cell? ⟨gb567, 3, none⟩ = some (.int .i64 ((rd_T63 l0 x11_1).f1.f2.f0)) := (blk_cell BK567.out 3).trans rfl; have hcz11_4 : w10.cell? ⟨gb567, 4, none⟩ = some (.int .i64 ((rd_T63 l0 x11_1).f1.f2.f1)) := (blk_cell BK567.out 4).trans rfl; have hcz11_5 : w10.cell? ⟨gb567, 5, none⟩ = some (.int .i64 ((rd_T63 l0 x11_1).f1.f2.f2)) := (blk_cell BK567.out 5).trans rfl; have hcz11_6 : w10.cell? ⟨gb567, 6, none⟩ = some (.int .i64 ((rd_T63 l0 x11_1).f2)) := (blk_cell BK567.out 6).trans rfl; have hfz11_0 := blk_frozen BK567.out 0; have hfz11_1 := blk_frozen BK567.out 1; have hfz11_2 := blk_frozen BK567.out 2; have hfz11_3 := blk_frozen BK567.out 3; have hfz11_4 := blk_frozen BK567.out 4; have hfz11_5 := blk_frozen BK567.out 5; have hfz11_6 := blk_frozen BK567.out 6))
            go_roundg k1
            case measure => have := HK1.out; omega
            case rel => exact ⟨(wrap64 (x4_1 + t568)), (wrap64 (x5_1 + (wrap64 (t568 * (ji7))))), (wrap64 (x11_1 + 1)), (by first | rfl | (simp; done) | (simp [*]; done)), (by first | rfl | (simp; done) | (simp only [← hji7] <;> (first | rfl | simp)) | (simp [*]; done)), (by first | rfl | (simp; done) | (simp [*]; done)), H', ⟨by have := HK1.out; omega⟩, ⟨by repeat (first | (with_reducible first | exact HB.out | apply below_alloc | apply pw_below_drewN | apply below_drew1 | refine below_set ?_ GE567.out) | exact HB.out)⟩⟩
          · rw [if_neg c4] at H
            exact absurd H (by simp)
        · rw [if_neg c3] at H
          exact absurd H (by simp)
      · rw [if_neg c2] at H
        have c2b0 : decide (x11_1 < (l0.length : Int)) = false := decide_eq_false c2
        clear c2
        simp only [Option.some.injEq, Prod.mk.injEq] at H
        obtain ⟨rfl, rfl⟩ := H
        go_wp2
        go_ret2
        exact ⟨by first | rfl | (simp [errW_none, errW_some] <;> rfl) | (simp [*, errW_none, errW_some] <;> rfl), by repeat (first | (with_reducible first | exact HB.out | apply below_alloc | apply pw_below_drewN | apply below_drew1) | exact HB.out)⟩

/-! ### spec_DrawEqualStores: function 30 -/
def spec_DrawEqualStores.f (k : Nat) (l0 : List Int) : Option ((List (S63)) × (List (S63))) := (spec_l1New.f k l0).bind fun bt569 => ((spec_l7Any.f k bt569.1 bt569.2.1 bt569.2.2).bind fun bt573 => ((spec_l1Once.f bt569.1 bt573.2.1 bt573.2.2 2).bind fun bt578 => (if bt578.1 = true then ((spec_l7Copy.f k bt573.1).bind fun t581 => (some (bt573.1, t581))) else ((spec_l7Any.f k bt569.1 bt578.2.1 bt578.2.2).bind fun bt584 => (some (bt573.1, bt584.1))))))
set_option maxHeartbeats 8000000 in
set_option maxRecDepth 100000 in
theorem spec_DrawEqualStores.calls (k : Nat) (A0 : Option Addr) (c0 : Nat) (l0 : List Int) (r1 : List (S63)) (r2 : List (S63)) (w : World) (hr0 : Kd.C (Kd.int .u8) w A0 l0.length l0) (hc0 : l0.length ≤ c0) (h : spec_DrawEqualStores.f k l0 = some (r1, r2)) :
    Calls Try.prog 30 #[.slice A0 l0.length c0] w fun e w' => ∃ (A : Option Addr) (c : Nat) (B : Option Addr) (b : Nat), e = .returned (.tuple #[.slice A r1.length c, .slice B r2.length b]) ∧ r1.length ≤ c ∧ Kd.C k63 w' A r1.length r1 ∧ r2.length ≤ b ∧ Kd.C k63 w' B r2.length r2 ∧ Below w.heap.size w w' := by
  have HR0 := Aside0.mk hr0
  have HC0 := Aside0.mk hc0
  clear hr0 hc0
  obtain ⟨⟨s, a0, b0⟩, A1, H1⟩ := Option.bind_eq_some_iff.mp h
  clear h
  obtain ⟨⟨xs, a1, b1⟩, A2, H2⟩ := Option.bind_eq_some_iff.mp H1
  clear H1
  obtain ⟨⟨ob, a2, b2⟩, A3, H⟩ := Option.bind_eq_some_iff.mp H2
  clear H2
  replace A1 := Aside0.mk A1
  replace A2 := Aside0.mk A2
  replace A3 := Aside0.mk A3
  dsimp only at H
  by_cases c1 : ob = true
  · subst c1
    rw [if_pos rfl] at H
    obtain ⟨ys, A4, HX⟩ := Option.bind_eq_some_iff.mp H
    clear H
    replace A4 := Aside0.mk A4
    simp only [Option.some.injEq, Prod.mk.injEq] at HX
    obtain ⟨rfl, rfl⟩ := HX
    go_enter Try.func30, Try.ntmps30
    go_wp2_with (first | ((with_reducible refine gate_callee (f := 50) rfl ?_); refine goesL_ (some 7) rfl rfl Try.func50 (by kernel_rfl) rfl #[.slice A0 l0.length c0] rfl (by (try simp only [List.map_toArray, List.map_cons, List.map_nil]); first | done | rfl) ?_; refine (spec_l1New.calls k _ _ l0 s a0 b0 w _ (Below.refl _ _) HR0.out HC0.out A1.out).mono ?_; rintro e w2 ⟨g, rfl, hi, hb, hb2⟩; refine ⟨_, rfl, ?_⟩; have CU := Aside0.mk (Cur.start hi hb); have HG2 := Aside0.mk hi.lt; clear hi hb hb2) | ((with_reducible refine gate_callee (f := 51) rfl ?_); refine goesL_ (some 9) rfl rfl Try.func51 (by kernel_rfl) rfl #[.pointer (some ⟨g, 0, none⟩)] rfl (by (try simp only [List.map_toArray, List.map_cons, List.map_nil]); first | done | rfl) ?_; refine (spec_l7Any.calls k g s _ _ xs a1 b1 w _ CU.out.1 CU.out.2.1 A2.out).mono ?_; rintro e w3 ⟨v1, rfl, hn, hi, hb, hk⟩; refine ⟨_, rfl, ?_⟩; obtain ⟨Al, cl, el⟩ := Kd.N_slice hn; subst el; have HN := Aside0.mk hn; clear hn; have n0_ := Aside0.mk (CU.out.call hi hb hk); clear CU hi hb hk; have CU := n0_; clear n0_) | ((with_reducible refine gate_callee (f := 53) rfl ?_); refine goesL_ (some 11) rfl rfl Try.func53 (by kernel_rfl) rfl #[.pointer (some ⟨g, 0, none⟩), .int .i64 2] rfl (by (try simp only [List.map_toArray, List.map_cons, List.map_nil]); first | done | rfl) ?_; refine (spec_l1Once.calls g s _ _ 2 _ a2 b2 w _ CU.out.1 CU.out.2.1 A3.out).mono ?_; rintro e w4 ⟨rfl, hi, hb, hk⟩; refine ⟨_, rfl, ?_⟩; have nN_ := Aside0.mk (Kd.N_keep HN.out hk (fun k_ h_ => by have := HG2.out; omega)); clear HN; have n0_ := Aside0.mk (CU.out.call hi hb hk); clear CU hi hb hk; have CU := n0_; clear n0_; have HN := nN_; clear nN_) | ((with_reducible refine gate_callee (f := 35) rfl ?_); refine goesL_ (some 14) rfl rfl Try.func35 (by kernel_rfl) rfl #[.slice Al xs.length cl] rfl (by (try simp only [List.map_toArray, List.map_cons, List.map_nil]); first | done | rfl) ?_; refine (spec_l7Copy.calls k _ _ xs ys _ (Kd.N_reads' HN.out).2.2 (Kd.N_reads' HN.out).2.1 A4.out).mono ?_; rintro e w5 ⟨v1, rfl, ho, hb⟩; refine ⟨_, rfl, ?_⟩; obtain ⟨Ay, cy, ey⟩ := Kd.S_slice ho; subst ey; have CY := Kd.S_reads' ho; have nN_ := Aside0.mk (Kd.N_below HN.out hb); have n0_ := Aside0.mk (CU.out.below hb); clear HN CU ho hb; have HN := nN_; have CU := n0_; clear nN_ n0_))
    go_ret2
    exact ⟨Al, cl, Ay, cy, rfl, (Kd.N_reads' HN.out).2.1, (Kd.N_reads' HN.out).2.2, CY.2.1, CY.2.2, CU.out.2.1⟩
  · replace c1 := Bool.eq_false_iff.mpr c1
    subst c1
    rw [if_neg (show ¬ (false = true) by decide)] at H
    obtain ⟨⟨ys, a3, b3⟩, A4, HX⟩ := Option.bind_eq_some_iff.mp H
    clear H
    replace A4 := Aside0.mk A4
    simp only [Option.some.injEq, Prod.mk.injEq] at HX
    obtain ⟨rfl, rfl⟩ := HX
    go_enter Try.func30, Try.ntmps30
    go_wp2_with (first | ((with_reducible refine gate_callee (f := 50) rfl ?_); refine goesL_ (some 7) rfl rfl Try.func50 (by kernel_rfl) rfl #[.slice A0 l0.length c0] rfl (by (try simp only [List.map_toArray, List.map_cons, List.map_nil]); first | done | rfl) ?_; refine (spec_l1New.calls k _ _ l0 s a0 b0 w _ (Below.refl _ _) HR0.out HC0.out A1.out).mono ?_; rintro e w2 ⟨g, rfl, hi, hb, hb2⟩; refine ⟨_, rfl, ?_⟩; have CU := Aside0.mk (Cur.start hi hb); have HG2 := Aside0.mk hi.lt; clear hi hb hb2) | ((with_reducible refine gate_callee (f := 51) rfl ?_); refine goesL_ (some 9) rfl rfl Try.func51 (by kernel_rfl) rfl #[.pointer (some ⟨g, 0, none⟩)] rfl (by (try simp only [List.map_toArray, List.map_cons, List.map_nil]); first | done | rfl) ?_; refine (spec_l7Any.calls k g s _ _ xs a1 b1 w _ CU.out.1 CU.out.2.1 A2.out).mono ?_; rintro e w3 ⟨v1, rfl, hn, hi, hb, hk⟩; refine ⟨_, rfl, ?_⟩; obtain ⟨Al, cl, el⟩ := Kd.N_slice hn; subst el; have HN := Aside0.mk hn; clear hn; have n0_ := Aside0.mk (CU.out.call hi hb hk); clear CU hi hb hk; have CU := n0_; clear n0_) | ((with_reducible refine gate_callee (f := 53) rfl ?_); refine goesL_ (some 11) rfl rfl Try.func53 (by kernel_rfl) rfl #[.pointer (some ⟨g, 0, none⟩), .int .i64 2] rfl (by (try simp only [List.map_toArray, List.map_cons, List.map_nil]); first | done | rfl) ?_; refine (spec_l1Once.calls g s _ _ 2 _ a2 b2 w _ CU.out.1 CU.out.2.1 A3.out).mono ?_; rintro e w4 ⟨rfl, hi, hb, hk⟩; refine ⟨_, rfl, ?_⟩; have nN_ := Aside0.mk (Kd.N_keep HN.out hk (fun k_ h_ => by have := HG2.out; omega)); clear HN; have n0_ := Aside0.mk (CU.out.call hi hb hk); clear CU hi hb hk; have CU := n0_; clear n0_; have HN := nN_; clear nN_) | ((with_reducible refine gate_callee (f := 51) rfl ?_); refine goesL_ (some 17) rfl rfl Try.func51 (by kernel_rfl) rfl #[.pointer (some ⟨g, 0, none⟩)] rfl (by (try simp only [List.map_toArray, List.map_cons, List.map_nil]); first | done | rfl) ?_; refine (spec_l7Any.calls k g s _ _ ys a3 b3 w _ CU.out.1 CU.out.2.1 A4.out).mono ?_; rintro e w5 ⟨v1, rfl, hn, hi, hb, hk⟩; refine ⟨_, rfl, ?_⟩; obtain ⟨Ay, cy, ey⟩ := Kd.N_slice hn; subst ey; have CY := Kd.N_reads' hn; clear hn; have nN_ := Aside0.mk (Kd.N_keep HN.out hk (fun k_ h_ => by have := HG2.out; omega)); clear HN; have n0_ := Aside0.mk (CU.out.call hi hb hk); clear CU hi hb hk; have CU := n0_; clear n0_; have HN := nN_; clear nN_))
    go_ret2
    exact ⟨Al, cl, Ay, cy, rfl, (Kd.N_reads' HN.out).2.1, (Kd.N_reads' HN.out).2.2, CY.2.1, CY.2.2, CU.out.2.1⟩

/-! ### laws_FnParts: function 4 (by hand) -/
theorem laws_FnParts.walk : True := trivial
def laws_FnParts.Pure : Prop := True
/-- What the law asks, each function once. -/
def laws_FnParts.rest (k : Nat) (l0 : List Int) (l xs : List S63) (d : Int) (q0 : Int) (q1 : List Int) (q2 q3 q4 : Int) : Prop :=
  ∃ zs had h0 h1 h2 h3 h4 sa sb sc se sz s t p, impl_TakePart.f k xs d = some (zs, true) ∧ impl_EqualStores.f k zs l = some true ∧ impl_GetPart.f k l d = some (h0, h1, h2, h3, h4, had) ∧ impl_StoredSize.f k l = some (sa, sb) ∧ impl_StoredSize.f k xs = some (sc, se) ∧ impl_SizeOf.f q0 q1 q2 q3 q4 = some sz ∧
    (if had = true then sc = sa else sc = wrap64 (sa + sz)) ∧ se = wrap64 (sb + sz) ∧ sa ≤ sb ∧ spec_DrawEqualStores.f k l0 = some (s, t) ∧ impl_EqualStores.f k s t = some p ∧ impl_EqualStores.f k t s = some p ∧ impl_EqualStores.f k s s = some true
def laws_FnParts.done (k : Nat) (l0 : List Int) (l xs : List S63) (q0 : Int) (q1 : List Int) (q2 q3 q4 : Int) : Prop :=
  ∃ d d2 y0 y1 y2 y3 y4 o0 o1 o2 o3 o4 was, impl_DigestOf.f k q0 q1 q2 q3 q4 = some d ∧ impl_GetPart.f k xs d = some (y0, y1, y2, y3, y4, true) ∧ spec_DigestOf.f k q0 q1 q2 q3 q4 = some d2 ∧ spec_GetPart.f k l d2 = some (o0, o1, o2, o3, o4, was) ∧ impl_IsStore.f k xs = some true ∧
    ((was = true ∧ spec_EqualResources.f k o0 o1 o2 o3 o4 q0 q1 q2 q3 q4 = some false ∧ impl_EqualResources.f k y0 y1 y2 y3 y4 o0 o1 o2 o3 o4 = some true) ∨
     (((was = true ∧ spec_EqualResources.f k o0 o1 o2 o3 o4 q0 q1 q2 q3 q4 = some true) ∨ was = false) ∧ impl_EqualResources.f k y0 y1 y2 y3 y4 q0 q1 q2 q3 q4 = some true ∧ laws_FnParts.rest k l0 l xs d q0 q1 q2 q3 q4))
def laws_FnParts.f (k : Nat) (l0 : List Int) : Prop :=
  laws_big.f l0 = some true ∨ (laws_big.f l0 = some false ∧ ∃ l q0 q1 q2 q3 q4 xs xb, spec_DrawPutPart.f k l0 = some (l, q0, q1, q2, q3, q4) ∧ impl_PutPart.f k l q0 q1 q2 q3 q4 = some (xs, xb) ∧ ((xb = false ∧ impl_EqualStores.f k xs l = some true) ∨ (xb = true ∧ laws_FnParts.done k l0 l xs q0 q1 q2 q3 q4)))
set_option maxHeartbeats 8000000 in
set_option maxRecDepth 100000 in
theorem laws_FnParts.calls (k : Nat) (A0 : Option Addr) (c0 : Nat) (l0 : List Int) (r : Bool) (w : World) (hr0 : Kd.C (Kd.int .u8) w A0 l0.length l0) (hc0 : l0.length ≤ c0) (hT0 : r = true) (h : laws_FnParts.f k l0) :
    Calls Try.prog 4 #[.slice A0 l0.length c0] w fun e w' => e = .returned (.bool r) ∧ Below w.heap.size w w' := by
  subst hT0
  have hu36 := Try.underlying36
  have hu63 := Try.underlying63
  have HR0 := Aside0.mk hr0
  have HC0 := Aside0.mk hc0
  clear hr0 hc0
  have HB := Aside0.mk (Below.refl w.heap.size w)
  rcases h with AB | ⟨AB, l, q0, q1, q2, q3, q4, xs, xb, AD, AP, h⟩
  · replace AB := Aside0.mk AB
    go_enter Try.func4, Try.ntmps4
    go_wp2_with (first | ((with_reducible refine gate_callee (f := 17) rfl ?_); refine goesL_ (some 23) rfl rfl Try.func17 (by kernel_rfl) rfl #[.slice A0 l0.length c0] rfl (by (try simp only [List.map_toArray, List.map_cons, List.map_nil]); first | done | rfl) ?_; refine (laws_big.calls _ _ l0 _ _ (Kd.C_below HR0.out HB.out) HC0.out AB.out).mono ?_; rintro e w1 ⟨rfl, hdr⟩; refine ⟨_, rfl, ?_⟩; have hb := hdr.below; clear hdr; have n0_ := Aside0.mk (below_step HB.out hb); clear HB  hb; have HB := n0_; clear n0_ ))
    go_ret
    exact ⟨(by first | rfl | (simp [errW_none, errW_some] <;> rfl) | (simp [*, errW_none, errW_some] <;> rfl)), (by repeat (first | (with_reducible first | exact HB.out | apply below_alloc | apply pw_below_drewN | apply below_drew1) | exact HB.out))⟩
  · replace AB := Aside0.mk AB
    replace AD := Aside0.mk AD
    replace AP := Aside0.mk AP
    rcases h with ⟨rfl, AE⟩ | ⟨rfl, d, d2, y0, y1, y2, y3, y4, o0, o1, o2, o3, o4, was, AI, AG1, AS, AG2, AT, h⟩
    · replace AE := Aside0.mk AE
      go_enter Try.func4, Try.ntmps4
      go_upto_region 4 with (first | ((with_reducible refine gate_callee (f := 17) rfl ?_); refine goesL_ (some 23) rfl rfl Try.func17 (by kernel_rfl) rfl #[.slice A0 l0.length c0] rfl (by (try simp only [List.map_toArray, List.map_cons, List.map_nil]); first | done | rfl) ?_; refine (laws_big.calls _ _ l0 _ _ (Kd.C_below HR0.out HB.out) HC0.out AB.out).mono ?_; rintro e w1 ⟨rfl, hdr⟩; refine ⟨_, rfl, ?_⟩; have hb := hdr.below; clear hdr; have n0_ := Aside0.mk (below_step HB.out hb); clear HB  hb; have HB := n0_; clear n0_ ) | ((with_reducible refine gate_callee (f := 18) rfl ?_); refine goesL_ (some 26) rfl rfl Try.func18 (by kernel_rfl) rfl #[.slice A0 l0.length c0] rfl (by (try simp only [List.map_toArray, List.map_cons, List.map_nil]); first | done | rfl) ?_; refine (spec_DrawPutPart.calls k _ _ l0 l q0 q1 q2 q3 q4 _ (Kd.C_below HR0.out HB.out) HC0.out AD.out).mono ?_; rintro e w2 ⟨Al, cl, Aq, cq, rfl, hl1, hl2, hl3, hl4, hb⟩; refine ⟨_, rfl, ?_⟩; have Cl := Aside0.mk hl2; have Ll := Aside0.mk hl1; have Cq := Aside0.mk hl4; have Lq := Aside0.mk hl3; clear hl1 hl2 hl3 hl4; have n0_ := Aside0.mk (below_step HB.out hb); clear HB  hb; have HB := n0_; clear n0_ ))
      obtain ⟨w3, hw_⟩ : ∃ x_, x_ = w2.alloc (.cells #[.int .i64 q0, .slice Aq q1.length cq, .int .i64 q2, .int .i64 q3, .int .i64 q4] 36) := ⟨_, rfl⟩
      have hb : Below w2.heap.size w2 w3 := hw_ ▸ below_alloc (Below.refl _ _) _
      have hx_ : w3.heap[w2.heap.size]? = some (.cells #[.int .i64 q0, .slice Aq q1.length cq, .int .i64 q2, .int .i64 q3, .int .i64 q4] 36 (0, 0)) := hw_ ▸ heap_alloc_new w2 _
      rw [← hw_]
      clear hw_
      obtain ⟨g4, hg_⟩ : ∃ x_, x_ = w2.heap.size := ⟨_, rfl⟩
      rw [← hg_] at hx_ ⊢
      clear hg_
      have K4 := Aside0.mk hx_
      clear hx_
      have n0_ := Aside0.mk (below_step HB.out hb)
      have nCl_ := Aside0.mk (Kd.C_below Cl.out hb)
      have nCq_ := Aside0.mk (Kd.C_below Cq.out hb)
      clear HB Cl Cq hb
      have HB := n0_
      have Cl := nCl_
      have Cq := nCq_
      clear n0_ nCl_ nCq_
      have hzK4 := box5z K4.out
      go_wp2_with (first | ((with_reducible refine gate_callee (f := 11) rfl ?_); refine goesL_ (some 32) rfl rfl Try.func11 (by kernel_rfl) rfl #[.slice Al l.length cl, .agg #[.int .i64 q0, .slice Aq q1.length cq, .int .i64 q2, .int .i64 q3, .int .i64 q4]] rfl (by (try simp only [List.map_toArray, List.map_cons, List.map_nil]); first | done | rfl) ?_; refine (impl_PutPart.calls k _ _ l q0 _ _ q1 q2 q3 q4 xs _ _ Cl.out Ll.out Cq.out Lq.out AP.out).mono ?_; rintro e w4 ⟨v_, rfl, ho0, hb⟩; refine ⟨_, rfl, ?_⟩; obtain ⟨Ax, cx, e_⟩ := Kd.S_slice ho0; subst e_; have Cx := Aside0.mk (Kd.S_reads' ho0).2.2; have Lx := Aside0.mk (Kd.S_reads' ho0).2.1; clear ho0; have n0_ := Aside0.mk (below_step HB.out hb); have nCl_ := Aside0.mk (Kd.C_below Cl.out hb); have nCq_ := Aside0.mk (Kd.C_below Cq.out hb); have nK4_ := Aside0.mk (blk_below K4.out hb); clear HB Cl Cq K4 hb; have HB := n0_; have Cl := nCl_; have Cq := nCq_; have K4 := nK4_; clear n0_ nCl_ nCq_ nK4_; (try clear hzK4); have hzK4 := box5z K4.out) | ((with_reducible refine gate_callee (f := 19) rfl ?_); refine goesL_ (some 39) rfl rfl Try.func19 (by kernel_rfl) rfl #[.slice Ax xs.length cx, .slice Al l.length cl] rfl (by (try simp only [List.map_toArray, List.map_cons, List.map_nil]); first | done | rfl) ?_; refine (impl_EqualStores.calls k _ _ xs _ _ l true _ Cx.out Lx.out Cl.out Ll.out AE.out).mono ?_; rintro e w5 ⟨rfl, hb⟩; refine ⟨_, rfl, ?_⟩; have n0_ := Aside0.mk (below_step HB.out hb); have nCl_ := Aside0.mk (Kd.C_below Cl.out hb); have nCq_ := Aside0.mk (Kd.C_below Cq.out hb); have nK4_ := Aside0.mk (blk_below K4.out hb); have nCx_ := Aside0.mk (Kd.C_below Cx.out hb); clear HB Cl Cq K4 Cx hb; have HB := n0_; have Cl := nCl_; have Cq := nCq_; have K4 := nK4_; have Cx := nCx_; clear n0_ nCl_ nCq_ nK4_ nCx_))
      go_ret
      exact ⟨(by first | rfl | (simp [errW_none, errW_some] <;> rfl) | (simp [*, errW_none, errW_some] <;> rfl)), (by repeat (first | (with_reducible first | exact HB.out | apply below_alloc | apply pw_below_drewN | apply below_drew1) | exact HB.out))⟩
    · replace AI := Aside0.mk AI
      replace AG1 := Aside0.mk AG1
      replace AS := Aside0.mk AS
      replace AG2 := Aside0.mk AG2
      replace AT := Aside0.mk AT
      rcases h with ⟨rfl, AE1, AE2⟩ | ⟨hw, AE2, zs, had, h0, h1, h2, h3, h4, sa, sb, sc, se, sz, s, t, p, AK, AE3, AG3, AA1, AA2, AZ, hsc, hse, hab, AW, AX1, AX2, AX3⟩
      · replace AE1 := Aside0.mk AE1
        replace AE2 := Aside0.mk AE2
        go_enter Try.func4, Try.ntmps4
        go_upto_region 4 with (first | ((with_reducible refine gate_callee (f := 17) rfl ?_); refine goesL_ (some 23) rfl rfl Try.func17 (by kernel_rfl) rfl #[.slice A0 l0.length c0] rfl (by (try simp only [List.map_toArray, List.map_cons, List.map_nil]); first | done | rfl) ?_; refine (laws_big.calls _ _ l0 _ _ (Kd.C_below HR0.out HB.out) HC0.out AB.out).mono ?_; rintro e w1 ⟨rfl, hdr⟩; refine ⟨_, rfl, ?_⟩; have hb := hdr.below; clear hdr; have n0_ := Aside0.mk (below_step HB.out hb); clear HB  hb; have HB := n0_; clear n0_ ) | ((with_reducible refine gate_callee (f := 18) rfl ?_); refine goesL_ (some 26) rfl rfl Try.func18 (by kernel_rfl) rfl #[.slice A0 l0.length c0] rfl (by (try simp only [List.map_toArray, List.map_cons, List.map_nil]); first | done | rfl) ?_; refine (spec_DrawPutPart.calls k _ _ l0 l q0 q1 q2 q3 q4 _ (Kd.C_below HR0.out HB.out) HC0.out AD.out).mono ?_; rintro e w2 ⟨Al, cl, Aq, cq, rfl, hl1, hl2, hl3, hl4, hb⟩; refine ⟨_, rfl, ?_⟩; have Cl := Aside0.mk hl2; have Ll := Aside0.mk hl1; have Cq := Aside0.mk hl4; have Lq := Aside0.mk hl3; clear hl1 hl2 hl3 hl4; have n0_ := Aside0.mk (below_step HB.out hb); clear HB  hb; have HB := n0_; clear n0_ ))
        obtain ⟨w3, hw_⟩ : ∃ x_, x_ = w2.alloc (.cells #[.int .i64 q0, .slice Aq q1.length cq, .int .i64 q2, .int .i64 q3, .int .i64 q4] 36) := ⟨_, rfl⟩
        have hb : Below w2.heap.size w2 w3 := hw_ ▸ below_alloc (Below.refl _ _) _
        have hx_ : w3.heap[w2.heap.size]? = some (.cells #[.int .i64 q0, .slice Aq q1.length cq, .int .i64 q2, .int .i64 q3, .int .i64 q4] 36 (0, 0)) := hw_ ▸ heap_alloc_new w2 _
        rw [← hw_]
        clear hw_
        obtain ⟨g4, hg_⟩ : ∃ x_, x_ = w2.heap.size := ⟨_, rfl⟩
        rw [← hg_] at hx_ ⊢
        clear hg_
        have K4 := Aside0.mk hx_
        clear hx_
        have n0_ := Aside0.mk (below_step HB.out hb)
        have nCl_ := Aside0.mk (Kd.C_below Cl.out hb)
        have nCq_ := Aside0.mk (Kd.C_below Cq.out hb)
        clear HB Cl Cq hb
        have HB := n0_
        have Cl := nCl_
        have Cq := nCq_
        clear n0_ nCl_ nCq_
        have hzK4 := box5z K4.out
        go_upto_region 9 with (first | ((with_reducible refine gate_callee (f := 11) rfl ?_); refine goesL_ (some 32) rfl rfl Try.func11 (by kernel_rfl) rfl #[.slice Al l.length cl, .agg #[.int .i64 q0, .slice Aq q1.length cq, .int .i64 q2, .int .i64 q3, .int .i64 q4]] rfl (by (try simp only [List.map_toArray, List.map_cons, List.map_nil]); first | done | rfl) ?_; refine (impl_PutPart.calls k _ _ l q0 _ _ q1 q2 q3 q4 xs _ _ Cl.out Ll.out Cq.out Lq.out AP.out).mono ?_; rintro e w4 ⟨v_, rfl, ho0, hb⟩; refine ⟨_, rfl, ?_⟩; obtain ⟨Ax, cx, e_⟩ := Kd.S_slice ho0; subst e_; have Cx := Aside0.mk (Kd.S_reads' ho0).2.2; have Lx := Aside0.mk (Kd.S_reads' ho0).2.1; clear ho0; have n0_ := Aside0.mk (below_step HB.out hb); have nCl_ := Aside0.mk (Kd.C_below Cl.out hb); have nCq_ := Aside0.mk (Kd.C_below Cq.out hb); have nK4_ := Aside0.mk (blk_below K4.out hb); clear HB Cl Cq K4 hb; have HB := n0_; have Cl := nCl_; have Cq := nCq_; have K4 := nK4_; clear n0_ nCl_ nCq_ nK4_; (try clear hzK4); have hzK4 := box5z K4.out) | ((with_reducible refine gate_callee (f := 20) rfl ?_); refine goesL_ (some 41) rfl rfl Try.func20 (by kernel_rfl) rfl #[.agg #[.int .i64 q0, .slice Aq q1.length cq, .int .i64 q2, .int .i64 q3, .int .i64 q4]] rfl (by (try simp only [List.map_toArray, List.map_cons, List.map_nil]); first | done | rfl) ?_; refine (impl_DigestOf.calls k q0 _ _ q1 q2 q3 q4 d _ Cq.out Lq.out AI.out).mono ?_; rintro e w5 ⟨rfl, hb⟩; refine ⟨_, rfl, ?_⟩; have n0_ := Aside0.mk (below_step HB.out hb); have nCl_ := Aside0.mk (Kd.C_below Cl.out hb); have nCq_ := Aside0.mk (Kd.C_below Cq.out hb); have nK4_ := Aside0.mk (blk_below K4.out hb); have nCx_ := Aside0.mk (Kd.C_below Cx.out hb); clear HB Cl Cq K4 Cx hb; have HB := n0_; have Cl := nCl_; have Cq := nCq_; have K4 := nK4_; have Cx := nCx_; clear n0_ nCl_ nCq_ nK4_ nCx_; (try clear hzK4); have hzK4 := box5z K4.out) | ((with_reducible refine gate_callee (f := 21) rfl ?_); refine goesL_ (some 45) rfl rfl Try.func21 (by kernel_rfl) rfl #[.slice Ax xs.length cx, .int .i64 d] rfl (by (try simp only [List.map_toArray, List.map_cons, List.map_nil]); first | done | rfl) ?_; refine (impl_GetPart.calls k _ _ xs d y0 y1 y2 y3 y4 true _ Cx.out Lx.out AG1.out).mono ?_; rintro e w6 ⟨v_, rfl, ho0, hb⟩; refine ⟨_, rfl, ?_⟩; obtain ⟨Ay, cy, e_⟩ := Kd.R_slice ho0; subst e_; have Cy := Aside0.mk (Kd.R_reads' ho0).2.2; have Ly := Aside0.mk (Kd.R_reads' ho0).2.1; clear ho0; have n0_ := Aside0.mk (below_step HB.out hb); have nCl_ := Aside0.mk (Kd.C_below Cl.out hb); have nCq_ := Aside0.mk (Kd.C_below Cq.out hb); have nK4_ := Aside0.mk (blk_below K4.out hb); have nCx_ := Aside0.mk (Kd.C_below Cx.out hb); clear HB Cl Cq K4 Cx hb; have HB := n0_; have Cl := nCl_; have Cq := nCq_; have K4 := nK4_; have Cx := nCx_; clear n0_ nCl_ nCq_ nK4_ nCx_; (try clear hzK4); have hzK4 := box5z K4.out))
        obtain ⟨w7, hw_⟩ : ∃ x_, x_ = w6.alloc (.cells #[.int .i64 y0, .slice Ay y1.length cy, .int .i64 y2, .int .i64 y3, .int .i64 y4] 36) := ⟨_, rfl⟩
        have hb : Below w6.heap.size w6 w7 := hw_ ▸ below_alloc (Below.refl _ _) _
        have hx_ : w7.heap[w6.heap.size]? = some (.cells #[.int .i64 y0, .slice Ay y1.length cy, .int .i64 y2, .int .i64 y3, .int .i64 y4] 36 (0, 0)) := hw_ ▸ heap_alloc_new w6 _
        rw [← hw_]
        clear hw_
        obtain ⟨g8, hg_⟩ : ∃ x_, x_ = w6.heap.size := ⟨_, rfl⟩
        rw [← hg_] at hx_ ⊢
        clear hg_
        have K8 := Aside0.mk hx_
        clear hx_
        have n0_ := Aside0.mk (below_step HB.out hb)
        have nCl_ := Aside0.mk (Kd.C_below Cl.out hb)
        have nCq_ := Aside0.mk (Kd.C_below Cq.out hb)
        have nK4_ := Aside0.mk (blk_below K4.out hb)
        have nCx_ := Aside0.mk (Kd.C_below Cx.out hb)
        have nCy_ := Aside0.mk (Kd.C_below Cy.out hb)
        clear HB Cl Cq K4 Cx Cy hb
        have HB := n0_
        have Cl := nCl_
        have Cq := nCq_
        have K4 := nK4_
        have Cx := nCx_
        have Cy := nCy_
        clear n0_ nCl_ nCq_ nK4_ nCx_ nCy_
        (try clear hzK4)
        have hzK4 := box5z K4.out
        have hzK8 := box5z K8.out
        go_upto_region 10 with (first | ((with_reducible refine gate_callee (f := 23) rfl ?_); refine goesL_ (some 51) rfl rfl Try.func23 (by kernel_rfl) rfl #[.agg #[.int .i64 q0, .slice Aq q1.length cq, .int .i64 q2, .int .i64 q3, .int .i64 q4]] rfl (by (try simp only [List.map_toArray, List.map_cons, List.map_nil]); first | done | rfl) ?_; refine (spec_DigestOf.calls k q0 _ _ q1 q2 q3 q4 d2 _ Cq.out Lq.out AS.out).mono ?_; rintro e w8 ⟨rfl, hb⟩; refine ⟨_, rfl, ?_⟩; have n0_ := Aside0.mk (below_step HB.out hb); have nCl_ := Aside0.mk (Kd.C_below Cl.out hb); have nCq_ := Aside0.mk (Kd.C_below Cq.out hb); have nK4_ := Aside0.mk (blk_below K4.out hb); have nCx_ := Aside0.mk (Kd.C_below Cx.out hb); have nCy_ := Aside0.mk (Kd.C_below Cy.out hb); have nK8_ := Aside0.mk (blk_below K8.out hb); clear HB Cl Cq K4 Cx Cy K8 hb; have HB := n0_; have Cl := nCl_; have Cq := nCq_; have K4 := nK4_; have Cx := nCx_; have Cy := nCy_; have K8 := nK8_; clear n0_ nCl_ nCq_ nK4_ nCx_ nCy_ nK8_; (try clear hzK4); have hzK4 := box5z K4.out) | ((with_reducible refine gate_callee (f := 22) rfl ?_); refine goesL_ (some 52) rfl rfl Try.func22 (by kernel_rfl) rfl #[.slice Al l.length cl, .int .i64 d2] rfl (by (try simp only [List.map_toArray, List.map_cons, List.map_nil]); first | done | rfl) ?_; refine (spec_GetPart.calls k _ _ l d2 o0 o1 o2 o3 o4 _ _ Cl.out Ll.out AG2.out).mono ?_; rintro e w9 ⟨v_, rfl, ho0, hb⟩; refine ⟨_, rfl, ?_⟩; obtain ⟨Ao, co, e_⟩ := Kd.R_slice ho0; subst e_; have Co := Aside0.mk (Kd.R_reads' ho0).2.2; have Lo := Aside0.mk (Kd.R_reads' ho0).2.1; clear ho0; have n0_ := Aside0.mk (below_step HB.out hb); have nCl_ := Aside0.mk (Kd.C_below Cl.out hb); have nCq_ := Aside0.mk (Kd.C_below Cq.out hb); have nK4_ := Aside0.mk (blk_below K4.out hb); have nCx_ := Aside0.mk (Kd.C_below Cx.out hb); have nCy_ := Aside0.mk (Kd.C_below Cy.out hb); have nK8_ := Aside0.mk (blk_below K8.out hb); clear HB Cl Cq K4 Cx Cy K8 hb; have HB := n0_; have Cl := nCl_; have Cq := nCq_; have K4 := nK4_; have Cx := nCx_; have Cy := nCy_; have K8 := nK8_; clear n0_ nCl_ nCq_ nK4_ nCx_ nCy_ nK8_; (try clear hzK4); have hzK4 := box5z K4.out))
        obtain ⟨w10, hw_⟩ : ∃ x_, x_ = w9.alloc (.cells #[.int .i64 o0, .slice Ao o1.length co, .int .i64 o2, .int .i64 o3, .int .i64 o4] 36) := ⟨_, rfl⟩
        have hb : Below w9.heap.size w9 w10 := hw_ ▸ below_alloc (Below.refl _ _) _
        have hx_ : w10.heap[w9.heap.size]? = some (.cells #[.int .i64 o0, .slice Ao o1.length co, .int .i64 o2, .int .i64 o3, .int .i64 o4] 36 (0, 0)) := hw_ ▸ heap_alloc_new w9 _
        rw [← hw_]
        clear hw_
        obtain ⟨g10, hg_⟩ : ∃ x_, x_ = w9.heap.size := ⟨_, rfl⟩
        rw [← hg_] at hx_ ⊢
        clear hg_
        have K10 := Aside0.mk hx_
        clear hx_
        have n0_ := Aside0.mk (below_step HB.out hb)
        have nCl_ := Aside0.mk (Kd.C_below Cl.out hb)
        have nCq_ := Aside0.mk (Kd.C_below Cq.out hb)
        have nK4_ := Aside0.mk (blk_below K4.out hb)
        have nCx_ := Aside0.mk (Kd.C_below Cx.out hb)
        have nCy_ := Aside0.mk (Kd.C_below Cy.out hb)
        have nK8_ := Aside0.mk (blk_below K8.out hb)
        have nCo_ := Aside0.mk (Kd.C_below Co.out hb)
        clear HB Cl Cq K4 Cx Cy K8 Co hb
        have HB := n0_
        have Cl := nCl_
        have Cq := nCq_
        have K4 := nK4_
        have Cx := nCx_
        have Cy := nCy_
        have K8 := nK8_
        have Co := nCo_
        clear n0_ nCl_ nCq_ nK4_ nCx_ nCy_ nK8_ nCo_
        (try clear hzK4)
        have hzK4 := box5z K4.out
        (try clear hzK8)
        have hzK8 := box5z K8.out
        have hzK10 := box5z K10.out
        go_wp2_with (first | (go_at_call 24; refine (spec_EqualResources.calls k o0 _ _ o1 o2 o3 o4 q0 _ _ q1 q2 q3 q4 false _ Co.out Lo.out Cq.out Lq.out AE1.out).mono ?_; rintro e w11 ⟨rfl, hb⟩; have n0_ := Aside0.mk (below_step HB.out hb); have nCl_ := Aside0.mk (Kd.C_below Cl.out hb); have nCq_ := Aside0.mk (Kd.C_below Cq.out hb); have nK4_ := Aside0.mk (blk_below K4.out hb); have nCx_ := Aside0.mk (Kd.C_below Cx.out hb); have nCy_ := Aside0.mk (Kd.C_below Cy.out hb); have nK8_ := Aside0.mk (blk_below K8.out hb); have nCo_ := Aside0.mk (Kd.C_below Co.out hb); have nK10_ := Aside0.mk (blk_below K10.out hb); clear HB Cl Cq K4 Cx Cy K8 Co K10 hb; have HB := n0_; have Cl := nCl_; have Cq := nCq_; have K4 := nK4_; have Cx := nCx_; have Cy := nCy_; have K8 := nK8_; have Co := nCo_; have K10 := nK10_; clear n0_ nCl_ nCq_ nK4_ nCx_ nCy_ nK8_ nCo_ nK10_; (try clear hzK4); have hzK4 := box5z K4.out; (try clear hzK8); have hzK8 := box5z K8.out; (try clear hzK10); have hzK10 := box5z K10.out) | ((with_reducible refine gate_callee (f := 25) rfl ?_); refine goesL_ (some 63) rfl rfl Try.func25 (by kernel_rfl) rfl #[.slice Ax xs.length cx] rfl (by (try simp only [List.map_toArray, List.map_cons, List.map_nil]); first | done | rfl) ?_; refine (impl_IsStore.calls k _ _ xs true _ Cx.out Lx.out AT.out).mono ?_; rintro e w12 ⟨rfl, hb⟩; refine ⟨_, rfl, ?_⟩; have n0_ := Aside0.mk (below_step HB.out hb); have nCl_ := Aside0.mk (Kd.C_below Cl.out hb); have nCq_ := Aside0.mk (Kd.C_below Cq.out hb); have nK4_ := Aside0.mk (blk_below K4.out hb); have nCx_ := Aside0.mk (Kd.C_below Cx.out hb); have nCy_ := Aside0.mk (Kd.C_below Cy.out hb); have nK8_ := Aside0.mk (blk_below K8.out hb); have nCo_ := Aside0.mk (Kd.C_below Co.out hb); have nK10_ := Aside0.mk (blk_below K10.out hb); clear HB Cl Cq K4 Cx Cy K8 Co K10 hb; have HB := n0_; have Cl := nCl_; have Cq := nCq_; have K4 := nK4_; have Cx := nCx_; have Cy := nCy_; have K8 := nK8_; have Co := nCo_; have K10 := nK10_; clear n0_ nCl_ nCq_ nK4_ nCx_ nCy_ nK8_ nCo_ nK10_; (try clear hzK4); have hzK4 := box5z K4.out; (try clear hzK8); have hzK8 := box5z K8.out; (try clear hzK10); have hzK10 := box5z K10.out) | (go_at_call 26; refine (impl_EqualResources.calls k y0 _ _ y1 y2 y3 y4 o0 _ _ o1 o2 o3 o4 true _ Cy.out Ly.out Co.out Lo.out AE2.out).mono ?_; rintro e w13 ⟨rfl, hb⟩; have n0_ := Aside0.mk (below_step HB.out hb); have nCl_ := Aside0.mk (Kd.C_below Cl.out hb); have nCq_ := Aside0.mk (Kd.C_below Cq.out hb); have nK4_ := Aside0.mk (blk_below K4.out hb); have nCx_ := Aside0.mk (Kd.C_below Cx.out hb); have nCy_ := Aside0.mk (Kd.C_below Cy.out hb); have nK8_ := Aside0.mk (blk_below K8.out hb); have nCo_ := Aside0.mk (Kd.C_below Co.out hb); have nK10_ := Aside0.mk (blk_below K10.out hb); clear HB Cl Cq K4 Cx Cy K8 Co K10 hb; have HB := n0_; have Cl := nCl_; have Cq := nCq_; have K4 := nK4_; have Cx := nCx_; have Cy := nCy_; have K8 := nK8_; have Co := nCo_; have K10 := nK10_; clear n0_ nCl_ nCq_ nK4_ nCx_ nCy_ nK8_ nCo_ nK10_; (try clear hzK4); have hzK4 := box5z K4.out; (try clear hzK8); have hzK8 := box5z K8.out; (try clear hzK10); have hzK10 := box5z K10.out))
        go_ret
        exact ⟨(by first | rfl | (simp [errW_none, errW_some] <;> rfl) | (simp [*, errW_none, errW_some] <;> rfl)), (by repeat (first | (with_reducible first | exact HB.out | apply below_alloc | apply pw_below_drewN | apply below_drew1) | exact HB.out))⟩
      · replace AE2 := Aside0.mk AE2
        replace AK := Aside0.mk AK
        replace AE3 := Aside0.mk AE3
        replace AG3 := Aside0.mk AG3
        replace AA1 := Aside0.mk AA1
        replace AA2 := Aside0.mk AA2
        replace AZ := Aside0.mk AZ
        replace AW := Aside0.mk AW
        replace AX1 := Aside0.mk AX1
        replace AX2 := Aside0.mk AX2
        replace AX3 := Aside0.mk AX3
        subst hse
        have b1 : decide (sa > sb) = false := decide_eq_false (by omega)
        clear hab
        rcases hw with ⟨rfl, AE1⟩ | rfl
        case' inl => replace AE1 := Aside0.mk AE1
        all_goals cases had
        case' inl.true | inr.true => obtain rfl : sc = sa := by simpa using hsc
        case' inl.false | inr.false => obtain rfl : sc = wrap64 (sa + sz) := by simpa using hsc
        all_goals (
          go_enter Try.func4, Try.ntmps4
          go_upto_region 4 with (first | ((with_reducible refine gate_callee (f := 17) rfl ?_); refine goesL_ (some 23) rfl rfl Try.func17 (by kernel_rfl) rfl #[.slice A0 l0.length c0] rfl (by (try simp only [List.map_toArray, List.map_cons, List.map_nil]); first | done | rfl) ?_; refine (laws_big.calls _ _ l0 _ _ (Kd.C_below HR0.out HB.out) HC0.out AB.out).mono ?_; rintro e w1 ⟨rfl, hdr⟩; refine ⟨_, rfl, ?_⟩; have hb := hdr.below; clear hdr; have n0_ := Aside0.mk (below_step HB.out hb); clear HB  hb; have HB := n0_; clear n0_ ) | ((with_reducible refine gate_callee (f := 18) rfl ?_); refine goesL_ (some 26) rfl rfl Try.func18 (by kernel_rfl) rfl #[.slice A0 l0.length c0] rfl (by (try simp only [List.map_toArray, List.map_cons, List.map_nil]); first | done | rfl) ?_; refine (spec_DrawPutPart.calls k _ _ l0 l q0 q1 q2 q3 q4 _ (Kd.C_below HR0.out HB.out) HC0.out AD.out).mono ?_; rintro e w2 ⟨Al, cl, Aq, cq, rfl, hl1, hl2, hl3, hl4, hb⟩; refine ⟨_, rfl, ?_⟩; have Cl := Aside0.mk hl2; have Ll := Aside0.mk hl1; have Cq := Aside0.mk hl4; have Lq := Aside0.mk hl3; clear hl1 hl2 hl3 hl4; have n0_ := Aside0.mk (below_step HB.out hb); clear HB  hb; have HB := n0_; clear n0_ ))
          obtain ⟨w3, hw_⟩ : ∃ x_, x_ = w2.alloc (.cells #[.int .i64 q0, .slice Aq q1.length cq, .int .i64 q2, .int .i64 q3, .int .i64 q4] 36) := ⟨_, rfl⟩
          have hb : Below w2.heap.size w2 w3 := hw_ ▸ below_alloc (Below.refl _ _) _
          have hx_ : w3.heap[w2.heap.size]? = some (.cells #[.int .i64 q0, .slice Aq q1.length cq, .int .i64 q2, .int .i64 q3, .int .i64 q4] 36 (0, 0)) := hw_ ▸ heap_alloc_new w2 _
          rw [← hw_]
          clear hw_
          obtain ⟨g4, hg_⟩ : ∃ x_, x_ = w2.heap.size := ⟨_, rfl⟩
          rw [← hg_] at hx_ ⊢
          clear hg_
          have K4 := Aside0.mk hx_
          clear hx_
          have n0_ := Aside0.mk (below_step HB.out hb)
          have nCl_ := Aside0.mk (Kd.C_below Cl.out hb)
          have nCq_ := Aside0.mk (Kd.C_below Cq.out hb)
          clear HB Cl Cq hb
          have HB := n0_
          have Cl := nCl_
          have Cq := nCq_
          clear n0_ nCl_ nCq_
          have hzK4 := box5z K4.out
          go_upto_region 9 with (first | ((with_reducible refine gate_callee (f := 11) rfl ?_); refine goesL_ (some 32) rfl rfl Try.func11 (by kernel_rfl) rfl #[.slice Al l.length cl, .agg #[.int .i64 q0, .slice Aq q1.length cq, .int .i64 q2, .int .i64 q3, .int .i64 q4]] rfl (by (try simp only [List.map_toArray, List.map_cons, List.map_nil]); first | done | rfl) ?_; refine (impl_PutPart.calls k _ _ l q0 _ _ q1 q2 q3 q4 xs _ _ Cl.out Ll.out Cq.out Lq.out AP.out).mono ?_; rintro e w4 ⟨v_, rfl, ho0, hb⟩; refine ⟨_, rfl, ?_⟩; obtain ⟨Ax, cx, e_⟩ := Kd.S_slice ho0; subst e_; have Cx := Aside0.mk (Kd.S_reads' ho0).2.2; have Lx := Aside0.mk (Kd.S_reads' ho0).2.1; clear ho0; have n0_ := Aside0.mk (below_step HB.out hb); have nCl_ := Aside0.mk (Kd.C_below Cl.out hb); have nCq_ := Aside0.mk (Kd.C_below Cq.out hb); have nK4_ := Aside0.mk (blk_below K4.out hb); clear HB Cl Cq K4 hb; have HB := n0_; have Cl := nCl_; have Cq := nCq_; have K4 := nK4_; clear n0_ nCl_ nCq_ nK4_; (try clear hzK4); have hzK4 := box5z K4.out) | ((with_reducible refine gate_callee (f := 20) rfl ?_); refine goesL_ (some 41) rfl rfl Try.func20 (by kernel_rfl) rfl #[.agg #[.int .i64 q0, .slice Aq q1.length cq, .int .i64 q2, .int .i64 q3, .int .i64 q4]] rfl (by (try simp only [List.map_toArray, List.map_cons, List.map_nil]); first | done | rfl) ?_; refine (impl_DigestOf.calls k q0 _ _ q1 q2 q3 q4 d _ Cq.out Lq.out AI.out).mono ?_; rintro e w5 ⟨rfl, hb⟩; refine ⟨_, rfl, ?_⟩; have n0_ := Aside0.mk (below_step HB.out hb); have nCl_ := Aside0.mk (Kd.C_below Cl.out hb); have nCq_ := Aside0.mk (Kd.C_below Cq.out hb); have nK4_ := Aside0.mk (blk_below K4.out hb); have nCx_ := Aside0.mk (Kd.C_below Cx.out hb); clear HB Cl Cq K4 Cx hb; have HB := n0_; have Cl := nCl_; have Cq := nCq_; have K4 := nK4_; have Cx := nCx_; clear n0_ nCl_ nCq_ nK4_ nCx_; (try clear hzK4); have hzK4 := box5z K4.out) | ((with_reducible refine gate_callee (f := 21) rfl ?_); refine goesL_ (some 45) rfl rfl Try.func21 (by kernel_rfl) rfl #[.slice Ax xs.length cx, .int .i64 d] rfl (by (try simp only [List.map_toArray, List.map_cons, List.map_nil]); first | done | rfl) ?_; refine (impl_GetPart.calls k _ _ xs d y0 y1 y2 y3 y4 true _ Cx.out Lx.out AG1.out).mono ?_; rintro e w6 ⟨v_, rfl, ho0, hb⟩; refine ⟨_, rfl, ?_⟩; obtain ⟨Ay, cy, e_⟩ := Kd.R_slice ho0; subst e_; have Cy := Aside0.mk (Kd.R_reads' ho0).2.2; have Ly := Aside0.mk (Kd.R_reads' ho0).2.1; clear ho0; have n0_ := Aside0.mk (below_step HB.out hb); have nCl_ := Aside0.mk (Kd.C_below Cl.out hb); have nCq_ := Aside0.mk (Kd.C_below Cq.out hb); have nK4_ := Aside0.mk (blk_below K4.out hb); have nCx_ := Aside0.mk (Kd.C_below Cx.out hb); clear HB Cl Cq K4 Cx hb; have HB := n0_; have Cl := nCl_; have Cq := nCq_; have K4 := nK4_; have Cx := nCx_; clear n0_ nCl_ nCq_ nK4_ nCx_; (try clear hzK4); have hzK4 := box5z K4.out))
          obtain ⟨w7, hw_⟩ : ∃ x_, x_ = w6.alloc (.cells #[.int .i64 y0, .slice Ay y1.length cy, .int .i64 y2, .int .i64 y3, .int .i64 y4] 36) := ⟨_, rfl⟩
          have hb : Below w6.heap.size w6 w7 := hw_ ▸ below_alloc (Below.refl _ _) _
          have hx_ : w7.heap[w6.heap.size]? = some (.cells #[.int .i64 y0, .slice Ay y1.length cy, .int .i64 y2, .int .i64 y3, .int .i64 y4] 36 (0, 0)) := hw_ ▸ heap_alloc_new w6 _
          rw [← hw_]
          clear hw_
          obtain ⟨g8, hg_⟩ : ∃ x_, x_ = w6.heap.size := ⟨_, rfl⟩
          rw [← hg_] at hx_ ⊢
          clear hg_
          have K8 := Aside0.mk hx_
          clear hx_
          have n0_ := Aside0.mk (below_step HB.out hb)
          have nCl_ := Aside0.mk (Kd.C_below Cl.out hb)
          have nCq_ := Aside0.mk (Kd.C_below Cq.out hb)
          have nK4_ := Aside0.mk (blk_below K4.out hb)
          have nCx_ := Aside0.mk (Kd.C_below Cx.out hb)
          have nCy_ := Aside0.mk (Kd.C_below Cy.out hb)
          clear HB Cl Cq K4 Cx Cy hb
          have HB := n0_
          have Cl := nCl_
          have Cq := nCq_
          have K4 := nK4_
          have Cx := nCx_
          have Cy := nCy_
          clear n0_ nCl_ nCq_ nK4_ nCx_ nCy_
          (try clear hzK4)
          have hzK4 := box5z K4.out
          have hzK8 := box5z K8.out
          go_upto_region 10 with (first | ((with_reducible refine gate_callee (f := 23) rfl ?_); refine goesL_ (some 51) rfl rfl Try.func23 (by kernel_rfl) rfl #[.agg #[.int .i64 q0, .slice Aq q1.length cq, .int .i64 q2, .int .i64 q3, .int .i64 q4]] rfl (by (try simp only [List.map_toArray, List.map_cons, List.map_nil]); first | done | rfl) ?_; refine (spec_DigestOf.calls k q0 _ _ q1 q2 q3 q4 d2 _ Cq.out Lq.out AS.out).mono ?_; rintro e w8 ⟨rfl, hb⟩; refine ⟨_, rfl, ?_⟩; have n0_ := Aside0.mk (below_step HB.out hb); have nCl_ := Aside0.mk (Kd.C_below Cl.out hb); have nCq_ := Aside0.mk (Kd.C_below Cq.out hb); have nK4_ := Aside0.mk (blk_below K4.out hb); have nCx_ := Aside0.mk (Kd.C_below Cx.out hb); have nCy_ := Aside0.mk (Kd.C_below Cy.out hb); have nK8_ := Aside0.mk (blk_below K8.out hb); clear HB Cl Cq K4 Cx Cy K8 hb; have HB := n0_; have Cl := nCl_; have Cq := nCq_; have K4 := nK4_; have Cx := nCx_; have Cy := nCy_; have K8 := nK8_; clear n0_ nCl_ nCq_ nK4_ nCx_ nCy_ nK8_; (try clear hzK4); have hzK4 := box5z K4.out) | ((with_reducible refine gate_callee (f := 22) rfl ?_); refine goesL_ (some 52) rfl rfl Try.func22 (by kernel_rfl) rfl #[.slice Al l.length cl, .int .i64 d2] rfl (by (try simp only [List.map_toArray, List.map_cons, List.map_nil]); first | done | rfl) ?_; refine (spec_GetPart.calls k _ _ l d2 o0 o1 o2 o3 o4 _ _ Cl.out Ll.out AG2.out).mono ?_; rintro e w9 ⟨v_, rfl, ho0, hb⟩; refine ⟨_, rfl, ?_⟩; obtain ⟨Ao, co, e_⟩ := Kd.R_slice ho0; subst e_; have Co := Aside0.mk (Kd.R_reads' ho0).2.2; have Lo := Aside0.mk (Kd.R_reads' ho0).2.1; clear ho0; have n0_ := Aside0.mk (below_step HB.out hb); have nCl_ := Aside0.mk (Kd.C_below Cl.out hb); have nCq_ := Aside0.mk (Kd.C_below Cq.out hb); have nK4_ := Aside0.mk (blk_below K4.out hb); have nCx_ := Aside0.mk (Kd.C_below Cx.out hb); have nCy_ := Aside0.mk (Kd.C_below Cy.out hb); have nK8_ := Aside0.mk (blk_below K8.out hb); clear HB Cl Cq K4 Cx Cy K8 hb; have HB := n0_; have Cl := nCl_; have Cq := nCq_; have K4 := nK4_; have Cx := nCx_; have Cy := nCy_; have K8 := nK8_; clear n0_ nCl_ nCq_ nK4_ nCx_ nCy_ nK8_; (try clear hzK4); have hzK4 := box5z K4.out))
          obtain ⟨w10, hw_⟩ : ∃ x_, x_ = w9.alloc (.cells #[.int .i64 o0, .slice Ao o1.length co, .int .i64 o2, .int .i64 o3, .int .i64 o4] 36) := ⟨_, rfl⟩
          have hb : Below w9.heap.size w9 w10 := hw_ ▸ below_alloc (Below.refl _ _) _
          have hx_ : w10.heap[w9.heap.size]? = some (.cells #[.int .i64 o0, .slice Ao o1.length co, .int .i64 o2, .int .i64 o3, .int .i64 o4] 36 (0, 0)) := hw_ ▸ heap_alloc_new w9 _
          rw [← hw_]
          clear hw_
          obtain ⟨g10, hg_⟩ : ∃ x_, x_ = w9.heap.size := ⟨_, rfl⟩
          rw [← hg_] at hx_ ⊢
          clear hg_
          have K10 := Aside0.mk hx_
          clear hx_
          have n0_ := Aside0.mk (below_step HB.out hb)
          have nCl_ := Aside0.mk (Kd.C_below Cl.out hb)
          have nCq_ := Aside0.mk (Kd.C_below Cq.out hb)
          have nK4_ := Aside0.mk (blk_below K4.out hb)
          have nCx_ := Aside0.mk (Kd.C_below Cx.out hb)
          have nCy_ := Aside0.mk (Kd.C_below Cy.out hb)
          have nK8_ := Aside0.mk (blk_below K8.out hb)
          have nCo_ := Aside0.mk (Kd.C_below Co.out hb)
          clear HB Cl Cq K4 Cx Cy K8 Co hb
          have HB := n0_
          have Cl := nCl_
          have Cq := nCq_
          have K4 := nK4_
          have Cx := nCx_
          have Cy := nCy_
          have K8 := nK8_
          have Co := nCo_
          clear n0_ nCl_ nCq_ nK4_ nCx_ nCy_ nK8_ nCo_
          (try clear hzK4)
          have hzK4 := box5z K4.out
          (try clear hzK8)
          have hzK8 := box5z K8.out
          have hzK10 := box5z K10.out
          go_upto_region 14 with (first | (go_at_call 24; refine (spec_EqualResources.calls k o0 _ _ o1 o2 o3 o4 q0 _ _ q1 q2 q3 q4 true _ Co.out Lo.out Cq.out Lq.out AE1.out).mono ?_; rintro e w11 ⟨rfl, hb⟩; have n0_ := Aside0.mk (below_step HB.out hb); have nCl_ := Aside0.mk (Kd.C_below Cl.out hb); have nCq_ := Aside0.mk (Kd.C_below Cq.out hb); have nK4_ := Aside0.mk (blk_below K4.out hb); have nCx_ := Aside0.mk (Kd.C_below Cx.out hb); have nCy_ := Aside0.mk (Kd.C_below Cy.out hb); have nK8_ := Aside0.mk (blk_below K8.out hb); have nCo_ := Aside0.mk (Kd.C_below Co.out hb); have nK10_ := Aside0.mk (blk_below K10.out hb); clear HB Cl Cq K4 Cx Cy K8 Co K10 hb; have HB := n0_; have Cl := nCl_; have Cq := nCq_; have K4 := nK4_; have Cx := nCx_; have Cy := nCy_; have K8 := nK8_; have Co := nCo_; have K10 := nK10_; clear n0_ nCl_ nCq_ nK4_ nCx_ nCy_ nK8_ nCo_ nK10_; (try clear hzK4); have hzK4 := box5z K4.out; (try clear hzK8); have hzK8 := box5z K8.out; (try clear hzK10); have hzK10 := box5z K10.out) | ((with_reducible refine gate_callee (f := 25) rfl ?_); refine goesL_ (some 73) rfl rfl Try.func25 (by kernel_rfl) rfl #[.slice Ax xs.length cx] rfl (by (try simp only [List.map_toArray, List.map_cons, List.map_nil]); first | done | rfl) ?_; refine (impl_IsStore.calls k _ _ xs true _ Cx.out Lx.out AT.out).mono ?_; rintro e w12 ⟨rfl, hb⟩; refine ⟨_, rfl, ?_⟩; have n0_ := Aside0.mk (below_step HB.out hb); have nCl_ := Aside0.mk (Kd.C_below Cl.out hb); have nCq_ := Aside0.mk (Kd.C_below Cq.out hb); have nK4_ := Aside0.mk (blk_below K4.out hb); have nCx_ := Aside0.mk (Kd.C_below Cx.out hb); have nCy_ := Aside0.mk (Kd.C_below Cy.out hb); have nK8_ := Aside0.mk (blk_below K8.out hb); have nCo_ := Aside0.mk (Kd.C_below Co.out hb); have nK10_ := Aside0.mk (blk_below K10.out hb); clear HB Cl Cq K4 Cx Cy K8 Co K10 hb; have HB := n0_; have Cl := nCl_; have Cq := nCq_; have K4 := nK4_; have Cx := nCx_; have Cy := nCy_; have K8 := nK8_; have Co := nCo_; have K10 := nK10_; clear n0_ nCl_ nCq_ nK4_ nCx_ nCy_ nK8_ nCo_ nK10_; (try clear hzK4); have hzK4 := box5z K4.out; (try clear hzK8); have hzK8 := box5z K8.out; (try clear hzK10); have hzK10 := box5z K10.out) | (go_at_call 26; refine (impl_EqualResources.calls k y0 _ _ y1 y2 y3 y4 q0 _ _ q1 q2 q3 q4 true _ Cy.out Ly.out Cq.out Lq.out AE2.out).mono ?_; rintro e w13 ⟨rfl, hb⟩; have n0_ := Aside0.mk (below_step HB.out hb); have nCl_ := Aside0.mk (Kd.C_below Cl.out hb); have nCq_ := Aside0.mk (Kd.C_below Cq.out hb); have nK4_ := Aside0.mk (blk_below K4.out hb); have nCx_ := Aside0.mk (Kd.C_below Cx.out hb); have nCy_ := Aside0.mk (Kd.C_below Cy.out hb); have nK8_ := Aside0.mk (blk_below K8.out hb); have nCo_ := Aside0.mk (Kd.C_below Co.out hb); have nK10_ := Aside0.mk (blk_below K10.out hb); clear HB Cl Cq K4 Cx Cy K8 Co K10 hb; have HB := n0_; have Cl := nCl_; have Cq := nCq_; have K4 := nK4_; have Cx := nCx_; have Cy := nCy_; have K8 := nK8_; have Co := nCo_; have K10 := nK10_; clear n0_ nCl_ nCq_ nK4_ nCx_ nCy_ nK8_ nCo_ nK10_; (try clear hzK4); have hzK4 := box5z K4.out; (try clear hzK8); have hzK8 := box5z K8.out; (try clear hzK10); have hzK10 := box5z K10.out))
          go_upto_region 17 with (first | ((with_reducible refine gate_callee (f := 27) rfl ?_); refine goesL_ (some 88) rfl rfl Try.func27 (by kernel_rfl) rfl #[.slice Ax xs.length cx, .int .i64 d] rfl (by (try simp only [List.map_toArray, List.map_cons, List.map_nil]); first | done | rfl) ?_; refine (impl_TakePart.calls k _ _ xs d zs true _ Cx.out Lx.out AK.out).mono ?_; rintro e w14 ⟨v_, rfl, ho0, hb⟩; refine ⟨_, rfl, ?_⟩; obtain ⟨Az, cz, e_⟩ := Kd.S_slice ho0; subst e_; have Cz := Aside0.mk (Kd.S_reads' ho0).2.2; have Lz := Aside0.mk (Kd.S_reads' ho0).2.1; clear ho0; have n0_ := Aside0.mk (below_step HB.out hb); have nCl_ := Aside0.mk (Kd.C_below Cl.out hb); have nCq_ := Aside0.mk (Kd.C_below Cq.out hb); have nK4_ := Aside0.mk (blk_below K4.out hb); have nCx_ := Aside0.mk (Kd.C_below Cx.out hb); have nCy_ := Aside0.mk (Kd.C_below Cy.out hb); have nK8_ := Aside0.mk (blk_below K8.out hb); have nCo_ := Aside0.mk (Kd.C_below Co.out hb); have nK10_ := Aside0.mk (blk_below K10.out hb); clear HB Cl Cq K4 Cx Cy K8 Co K10 hb; have HB := n0_; have Cl := nCl_; have Cq := nCq_; have K4 := nK4_; have Cx := nCx_; have Cy := nCy_; have K8 := nK8_; have Co := nCo_; have K10 := nK10_; clear n0_ nCl_ nCq_ nK4_ nCx_ nCy_ nK8_ nCo_ nK10_; (try clear hzK4); have hzK4 := box5z K4.out; (try clear hzK8); have hzK8 := box5z K8.out; (try clear hzK10); have hzK10 := box5z K10.out) | (go_at_call 19; refine (impl_EqualStores.calls k _ _ zs _ _ l true _ Cz.out Lz.out Cl.out Ll.out AE3.out).mono ?_; rintro e w15 ⟨rfl, hb⟩; have n0_ := Aside0.mk (below_step HB.out hb); have nCl_ := Aside0.mk (Kd.C_below Cl.out hb); have nCq_ := Aside0.mk (Kd.C_below Cq.out hb); have nK4_ := Aside0.mk (blk_below K4.out hb); have nCx_ := Aside0.mk (Kd.C_below Cx.out hb); have nCy_ := Aside0.mk (Kd.C_below Cy.out hb); have nK8_ := Aside0.mk (blk_below K8.out hb); have nCo_ := Aside0.mk (Kd.C_below Co.out hb); have nK10_ := Aside0.mk (blk_below K10.out hb); clear HB Cl Cq K4 Cx Cy K8 Co K10 hb; have HB := n0_; have Cl := nCl_; have Cq := nCq_; have K4 := nK4_; have Cx := nCx_; have Cy := nCy_; have K8 := nK8_; have Co := nCo_; have K10 := nK10_; clear n0_ nCl_ nCq_ nK4_ nCx_ nCy_ nK8_ nCo_ nK10_; (try clear hzK4); have hzK4 := box5z K4.out))
          (try clear hzK8 hzK10)
          clear K8 K10 Cy Co
          go_upto_region 18 with (first | ((with_reducible refine gate_callee (f := 21) rfl ?_); refine goesL_ (some 102) rfl rfl Try.func21 (by kernel_rfl) rfl #[.slice Al l.length cl, .int .i64 d] rfl (by (try simp only [List.map_toArray, List.map_cons, List.map_nil]); first | done | rfl) ?_; refine (impl_GetPart.calls k _ _ l d h0 h1 h2 h3 h4 _ _ Cl.out Ll.out AG3.out).mono ?_; rintro e w16 ⟨v_, rfl, ho0, hb⟩; refine ⟨_, rfl, ?_⟩; obtain ⟨Ah, ch, e_⟩ := Kd.R_slice ho0; subst e_; have Ch := Aside0.mk (Kd.R_reads' ho0).2.2; have Lh := Aside0.mk (Kd.R_reads' ho0).2.1; clear ho0; have n0_ := Aside0.mk (below_step HB.out hb); have nCl_ := Aside0.mk (Kd.C_below Cl.out hb); have nCq_ := Aside0.mk (Kd.C_below Cq.out hb); have nK4_ := Aside0.mk (blk_below K4.out hb); have nCx_ := Aside0.mk (Kd.C_below Cx.out hb); clear HB Cl Cq K4 Cx hb; have HB := n0_; have Cl := nCl_; have Cq := nCq_; have K4 := nK4_; have Cx := nCx_; clear n0_ nCl_ nCq_ nK4_ nCx_; (try clear hzK4); have hzK4 := box5z K4.out))
          obtain ⟨w17, hw_⟩ : ∃ x_, x_ = w16.alloc (.cells #[.int .i64 h0, .slice Ah h1.length ch, .int .i64 h2, .int .i64 h3, .int .i64 h4] 36) := ⟨_, rfl⟩
          have hb : Below w16.heap.size w16 w17 := hw_ ▸ below_alloc (Below.refl _ _) _
          have hx_ : w17.heap[w16.heap.size]? = some (.cells #[.int .i64 h0, .slice Ah h1.length ch, .int .i64 h2, .int .i64 h3, .int .i64 h4] 36 (0, 0)) := hw_ ▸ heap_alloc_new w16 _
          rw [← hw_]
          clear hw_
          obtain ⟨g14, hg_⟩ : ∃ x_, x_ = w16.heap.size := ⟨_, rfl⟩
          rw [← hg_] at hx_ ⊢
          clear hg_
          have K14 := Aside0.mk hx_
          clear hx_
          have n0_ := Aside0.mk (below_step HB.out hb)
          have nCl_ := Aside0.mk (Kd.C_below Cl.out hb)
          have nCq_ := Aside0.mk (Kd.C_below Cq.out hb)
          have nK4_ := Aside0.mk (blk_below K4.out hb)
          have nCx_ := Aside0.mk (Kd.C_below Cx.out hb)
          clear HB Cl Cq K4 Cx hb
          have HB := n0_
          have Cl := nCl_
          have Cq := nCq_
          have K4 := nK4_
          have Cx := nCx_
          clear n0_ nCl_ nCq_ nK4_ nCx_
          (try clear hzK4)
          have hzK4 := box5z K4.out
          have hzK14 := box5z K14.out
          clear K14 hzK14
          go_upto_region 20 with (first | ((with_reducible refine gate_callee (f := 28) rfl ?_); refine goesL_ (some 107) rfl rfl Try.func28 (by kernel_rfl) rfl #[.slice Al l.length cl] rfl (by (try simp only [List.map_toArray, List.map_cons, List.map_nil]); first | done | rfl) ?_; refine (impl_StoredSize.calls k _ _ l _ _ _ Cl.out Ll.out AA1.out).mono ?_; rintro e w18 ⟨rfl, hb⟩; refine ⟨_, rfl, ?_⟩; have n0_ := Aside0.mk (below_step HB.out hb); have nCl_ := Aside0.mk (Kd.C_below Cl.out hb); have nCq_ := Aside0.mk (Kd.C_below Cq.out hb); have nK4_ := Aside0.mk (blk_below K4.out hb); have nCx_ := Aside0.mk (Kd.C_below Cx.out hb); clear HB Cl Cq K4 Cx hb; have HB := n0_; have Cl := nCl_; have Cq := nCq_; have K4 := nK4_; have Cx := nCx_; clear n0_ nCl_ nCq_ nK4_ nCx_; (try clear hzK4); have hzK4 := box5z K4.out) | ((with_reducible refine gate_callee (f := 28) rfl ?_); refine goesL_ (some 112) rfl rfl Try.func28 (by kernel_rfl) rfl #[.slice Ax xs.length cx] rfl (by (try simp only [List.map_toArray, List.map_cons, List.map_nil]); first | done | rfl) ?_; refine (impl_StoredSize.calls k _ _ xs _ _ _ Cx.out Lx.out AA2.out).mono ?_; rintro e w19 ⟨rfl, hb⟩; refine ⟨_, rfl, ?_⟩; have n0_ := Aside0.mk (below_step HB.out hb); have nCl_ := Aside0.mk (Kd.C_below Cl.out hb); have nCq_ := Aside0.mk (Kd.C_below Cq.out hb); have nK4_ := Aside0.mk (blk_below K4.out hb); have nCx_ := Aside0.mk (Kd.C_below Cx.out hb); clear HB Cl Cq K4 Cx hb; have HB := n0_; have Cl := nCl_; have Cq := nCq_; have K4 := nK4_; have Cx := nCx_; clear n0_ nCl_ nCq_ nK4_ nCx_; (try clear hzK4); have hzK4 := box5z K4.out))
          go_upto_region 22 with (first | (go_at_call 29; refine (impl_SizeOf.calls q0 _ _ q1 q2 q3 q4 sz _ Cq.out Lq.out AZ.out).mono ?_; rintro e w20 ⟨rfl, hb⟩; have n0_ := Aside0.mk (below_step HB.out hb); have nCl_ := Aside0.mk (Kd.C_below Cl.out hb); have nCq_ := Aside0.mk (Kd.C_below Cq.out hb); have nK4_ := Aside0.mk (blk_below K4.out hb); have nCx_ := Aside0.mk (Kd.C_below Cx.out hb); clear HB Cl Cq K4 Cx hb; have HB := n0_; have Cl := nCl_; have Cq := nCq_; have K4 := nK4_; have Cx := nCx_; clear n0_ nCl_ nCq_ nK4_ nCx_; (try clear hzK4); have hzK4 := box5z K4.out))
          clear hzK4
          go_wp2_with (first | ((with_reducible refine gate_callee (f := 30) rfl ?_); refine goesL_ (some 148) rfl rfl Try.func30 (by kernel_rfl) rfl #[.slice A0 l0.length c0] rfl (by (try simp only [List.map_toArray, List.map_cons, List.map_nil]); first | done | rfl) ?_; refine (spec_DrawEqualStores.calls k _ _ l0 s t _ (Kd.C_below HR0.out HB.out) HC0.out AW.out).mono ?_; rintro e w21 ⟨As, cs, At, ct, rfl, hl1, hl2, hl3, hl4, hb⟩; refine ⟨_, rfl, ?_⟩; have Cs := Aside0.mk hl2; have Ls := Aside0.mk hl1; have Ct := Aside0.mk hl4; have Lt := Aside0.mk hl3; clear hl1 hl2 hl3 hl4; have n0_ := Aside0.mk (below_step HB.out hb); clear HB  hb; have HB := n0_; clear n0_ ) | ((with_reducible refine gate_callee (f := 19) rfl ?_); refine goesL_ (some 153) rfl rfl Try.func19 (by kernel_rfl) rfl #[.slice As s.length cs, .slice At t.length ct] rfl (by (try simp only [List.map_toArray, List.map_cons, List.map_nil]); first | done | rfl) ?_; refine (impl_EqualStores.calls k _ _ s _ _ t p _ Cs.out Ls.out Ct.out Lt.out AX1.out).mono ?_; rintro e w22 ⟨rfl, hb⟩; refine ⟨_, rfl, ?_⟩; have n0_ := Aside0.mk (below_step HB.out hb); have nCs_ := Aside0.mk (Kd.C_below Cs.out hb); have nCt_ := Aside0.mk (Kd.C_below Ct.out hb); clear HB Cs Ct hb; have HB := n0_; have Cs := nCs_; have Ct := nCt_; clear n0_ nCs_ nCt_) | ((with_reducible refine gate_callee (f := 19) rfl ?_); refine goesL_ (some 156) rfl rfl Try.func19 (by kernel_rfl) rfl #[.slice At t.length ct, .slice As s.length cs] rfl (by (try simp only [List.map_toArray, List.map_cons, List.map_nil]); first | done | rfl) ?_; refine (impl_EqualStores.calls k _ _ t _ _ s p _ Ct.out Lt.out Cs.out Ls.out AX2.out).mono ?_; rintro e w23 ⟨rfl, hb⟩; refine ⟨_, rfl, ?_⟩; have n0_ := Aside0.mk (below_step HB.out hb); have nCs_ := Aside0.mk (Kd.C_below Cs.out hb); have nCt_ := Aside0.mk (Kd.C_below Ct.out hb); clear HB Cs Ct hb; have HB := n0_; have Cs := nCs_; have Ct := nCt_; clear n0_ nCs_ nCt_) | (go_at_call 19; refine (impl_EqualStores.calls k _ _ s _ _ s true _ Cs.out Ls.out Cs.out Ls.out AX3.out).mono ?_; rintro e w24 ⟨rfl, hb⟩; have n0_ := Aside0.mk (below_step HB.out hb); have nCs_ := Aside0.mk (Kd.C_below Cs.out hb); have nCt_ := Aside0.mk (Kd.C_below Ct.out hb); clear HB Cs Ct hb; have HB := n0_; have Cs := nCs_; have Ct := nCt_; clear n0_ nCs_ nCt_))
          go_ret
          exact ⟨(by first | rfl | (simp [errW_none, errW_some] <;> rfl) | (simp [*, errW_none, errW_some] <;> rfl)), (by repeat (first | (with_reducible first | exact HB.out | apply below_alloc | apply pw_below_drewN | apply below_drew1) | exact HB.out))⟩
        )

end Go.Proofs.Ytlpfobakbgipbaa.QFnParts
