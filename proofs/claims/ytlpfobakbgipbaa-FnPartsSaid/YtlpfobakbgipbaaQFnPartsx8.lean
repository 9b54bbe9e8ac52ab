/- The Go functions that the law FnParts comes to, each as a Lean function, with a proof that the call does what it says; written by a program of this session over the print of the kit. No conditions. -/
import Derived.Test.YtlpfobakbgipbaaQFnPartsx0
import Derived.Test.YtlpfobakbgipbaaQFnPartsx4
import Derived.Test.YtlpfobakbgipbaaQFnPartsx5
import Derived.Test.YtlpfobakbgipbaaQFnPartsx6
import Derived.Test.YtlpfobakbgipbaaQFnPartsx7
namespace Go.Proofs.Ytlpfobakbgipbaa.QFnParts
open Go.RowKit Go.Proofs.YtlpfobakbgipbaaW.PrintWords Go.Proofs.YtlpfobakbgipbaaW.PrintLast Go.Proofs.YtlpfobakbgipbaaW.PrintMore
attribute [local go_sem] max2_int min2_int max_two min_two max_three min_three max_four min_four   -- for this text's walks alone
set_option linter.unusedVariables false
set_option linter.unusedSimpArgs false

/-! ### spec_PutPart: function 8 (by hand) -/
theorem S_form0 {W : World} {base n c : Nat} {A : Option Addr} {ok : Nat → Prop} {xs : List S63} (h : Kd.S k63 63 W base ok (.slice A n c) xs) : (A = none ∧ xs = [] ∧ c = 0) ∨ ∃ g, A = some ⟨g, 0, none⟩ := by
  obtain ⟨okj, inner, h0, hown, hI⟩ := S_open h
  rcases hown.2 with ⟨e, h1⟩ | ⟨g, cap, cur, e, _⟩
  · injection e with e1 e2 e3
    exact .inl ⟨e1, List.eq_nil_of_length_eq_zero h1, e3⟩
  · injection e with e1 e2 e3
    exact .inr ⟨g, e1⟩
theorem S_blk {W : World} {base g n c : Nat} {ok : Nat → Prop} {xs : List S63} (h : Kd.S k63 63 W base ok (.slice (some ⟨g, 0, none⟩) n c) xs) : ∃ cur, W.heap[g]? = some (.cells cur 63 (0, 0)) := by
  obtain ⟨okj, inner, h0, hown, hI⟩ := S_open h
  rcases hown.2 with ⟨e, h1⟩ | ⟨g2, cap, cur, e, _, h3, _⟩
  · cases e
  · injection e with e1 e2 e3
    injection e1 with e1
    injection e1 with e1
    subst e1
    exact ⟨cur, h3⟩
theorem S_ne {W : World} {base gb t : Nat} {cs : Array Value} {ok : Nat → Prop} {v : Value} {xs : List S63} (h : Kd.S k63 63 W base ok v xs) (hb : W.heap[gb]? = some (.cells cs t (0, 0))) (ht : t ≠ 63) : some gb ≠ v.ownBlock := by
  obtain ⟨A, c, rfl⟩ := Kd.S_slice h
  rcases S_form0 h with ⟨rfl, _, _⟩ | ⟨g, rfl⟩
  · intro e; cases e
  · obtain ⟨cur, hg⟩ := S_blk h
    exact fun e => blk_ne hb hg ht (Option.some.inj e)
theorem run_append_nothing (W : World) (ty g n c : Nat) (hn : n ≤ c) : (Builtin.append_ #[30, 30] ty #[.slice (some ⟨g, 0, none⟩) n c, .slice none 0 0]).run Try.prog W = .ok (.slice (some ⟨g, 0, none⟩) n c) W := by
  obtain ⟨i0, hi0, he0⟩ := Option.map_eq_some_iff.1 info63
  simp [Builtin.append_, run_underlying Try.underlying30, sizeOf, typeInfo, hi0, Builtin.lenOf, Builtin.firstCells, loadCells, loadCellsFrom, hn, storeCells]
/-- append(v, u...) of rows of parts that lie apart. -/
theorem S_appends {w0 W : World} {base : Nat} {ok1 ok2 : Nat → Prop} {v u : Value} {xs ys : List S63} (hO : Kd.S k63 63 W base ok1 v xs) (hZ : Kd.S k63 63 W base ok2 u ys) (hx : 0 < xs.length) (hap : ∀ k, ok1 k → ok2 k → False) (HB : Below base w0 W) (hbase : base ≤ W.heap.size) (hl : (xs.length + ys.length) * 72 ≤ 140737488355328) :
    ∃ v1 w1, (∀ ty, (Builtin.append_ #[30, 30] ty #[v, u]).run Try.prog W = .ok v1 w1) ∧ Kd.S k63 63 w1 base (fun _ => True) v1 (xs ++ ys) ∧ Below base w0 w1 ∧ W.grownBy w1 v.ownBlock := by
  obtain ⟨okj, inner, h0, hown, hI⟩ := S_open hO
  obtain ⟨okj2, inner2, h02, hown2, hI2⟩ := S_open hZ
  have hv : ∃ g c, v = .slice (some ⟨g, 0, none⟩) xs.length c ∧ base ≤ g ∧ xs.length ≤ c := by
    rcases hown.2 with ⟨_, h⟩ | ⟨g, cap, cur, e, hb, _, hc, _⟩
    · omega
    · exact ⟨g, cap, e, hb, hc⟩
  obtain ⟨g, c, rfl, hbg, hnc⟩ := hv
  rcases hown2.2 with ⟨rfl, h⟩ | ⟨g2, c2, cur2, rfl, _, _, _, _⟩
  · obtain rfl := List.eq_nil_of_length_eq_zero h
    rw [List.append_nil]
    exact ⟨_, _, fun ty => run_append_nothing W ty g xs.length c hnc, Kd.S_mono hO (fun _ _ => trivial), HB, ⟨rfl, rfl, rfl, Nat.le_refl _, fun _ _ _ => rfl⟩⟩
  · obtain ⟨i0, hi0, he0⟩ := Option.map_eq_some_iff.1 info63
    have hz0 := congrArg (fun q => q.1) he0
    have hzs : i0.size = 7 := congrArg (fun q => q.2.1) he0
    have hzb : i0.bytes = 72 := congrArg (fun q => q.2.2) he0
    obtain ⟨v1, w1, r1, r2, r3, _, r5⟩ := run_append_own_at (P := Try.prog) W base 30 0 63 i0 _ 7 72 Try.underlying30 hi0 hz0 hzs hzb rfl (by decide) _ xs.length inner hown ⟨g2, 0, none⟩ ys.length c2 inner2 hown2.1 (hown2.cells (g := g2) rfl) (Items_one hI2) (by unfold maxLen; omega) hl hbase
    refine ⟨v1, w1, fun ty => r1, ?_, pw_below_grown HB _ hbase r3 (fun k hk => by cases hk; exact hbg), r3⟩
    have hI' : Items k63 W base (fun k => True ∧ some k ≠ (Value.slice (some ⟨g, 0, none⟩) xs.length c).ownBlock) xs okj inner := ⟨hI.len, hI.apart, fun j k hk => ⟨⟨trivial, (hI.okk j k hk).1.2⟩, (hI.okk j k hk).2⟩, hI.M⟩
    refine S_cat (fun _ _ => trivial) hI' hI2 (fun j k hk => ⟨⟨trivial, fun e => hap k (h0 k e.symm) (hI2.okk j k hk).1.1⟩, fun i hi => hap k (hI.okk i k hi).1.1 (hI2.okk j k hk).1.1⟩) r2 (fun k hlt hk => r3.block k hlt hk) ?_ (fun _ _ => trivial)
    rcases r5 with h | h
    · exact .inl h
    · exact .inr ⟨_, h, Nat.le_refl _⟩
def spec_PutPart.T12 : Bool × List (List Nat × List Nat) := (true, [([], []), ([], []), ([0, 1], [0, 1]), ([], []), ([], []), ([4], [4]), ([3, 5], [3, 5]), ([6], [6]), ([2, 7, 5], [2, 7]), ([], []), ([], []), ([9, 10], [9, 10]), ([11, 8], [11]), ([8, 12, 12], [8, 12]), ([13, 13, 0, 1, 2, 3, 4, 5, 6, 7, 8, 9, 10, 11, 12, 13], [13])])
def spec_PutPart.B12 : List Nat := [0, 0, 3, 0, 0, 16, 56, 120, 255, 0, 0, 1536, 4095, 8191, 16383]
theorem spec_PutPart.tab12 : rtab .any (opsOf Try.f8 12) = spec_PutPart.T12 := by kernel_rfl
theorem spec_PutPart.bits12 : waitsOk spec_PutPart.T12.2 spec_PutPart.B12 = true := by kernel_rfl
theorem cut_call {P : Program} {fn : FuncId} {A : Option Addr} {c p : Nat} {l : List S63} {w : World} {Q : Ending → World → Prop} (h : Calls P fn #[.slice A (l.drop p).length c] w Q) : Calls P fn #[.slice A (l.length - p) c] w Q := by
  rw [List.length_drop] at h
  exact h
def spec_PutPart.fin (k : Nat) (l0 y : List S63) : Option (List S63 × Bool) := (spec_IsStore.f k y).bind fun b => if b = true then some (y, true) else (spec_l7Copy.f k l0).bind fun c => some (c, false)
def spec_PutPart.mid (k : Nat) (l0 t1 : List S63) (t2 d : Int) (a1_0 : Int) (l1_1 : List Int) (a1_2 : Int) (a1_3 : Int) (a1_4 : Int) : Option (List S63) :=
  if 0 ≤ t2 then (if t2 < (t1.length : Int) then some (put_use t1 t2) else none)
  else (spec_l7Copy.f k l0).bind fun x => (spec_l5Copy.f a1_0 l1_1 a1_2 a1_3 a1_4).bind fun q => (spec_l7Copy.f k (l0.drop (put_at l0 d))).bind fun z => if put_at l0 d ≤ x.length ∧ x.length + z.length < 1954687338267 then some ((x.take (put_at l0 d) ++ [(⟨d, put_res q, 1⟩ : S63)]) ++ z) else none
def spec_PutPart.f (k : Nat) (l0 : List S63) (a1_0 : Int) (l1_1 : List Int) (a1_2 : Int) (a1_3 : Int) (a1_4 : Int) : Option (List S63 × Bool) :=
  (spec_IsStore.f k l0).bind fun b => if b = true then (spec_DigestOf.f k a1_0 l1_1 a1_2 a1_3 a1_4).bind fun d => (spec_l7Find.f k l0 d).bind fun t2 => (spec_l7Copy.f k l0).bind fun t1 => (spec_PutPart.mid k l0 t1 t2 d a1_0 l1_1 a1_2 a1_3 a1_4).bind fun y => spec_PutPart.fin k l0 y else (spec_l7Copy.f k l0).bind fun t1 => some (t1, false)
set_option maxHeartbeats 8000000 in
set_option maxRecDepth 100000 in
theorem spec_PutPart.calls (k : Nat) (A0 : Option Addr) (c0 : Nat) (l0 : List (S63)) (a1_0 : Int) (A1_1 : Option Addr) (c1_1 : Nat) (l1_1 : List Int) (a1_2 : Int) (a1_3 : Int) (a1_4 : Int) (r1 : List (S63)) (r2 : Bool) (w : World) (hr0 : Kd.C k63 w A0 l0.length l0) (hc0 : l0.length ≤ c0) (hr1_1 : Kd.C (Kd.int .i64) w A1_1 l1_1.length l1_1) (hc1_1 : l1_1.length ≤ c1_1) (h : spec_PutPart.f k l0 a1_0 l1_1 a1_2 a1_3 a1_4 = some (r1, r2)) :
    Calls Try.prog 8 #[.slice A0 l0.length c0, .agg #[.int .i64 a1_0, .slice A1_1 l1_1.length c1_1, .int .i64 a1_2, .int .i64 a1_3, .int .i64 a1_4]] w fun e w' => ∃ v0_ : Value, e = .returned (.tuple #[v0_, .bool r2]) ∧ Kd.S k63 63 w' w.heap.size (fun _ => True) v0_ r1 ∧ Below w.heap.size w w' := by
  have hu36 := Try.underlying36
  have hu63 := Try.underlying63
  have HR0 := Aside0.mk hr0
  have HC0 := Aside0.mk hc0
  have HR1 := Aside0.mk hr1_1
  have HC1 := Aside0.mk hc1_1
  clear hr0 hc0 hr1_1 hc1_1
  have HB := Aside0.mk (Below.refl w.heap.size w)
  obtain ⟨t9, A9, H⟩ := Option.bind_eq_some_iff.mp h
  clear h
  replace A9 := Aside0.mk A9
  by_cases c6 : t9 = true
  · subst c6
    rw [if_pos rfl] at H
    obtain ⟨d, AD, H⟩ := Option.bind_eq_some_iff.mp H
    obtain ⟨t2, AT, H⟩ := Option.bind_eq_some_iff.mp H
    obtain ⟨t1, A3, H⟩ := Option.bind_eq_some_iff.mp H
    obtain ⟨y, AM, H⟩ := Option.bind_eq_some_iff.mp H
    replace AD := Aside0.mk AD
    replace AT := Aside0.mk AT
    replace A3 := Aside0.mk A3
    have HF := Aside0.mk H
    replace AM := Aside0.mk AM
    clear H
    go_enter Try.func8, Try.ntmps8
    go_upto_region 3 with (first | ((with_reducible refine gate_dst (N := 3) rfl ?_); refine box_event ?hg (N := 3) ?hd (cs := #[.int .i64 a1_0, .slice A1_1 l1_1.length c1_1, .int .i64 a1_2, .int .i64 a1_3, .int .i64 a1_4]) (t := 36) ?hr ?_; (case hd => rfl); (case hg => rfl); (case hr => first | (go_simp; done) | (go_simp; rfl)); intro gb hg_ w4 hbox hb; have n0_ := Aside0.mk (below_step HB.out hb); have gbK := Aside0.mk hbox; clear HB hbox hg_ hb; have HB := n0_; clear n0_) | ((with_reducible refine gate_callee (f := 34) rfl ?_); refine goesL_ (some 11) rfl rfl Try.func34 (by kernel_rfl) rfl #[.slice A0 l0.length c0] rfl (by (try simp only [List.map_toArray, List.map_cons, List.map_nil]); first | done | rfl) ?_; refine (spec_IsStore.calls k _ _ l0 _ _ (Kd.C_below HR0.out HB.out) HC0.out A9.out).mono ?_; rintro e w7 ⟨rfl, hb⟩; refine ⟨_, rfl, ?_⟩; have n1_ := Aside0.mk (below_step HB.out hb); have n2_ := Aside0.mk (blk_below gbK.out hb); clear HB gbK hb; have HB := n1_; have gbK := n2_; clear n1_ n2_))
    have hz := box5z gbK.out
    go_upto_if 23 with (first | ((with_reducible refine gate_callee (f := 23) rfl ?_); refine goesL_ (some 16) rfl rfl Try.func23 (by kernel_rfl) rfl #[.agg #[.int .i64 a1_0, .slice A1_1 l1_1.length c1_1, .int .i64 a1_2, .int .i64 a1_3, .int .i64 a1_4]] rfl (by (try simp only [List.map_toArray, List.map_cons, List.map_nil]); first | done | rfl) ?_; refine (spec_DigestOf.calls k a1_0 _ _ l1_1 a1_2 a1_3 a1_4 d _ (Kd.C_below HR1.out HB.out) HC1.out AD.out).mono ?_; rintro e w7 ⟨rfl, hb⟩; refine ⟨_, rfl, ?_⟩; have n1_ := Aside0.mk (below_step HB.out hb); have n2_ := Aside0.mk (blk_below gbK.out hb); clear HB gbK hb; have HB := n1_; have gbK := n2_; clear n1_ n2_) | ((with_reducible refine gate_callee (f := 36) rfl ?_); refine goesL_ (some 19) rfl rfl Try.func36 (by kernel_rfl) rfl #[.slice A0 l0.length c0, .int .i64 d] rfl (by (try simp only [List.map_toArray, List.map_cons, List.map_nil]); first | done | rfl) ?_; refine (spec_l7Find.calls k _ _ l0 d t2 _ (Kd.C_below HR0.out HB.out) HC0.out AT.out).mono ?_; rintro e w8 ⟨rfl, hdr⟩; refine ⟨_, rfl, ?_⟩; have hb := hdr.below; clear hdr; have n1_ := Aside0.mk (below_step HB.out hb); have n2_ := Aside0.mk (blk_below gbK.out hb); clear HB gbK hb; have HB := n1_; have gbK := n2_; clear n1_ n2_) | ((with_reducible refine gate_callee (f := 35) rfl ?_); refine goesL_ (some 21) rfl rfl Try.func35 (by kernel_rfl) rfl #[.slice A0 l0.length c0] rfl (by (try simp only [List.map_toArray, List.map_cons, List.map_nil]); first | done | rfl) ?_; refine (spec_l7Copy.calls k _ _ l0 t1 _ (Kd.C_below HR0.out HB.out) HC0.out A3.out).mono ?_; rintro e w6 ⟨v1, rfl, ho0, hb⟩; refine ⟨_, rfl, ?_⟩; have HO := Aside0.mk (Kd.S_lower ho0 (below_size HB.out)); have n1_ := Aside0.mk (below_step HB.out hb); have n2_ := Aside0.mk (blk_below gbK.out hb); clear HB gbK ho0 hb; have HB := n1_; have gbK := n2_; clear n1_ n2_; obtain ⟨Ao, co, eo⟩ := Kd.S_slice HO.out; subst eo))
    clear hz
    go_cut [8] (fun v8 wc => ∃ y : List S63, Aside0 (spec_PutPart.fin k l0 y = some (r1, r2)) ∧ Aside0 (Kd.S k63 63 wc w.heap.size (fun _ => True) v8 y) ∧ Aside0 (Below w.heap.size w wc))
    case first =>
      have HM := AM.out
      clear AM
      unfold spec_PutPart.mid at HM
      by_cases c14 : 0 ≤ t2
      · rw [if_pos c14] at HM
        obtain ⟨i, rfl⟩ := Int.eq_ofNat_of_zero_le c14
        by_cases c15 : (i : Int) < (t1.length : Int)
        · rw [if_pos c15] at HM
          have hin : i < t1.length := by omega
          have hmax := (Kd.S_reads' HO.out).2.2.2.1
          obtain ⟨g, cg, eg, GB, _, _⟩ := Kd.S_form HO.out (by omega)
          injection eg with ea _ ec
          subst ea ec
          obtain ⟨ad, A2, c2, e2, hx0, hx1, hx2, hx3, hx4, hx5, hx6, hl2, hi2⟩ := at_T63 (Kd.S_reads' HO.out).2.2 (i : Int) c14 c15
          injection e2 with e2
          subst e2
          simp only [add_plain] at hx6
          have E1 := Aside0.mk (Option.some.inj HM)
          clear HM
          obtain ⟨⟨dx, ⟨kd, bd, ⟨ho, pa, qu⟩⟩, us⟩, hx⟩ : ∃ x, rd_T63 t1 (i : Int) = x := ⟨_, rfl⟩
          simp only [hx] at hx6
          have p14 := eq_true c14
          have p15 := eq_true c15
          have hx6' : w6.cell? ⟨g, i * 7 + 6, none⟩ = some (.int .i64 us) := hx6
          clear hx0 hx1 hx2 hx3 hx4 hx5 hl2 hi2
          have HX := Aside0.mk (show Kd.S k63 63 w6 w.heap.size (fun k_ => True ∧ ¬ False) (.slice (some ⟨g, 0, none⟩) t1.length co) t1 from Kd.S_mono HO.out (fun k_ hk => ⟨trivial, fun e_ => e_⟩))
          obtain ⟨oki, ce, hcl, hM, hcc, hfr, hoki, hH⟩ := Kd.S_elem HX.out z63 (i : Int) c14 c15
          rw [show t1.getD (i : Int).toNat z63 = _ from hx] at hM
          obtain ⟨ve, rfl, ge⟩ := k63_openM hM
          have HP := Aside0.mk (Kd.S_seg (ok := fun _ => True) (okg := fun _ => False) hH c14 c15 (seg := [.int .i64 (wrap64 (us + 1))]) (j := 6) (show 7 ≤ 7 from by decide) (x' := (⟨dx, (⟨kd, bd, (⟨ho, pa, qu⟩ : S34)⟩ : S36), wrap64 (us + 1)⟩ : S63)) (k63_mkM _ _ _ (⟨dx, (⟨kd, bd, (⟨ho, pa, qu⟩ : S34)⟩ : S36), wrap64 (us + 1)⟩ : S63) (Kd.R_mono ge (fun _ h_ => Or.inl h_))) (fun _ hk => hk) (fun k_ hk_ => hk_.elim))
          have hf6 : w6.frozen? ⟨g, i * 7 + 6, none⟩ = false := hfr 6
          have ey : t1.set i (⟨dx, (⟨kd, bd, (⟨ho, pa, qu⟩ : S34)⟩ : S36), wrap64 (us + 1)⟩ : S63) = y := by rw [← E1.out]; unfold put_use; rw [hx]; rfl
          have EY := Aside0.mk ey
          clear hcl hcc hfr hM hoki hH HX ge ey hx E1
          go_wp2_with (first | ((with_reducible refine gate_store (t := 3) (p := 33) rfl ?_); refine store_event (t := 3) (p := 33) (v := ?vo) (w1 := (w6.setCell ⟨g, i * 7 + 6, none⟩ (.int .i64 (wrap64 (us + 1))))) ?hg ?ho ?hn ?hr ?_; (case ho => rfl); (case hg => rfl); (case hn => rfl); (case hr => first | (go_simp; done) | (go_simp; rfl)); intro w28 hw; have n0_ := Aside0.mk (show Kd.S k63 63 w28 w.heap.size (fun _ => True) (.slice (some ⟨g, 0, none⟩) t1.length co) (t1.set i (⟨dx, (⟨kd, bd, (⟨ho, pa, qu⟩ : S34)⟩ : S36), wrap64 (us + 1)⟩ : S63)) from hw ▸ HP.out.1); have n1_ := Aside0.mk (show Below w.heap.size w w28 from hw ▸ below_set HB.out GB); clear HO HB hw; have HO := n0_; have HB := n1_; clear n0_ n1_))
          go_meet
          case rel => exact ⟨y, HF, ⟨EY.out ▸ HO.out⟩, HB⟩
        · rw [if_neg c15] at HM
          exact absurd HM (by simp)
      · rw [if_neg c14] at HM
        obtain ⟨x1, AX, HM⟩ := Option.bind_eq_some_iff.mp HM
        obtain ⟨⟨q0, q1, q2, q3, q4⟩, AQ, HM⟩ := Option.bind_eq_some_iff.mp HM
        obtain ⟨z1, AZ, HM⟩ := Option.bind_eq_some_iff.mp HM
        replace AX := Aside0.mk AX
        replace AQ := Aside0.mk AQ
        replace AZ := Aside0.mk AZ
        by_cases c15 : put_at l0 d ≤ x1.length ∧ x1.length + z1.length < 1954687338267
        · rw [if_pos c15] at HM
          have E1 := Aside0.mk (Option.some.inj HM)
          have HL := Aside0.mk c15
          have c14c : decide (0 ≤ t2) = false := decide_eq_false c14
          rw [c14c]
          clear HM c15 c14c c14
          iterate 10 go_step
          go_cut [7] (fun v7 wc => v7 = .int .i64 ((put_at l0 d : Nat) : Int) ∧ Aside0 (Below w.heap.size w wc) ∧ Aside0 (wc.heap[gb]? = some (.cells #[.int .i64 a1_0, .slice A1_1 l1_1.length c1_1, .int .i64 a1_2, .int .i64 a1_3, .int .i64 a1_4] 36 (0, 0))))
          case first =>
            go_wp2
            go_loopg [7] (l0.length + 1) (fun kq v7 w' => ∃ i : Nat, v7 = .int .i64 (i : Int) ∧ Aside0 (i ≤ l0.length ∧ l0.length + 1 ≤ i + kq ∧ put_at l0 d = i + put_at (l0.drop i) d) ∧ Aside0 (Below w.heap.size w w') ∧ Aside0 (w'.heap[gb]? = some (.cells #[.int .i64 a1_0, .slice A1_1 l1_1.length c1_1, .int .i64 a1_2, .int .i64 a1_3, .int .i64 a1_4] 36 (0, 0))))
            case atStart => exact ⟨0, rfl, ⟨Nat.zero_le _, by omega, by rw [Nat.zero_add]; rfl⟩, HB, gbK⟩
            case round =>
              clear HB gbK HO
              try clear p2
              obtain ⟨i, rfl, HI, HB, gbK⟩ := hrel
              obtain ⟨k2, rfl⟩ : ∃ k2, gk = k2 + 1 := ⟨gk - 1, by have := HI.out; omega⟩
              have hlen := HR0.out.2.1
              by_cases c3 : i < l0.length
              · have c3b : decide ((i : Int) < (l0.length : Int)) = true := decide_eq_true (by omega)
                obtain ⟨ad, A2, c2, e2, hx0, hx1, hx2, hx3, hx4, hx5, hx6, hl2, hi2⟩ := at_T63 (Kd.C_below HR0.out HB.out) (i : Int) (by omega) (by omega)
                cases e2
                replace hx0 : wr.cell? (ad.add (i * 7)) = some (.int .i64 (rd_T63 l0 (i : Int)).f0) := hx0
                clear hx1 hx2 hx3 hx4 hx5 hx6 hl2 hi2
                by_cases c4 : (rd_T63 l0 (i : Int)).f0 < d
                · have nI := Aside0.mk (put_at_step c3 c4 HI.out.2.2)
                  generalize (rd_T63 l0 (i : Int)).f0 = dx at hx0 c4
                  have c4b : decide (dx < d) = true := decide_eq_true c4
                  have hwi : IntKind.i64.wrap ((i : Int) + 1) = ((i + 1 : Nat) : Int) := by rw [i64_w]; unfold wrap64; omega
                  go_wp2
                  go_roundg k2
                  case measure => have := HI.out; omega
                  case rel => exact ⟨i + 1, by first | rfl | (simp; done), ⟨by omega, by have := HI.out; omega, nI.out⟩, HB, gbK⟩
                · have nI := Aside0.mk (put_at_stop c3 c4 HI.out.2.2)
                  generalize (rd_T63 l0 (i : Int)).f0 = dx at hx0 c4
                  have c4b : decide (dx < d) = false := decide_eq_false c4
                  go_wp2
                  go_meet
                  case rel => exact ⟨by rw [nI.out], HB, gbK⟩
              · have c3b : decide ((i : Int) < (l0.length : Int)) = false := decide_eq_false (by omega)
                have nI := Aside0.mk (put_at_end c3 HI.out.2.2)
                go_wp2
                go_meet
                case rel => exact ⟨by rw [nI.out], HB, gbK⟩
          case rest =>
            clear HB gbK HO
            try clear p2
            obtain ⟨rfl, HB, gbK⟩ := hcut
            have HPL := Aside0.mk (put_at_le l0 d)
            generalize put_at l0 d = p at HPL E1 HL AZ
            go_wp2_with (first | ((with_reducible refine gate_callee (f := 35) rfl ?_); refine goesL_ (some 50) rfl rfl Try.func35 (by kernel_rfl) rfl #[.slice A0 l0.length c0] rfl (by (try simp only [List.map_toArray, List.map_cons, List.map_nil]); first | done | rfl) ?_; refine (spec_l7Copy.calls k _ _ l0 x1 _ (Kd.C_below HR0.out HB.out) HC0.out AX.out).mono ?_; rintro e w6 ⟨v1, rfl, ho0, hb⟩; refine ⟨_, rfl, ?_⟩; have HO := Aside0.mk (Kd.S_lower ho0 (below_size HB.out)); have n1_ := Aside0.mk (below_step HB.out hb); have n2_ := Aside0.mk (blk_below gbK.out hb); clear HB gbK ho0 hb; have HB := n1_; have gbK := n2_; clear n1_ n2_))
            obtain ⟨Ax, cx, ex⟩ := Kd.S_slice HO.out
            subst ex
            have hpl := HPL.out
            have hpx := HL.out.1
            have hlz := HL.out.2
            have hc0 := HC0.out
            have hcx := (Kd.S_reads' HO.out).2.1
            have hmx := (Kd.S_reads' HO.out).2.2.2.1
            have hml := HR0.out.2.1
            have HAX := Aside0.mk (show (Ax = none ∧ x1 = [] ∧ cx = 0 ∧ p = 0) ∨ ∃ gx, Ax = some ⟨gx, 0, none⟩ from (S_form0 HO.out).imp (fun h_ => ⟨h_.1, h_.2.1, h_.2.2, by have h2_ := h_.2.1; rw [h2_] at hpx; exact Nat.le_zero.mp hpx⟩) id)
            have qa : p ≤ cx := by omega
            have qb : p ≤ c0 := by omega
            have n0_ := Aside0.mk (below_drew1 HB.out)
            have n1_ := Aside0.mk (Kd.S_drew HO.out)
            have n2_ := Aside0.mk (show (w6.drew).heap[gb]? = _ from gbK.out)
            clear HB HO gbK
            have HB := n0_
            have HO := n1_
            have gbK := n2_
            clear n0_ n1_ n2_
            refine start_ (n := 15) (S := fun w' => w'.heap[gb]? = some (.cells #[.int .i64 a1_0, .slice A1_1 l1_1.length c1_1, .int .i64 a1_2, .int .i64 a1_3, .int .i64 a1_4] 36 (0, 0))) (ds := []) (mk 15 0) (by kernel_rfl) rfl rfl gbK.out (fun hHeld => ?_)
            refine with_tabW spec_PutPart.tab12 spec_PutPart.bits12 (fun HT_ HW_ => ?_)
            generalize w6.drew = wd at HB HO gbK hHeld ⊢
            refine on_ 0 51 (mk 15 0x1) ?_
            refine on_ 1 52 (mk 15 0x3) ?_
            refine on_ 2 53 (mk 15 0x7) (v := .slice Ax p cx) (hy := by (intro w'; rcases HAX.out with ⟨e1_, e2_, e3_, e4_⟩ | ⟨gx, e1_⟩; (focus (subst e1_ e2_ e3_ e4_; go_simp)); (subst e1_; go_simp))) ?_
            refine on_ 3 54 (mk 15 0xF) ?_
            refine on_ 9 60 (mk 15 0x20F) ?_
            refine on_ 10 61 (mk 15 0x60F) ?_
            refine on_ 11 62 (mk 15 0xE0F) ?_
            refine rd_ 4 55 (mk 15 0xE1F) (hy := by (intro w' hS_; have hz_ := box5z hS_; go_simp; with_reducible rfl)) ?_
            refine cl_ 5 56 (mk 15 0xE3F) Try.func37 #[.agg #[.int .i64 a1_0, .slice A1_1 l1_1.length c1_1, .int .i64 a1_2, .int .i64 a1_3, .int .i64 a1_4]] ?_
            refine (spec_l5Copy.calls a1_0 _ _ l1_1 a1_2 a1_3 a1_4 q0 q1 q2 q3 q4 _ (Kd.C_below HR1.out HB.out) HC1.out AQ.out).mono ?_
            rintro e w9 ⟨v5, rfl, ho5, hb5⟩
            obtain ⟨A5, c5, e5⟩ := Kd.R_slice ho5
            subst e5
            have n2_ := Aside0.mk (blk_below gbK.out hb5)
            refine ⟨_, rfl, n2_.out, fun _ => nm_ ?_⟩
            have hS9 := Kd.S_elder' (Kd.S_take HO.out hpx) (Kd.R_base ho5) hb5
            have hR9 := Kd.R_lower ho5 (below_size HB.out)
            have hap := Kd.R_apart' hR9 (Kd.S_typed hS9) (by decide)
            have HP9 := Aside0.mk (show Kd.S k63 63 w9 w.heap.size (fun k_ => True ∧ ¬ some k_ = (Value.slice A5 q1.length c5).ownBlock) _ _ from Kd.S_mono hS9 (fun k_ hk_ => ⟨trivial, fun e_ => hk_.2 e_⟩))
            have HQ9 := Aside0.mk (show ∀ k_, some k_ = (Value.slice A5 q1.length c5).ownBlock → True ∧ some k_ ≠ _ from fun k_ hk_ => ⟨trivial, (hap.1 k_ hk_.symm).2⟩)
            have HR9 := Aside0.mk (Kd.R_tight rfl hR9)
            have n1_ := Aside0.mk (below_step HB.out hb5)
            clear HB HO gbK hS9 hR9 hap ho5 hb5
            have HB := n1_
            have gbK := n2_
            clear n1_ n2_
            refine on_ 6 57 (mk 15 0xE7F) ?_
            refine one_ (i := 7) (N := some 58) (mk 15 0xEFF) rfl rfl (one_of HT_.out (by kernel_rfl)) (by decide) (fun K hK => ?_)
            refine event_step (by rfl) (v := .slice (some ⟨w9.heap.size, 0, none⟩) 1 1) (w1 := w9.alloc (.cells ([.int .i64 d, .int .i64 q0, .slice A5 q1.length c5, .int .i64 q2, .int .i64 q3, .int .i64 q4, .int .i64 1] : List Value).toArray 63)) ?hr ?_
            case hr => first | (go_simp; done) | (go_simp; rfl)
            refine hK.out _ _ (blk_alloc gbK.out _) (fun hHeld => nk_ 58 ?_)
            clear hK K hHeld
            refine one_ (i := 8) (N := some 59) (mk 15 0xFFF) rfl rfl (one_of HT_.out (by kernel_rfl)) (by decide) (fun K hK => ?_)
            refine Kd.S_append_step k63 (w0 := w) w.heap.size (by rfl) (.tmp 53) (.tmp 58) 30 63 (.agg #[(.int .i64 0), (.int .i64 0), (.slice none 0 0), (.int .i64 0), (.int .i64 0), (.int .i64 0), (.int .i64 0)]) 72 rfl Try.underlying30 info63 rfl (by decide) (by omega) (.slice Ax p cx) (x1.take p) (⟨d, (⟨q0, q1, (⟨q2, q3, q4⟩ : S34)⟩ : S36), 1⟩ : S63) [.int .i64 d, .int .i64 q0, .slice A5 q1.length c5, .int .i64 q2, .int .i64 q3, .int .i64 q4, .int .i64 1] (fun _ => True) (fun k_ => some k_ = (Value.slice A5 q1.length c5).ownBlock) rfl rfl (k63_mkM _ _ _ (⟨d, (⟨q0, q1, (⟨q2, q3, q4⟩ : S34)⟩ : S36), 1⟩ : S63) HR9.out) HQ9.out (fun _ _ => trivial) HP9.out HB.out (below_size HB.out) (by rw [List.length_take]; omega) ?_
            intro v1 w10 ho1 hb1 hg hat
            have HO := Aside0.mk ho1
            have n2_ := Aside0.mk (show w10.heap[gb]? = _ from (hg.block gb (blk_lt gbK.out) (S_ne HP9.out gbK.out (by decide))).trans gbK.out)
            clear ho1 hg hat gbK HB HP9 HQ9 HR9
            have gbK := n2_
            have HB := Aside0.mk hb1
            clear n2_ hb1
            refine hK.out _ _ gbK.out (fun hHeld => nk_ 59 ?_)
            clear hK K hHeld
            obtain ⟨A1, c1, e1⟩ := Kd.S_slice HO.out
            subst e1
            refine cl_ 12 63 (mk 15 0x1FFF) Try.func35 #[.slice (if c0 = p then A0 else A0.map (·.add (p * 7))) (l0.length - p) (c0 - p)] ?_
            refine (cut_call (spec_l7Copy.calls k _ _ (l0.drop p) z1 _ (Kd.C_drop (Kd.C_below HR0.out HB.out) hpl HC0.out) (show (l0.drop p).length ≤ c0 - p by rw [List.length_drop]; omega) AZ.out)).mono ?_
            rintro e w11 ⟨vz, rfl, hoz, hbz⟩
            have n2_ := Aside0.mk (blk_below gbK.out hbz)
            refine ⟨_, rfl, n2_.out, fun _ => nm_ ?_⟩
            obtain ⟨v2, w12, hr2, ho2, hb2, hg2⟩ := S_appends (w0 := w) (Kd.S_below (Kd.S_bound HO.out) hbz) (Kd.S_lower (Kd.S_bound hoz) (below_size HB.out)) (by rw [List.length_append]; exact Nat.succ_pos _) (fun k_ h1_ h2_ => by have := h1_.2.2.1; have := h2_.2.1; omega) (below_step HB.out hbz) (below_size (below_step HB.out hbz)) (by rw [List.length_append, List.length_take, List.length_cons, List.length_nil]; omega)
            have n0_ := Aside0.mk ho2
            have n1_ := Aside0.mk hb2
            have n3_ := Aside0.mk (show w12.heap[gb]? = w11.heap[gb]? from hg2.block gb (blk_lt n2_.out) (S_ne (Kd.S_below HO.out hbz) n2_.out (by decide)))
            clear HO HB gbK hoz hbz ho2 hb2 hg2
            have HO := n0_
            have HB := n1_
            have gbK := Aside0.mk (n3_.out.trans n2_.out)
            clear n0_ n1_ n2_ n3_
            refine one_ (i := 13) (N := some 64) (mk 15 0x3FFF) rfl rfl (one_of HT_.out (by kernel_rfl)) (by decide) (fun K hK => ?_)
            refine append_step _ (by rfl) (.tmp 59) (.tmp 63) 30 30 rfl _ _ rfl rfl (hr2 _) ?_
            refine hK.out _ _ gbK.out (fun hHeld => nk_ 64 ?_)
            clear hK K hHeld
            refine on_ 14 8 (mk 15 0x7FFF) ?_
            refine dn_ ?_
            generalize (if c0 = p then A0 else A0.map (·.add (p * 7))) = zA
            go_wp2
            go_meet
            case rel => exact ⟨y, HF, ⟨E1.out ▸ HO.out⟩, HB⟩
        · rw [if_neg c15] at HM
          exact absurd HM (by simp)
    case rest =>
      clear HF AM HO HB gbK
      try clear p2
      obtain ⟨y, HF, HO, HB⟩ := hcut
      obtain ⟨Ay, cy, ey⟩ := Kd.S_slice HO.out
      subst ey
      obtain ⟨b, AB, H⟩ := Option.bind_eq_some_iff.mp HF.out
      clear HF
      replace AB := Aside0.mk AB
      by_cases c7 : b = true
      · subst c7
        rw [if_pos rfl] at H
        simp only [Option.some.injEq, Prod.mk.injEq] at H
        obtain ⟨rfl, rfl⟩ := H
        go_wp2_with (first | ((with_reducible refine gate_callee (f := 34) rfl ?_); refine goesL_ (some 66) rfl rfl Try.func34 (by kernel_rfl) rfl #[.slice Ay y.length cy] rfl (by (try simp only [List.map_toArray, List.map_cons, List.map_nil]); first | done | rfl) ?_; refine (spec_IsStore.calls k _ _ y _ _ (Kd.S_reads' HO.out).2.2 (Kd.S_reads' HO.out).2.1 AB.out).mono ?_; rintro e w11 ⟨rfl, hb⟩; refine ⟨_, rfl, ?_⟩; have n0_ := Aside0.mk (Kd.S_below HO.out hb); have n1_ := Aside0.mk (below_step HB.out hb); clear HO HB hb; have HO := n0_; have HB := n1_; clear n0_ n1_))
        go_ret2
        exact ⟨_, (by first | rfl | (simp [errW_none, errW_some] <;> rfl) | (simp [*, errW_none, errW_some] <;> rfl)), HO.out, (by repeat (first | (with_reducible first | exact HB.out | apply below_alloc | apply pw_below_drewN | apply below_drew1) | exact HB.out))⟩
      · replace c7 := Bool.eq_false_iff.mpr c7
        subst c7
        rw [if_neg (show ¬ (false = true) by decide)] at H
        obtain ⟨z1, AZ, H⟩ := Option.bind_eq_some_iff.mp H
        replace AZ := Aside0.mk AZ
        simp only [Option.some.injEq, Prod.mk.injEq] at H
        obtain ⟨rfl, rfl⟩ := H
        go_wp2_with (first | ((with_reducible refine gate_callee (f := 34) rfl ?_); refine goesL_ (some 66) rfl rfl Try.func34 (by kernel_rfl) rfl #[.slice Ay y.length cy] rfl (by (try simp only [List.map_toArray, List.map_cons, List.map_nil]); first | done | rfl) ?_; refine (spec_IsStore.calls k _ _ y _ _ (Kd.S_reads' HO.out).2.2 (Kd.S_reads' HO.out).2.1 AB.out).mono ?_; rintro e w11 ⟨rfl, hb⟩; refine ⟨_, rfl, ?_⟩; have n0_ := Aside0.mk (Kd.S_below HO.out hb); have n1_ := Aside0.mk (below_step HB.out hb); clear HO HB hb; have HO := n0_; have HB := n1_; clear n0_ n1_) | ((with_reducible refine gate_callee (f := 35) rfl ?_); refine goesL_ (some 69) rfl rfl Try.func35 (by kernel_rfl) rfl #[.slice A0 l0.length c0] rfl (by (try simp only [List.map_toArray, List.map_cons, List.map_nil]); first | done | rfl) ?_; refine (spec_l7Copy.calls k _ _ l0 z1 _ (Kd.C_below HR0.out HB.out) HC0.out AZ.out).mono ?_; rintro e w12 ⟨v1, rfl, ho0, hb⟩; refine ⟨_, rfl, ?_⟩; clear HO; have HO := Aside0.mk (Kd.S_lower ho0 (below_size HB.out)); have n1_ := Aside0.mk (below_step HB.out hb); clear HB ho0 hb; have HB := n1_; clear n1_))
        go_ret2
        exact ⟨_, (by first | rfl | (simp [errW_none, errW_some] <;> rfl) | (simp [*, errW_none, errW_some] <;> rfl)), HO.out, (by repeat (first | (with_reducible first | exact HB.out | apply below_alloc | apply pw_below_drewN | apply below_drew1) | exact HB.out))⟩
  · replace c6 := Bool.eq_false_iff.mpr c6
    subst c6
    rw [if_neg (show ¬ (false = true) by decide)] at H
    obtain ⟨t1, A3, H⟩ := Option.bind_eq_some_iff.mp H
    replace A3 := Aside0.mk A3
    simp only [Option.some.injEq, Prod.mk.injEq] at H
    obtain ⟨rfl, rfl⟩ := H
    go_enter Try.func8, Try.ntmps8
    go_wp2_with (first | ((with_reducible refine gate_dst (N := 3) rfl ?_); refine box_event ?hg (N := 3) ?hd (cs := #[.int .i64 a1_0, .slice A1_1 l1_1.length c1_1, .int .i64 a1_2, .int .i64 a1_3, .int .i64 a1_4]) (t := 36) ?hr ?_; (case hd => rfl); (case hg => rfl); (case hr => first | (go_simp; done) | (go_simp; rfl)); intro gb hg_ w4 hbox hb; have n0_ := Aside0.mk (below_step HB.out hb); have gbK := Aside0.mk hbox; clear HB hbox hg_ hb; have HB := n0_; clear n0_) | ((with_reducible refine gate_callee (f := 34) rfl ?_); refine goesL_ (some 11) rfl rfl Try.func34 (by kernel_rfl) rfl #[.slice A0 l0.length c0] rfl (by (try simp only [List.map_toArray, List.map_cons, List.map_nil]); first | done | rfl) ?_; refine (spec_IsStore.calls k _ _ l0 _ _ (Kd.C_below HR0.out HB.out) HC0.out A9.out).mono ?_; rintro e w7 ⟨rfl, hb⟩; refine ⟨_, rfl, ?_⟩; have n1_ := Aside0.mk (below_step HB.out hb); have n2_ := Aside0.mk (blk_below gbK.out hb); clear HB gbK hb; have HB := n1_; have gbK := n2_; clear n1_ n2_) | ((with_reducible refine gate_callee (f := 35) rfl ?_); refine goesL_ (some 14) rfl rfl Try.func35 (by kernel_rfl) rfl #[.slice A0 l0.length c0] rfl (by (try simp only [List.map_toArray, List.map_cons, List.map_nil]); first | done | rfl) ?_; refine (spec_l7Copy.calls k _ _ l0 t1 _ (Kd.C_below HR0.out HB.out) HC0.out A3.out).mono ?_; rintro e w6 ⟨v1, rfl, ho0, hb⟩; refine ⟨_, rfl, ?_⟩; have HO := Aside0.mk (Kd.S_lower ho0 (below_size HB.out)); have n1_ := Aside0.mk (below_step HB.out hb); have n2_ := Aside0.mk (blk_below gbK.out hb); clear HB gbK ho0 hb; have HB := n1_; have gbK := n2_; clear n1_ n2_))
    go_ret2
    exact ⟨_, (by first | rfl | (simp [errW_none, errW_some] <;> rfl) | (simp [*, errW_none, errW_some] <;> rfl)), HO.out, (by repeat (first | (with_reducible first | exact HB.out | apply below_alloc | apply pw_below_drewN | apply below_drew1) | exact HB.out))⟩

/-! ### spec_l7Draw: function 73 -/
def spec_l7Draw.l0 : Nat → List (S63) → Int → List Int → Int → Int → Option ((List (S63)) × Int × Int)
  | 0, _, _, _, _, _ => none
  | k + 1, x3, x4, x1000, x1001, x1002 => if x4 > 0 then ((spec_l5Draw.f k x1000 x1001 x1002).bind fun bt431 => ((spec_PutPart.f k x3 bt431.1 bt431.2.1 bt431.2.2.1 bt431.2.2.2.1 bt431.2.2.2.2.1).bind fun bt440 => (spec_l7Draw.l0 k bt440.1 (wrap64 (x4 - 1)) x1000 bt431.2.2.2.2.2.1 bt431.2.2.2.2.2.2))) else (some (x3, x1001, x1002))
def spec_l7Draw.f (k : Nat) (s0_0 : List Int) (s0_1 : Int) (s0_2 : Int) : Option ((List (S63)) × Int × Int) := (spec_l1Below.f s0_0 s0_1 s0_2 7).bind fun bt428 => (spec_l7Draw.l0 k (([] : List (S63))) bt428.1 s0_0 bt428.2.1 bt428.2.2)
theorem Cur.rowS {w0 w W W' : World} {g : Nat} {s : List Int} {a b : Int} {base : Nat} {v : Value} {xs : List S63} (h : Cur w0 w W g s a b) (hO : Kd.S k63 63 W base (fun _ => True) v xs) (hk : KeepBut W W' g none) : Kd.S k63 63 W' base (fun _ => True) v xs := Kd.S_mono (Kd.S_keep (h.1.apartS hO (by decide)) hk (fun _ h => h.2)) (fun _ _ => trivial)
set_option maxHeartbeats 8000000 in
set_option maxRecDepth 100000 in
theorem spec_l7Draw.calls (k : Nat) (g : Nat) (s0_0 : List Int) (s0_1 : Int) (s0_2 : Int) (r1 : List (S63)) (r2 : Int) (r3 : Int) (w0 w : World) (hI : IsS88 w0 w g s0_0 s0_1 s0_2) (hB : Below w0.heap.size w0 w) (h : spec_l7Draw.f k s0_0 s0_1 s0_2 = some (r1, r2, r3)) :
    Calls Try.prog 73 #[.pointer (some ⟨g, 0, none⟩)] w fun e w' => ∃ v0_ : Value, e = .returned (v0_) ∧ Kd.S k63 63 w' w.heap.size (fun _ => True) v0_ r1 ∧ IsS88 w0 w' g s0_0 r2 r3 ∧ Below w0.heap.size w0 w' ∧ KeepBut w w' g none := by
  have hu36 := Try.underlying36
  have hu63 := Try.underlying63
  have CU := Aside0.mk (Cur.start hI hB)
  clear hI hB
  obtain ⟨⟨n, a1, b1⟩, A2, H⟩ := Option.bind_eq_some_iff.mp h
  clear h
  replace A2 := Aside0.mk A2
  dsimp only at H
  have HH := Aside0.mk H
  clear H
  go_enter Try.func73, Try.ntmps73
  go_wp2_with (first | ((with_reducible refine gate_dst (N := 5) rfl ?_); refine Kd.S_lit k63 _ 63 ?hg (N := 5) ?hd (xs := ([] : List (S63))) (inner := []) (ok := fun _ => True) (okp := fun _ => True) ?hr ?hp (fun _ hk => hk) trivial (Below.refl _ _) (Nat.le_refl _) (by simp) ?_; (case hd => rfl); (case hg => rfl); (case hr => first | (go_simp; done) | (go_simp; rfl)); (case hp => exact (Reps.none _ _)); intro v1 w1 ho hb hg_ hnew_; clear hg_ hnew_; have HO := Aside0.mk ho; have n0_ := Aside0.mk (CU.out.below hb); clear CU ho hb; have CU := n0_; clear n0_) | ((with_reducible refine gate_callee (f := 54) rfl ?_); refine goesL_ (some 7) rfl rfl Try.func54 (by kernel_rfl) rfl #[.pointer (some ⟨g, 0, none⟩), .int .i64 7] rfl (by (try simp only [List.map_toArray, List.map_cons, List.map_nil]); first | done | rfl) ?_; refine (spec_l1Below.calls g s0_0 _ _ 7 n a1 b1 w0 _ CU.out.1 CU.out.2.1 A2.out).mono ?_; rintro e w2 ⟨rfl, hi, hb, hk⟩; refine ⟨_, rfl, ?_⟩; have nO_ := Aside0.mk (CU.out.rowS HO.out hk); clear HO; have n0_ := Aside0.mk (CU.out.call hi hb hk); clear CU hi hb hk ; have CU := n0_; clear n0_ ; have HO := nO_; clear nO_))
  go_loopg [3, 4] k (fun kq v3 v4 w' => ∃ (xs : List S63) (i a b : Int), v4 = .int .i64 i ∧ Aside0 (spec_l7Draw.l0 kq xs i s0_0 a b = some (r1, r2, r3)) ∧ Aside0 (kq ≤ k) ∧ Aside0 (Kd.S k63 63 w' w.heap.size (fun _ => True) v3 xs) ∧ Aside0 (Cur w0 w w' g s0_0 a b))
  case atStart => exact ⟨[], n, a1, b1, rfl, HH, ⟨Nat.le_refl _⟩, HO, CU⟩
  case round =>
    clear HH CU HO
    try clear p2
    obtain ⟨xs, i, a1, b1, rfl, HA, HK2, HO, CU⟩ := hrel
    cases gk with
    | zero => exact absurd HA.out (by simp [spec_l7Draw.l0])
    | succ k2 =>
      have H := HA.out
      clear HA
      simp only [spec_l7Draw.l0] at H
      by_cases c3 : i > 0
      · rw [if_pos c3] at H
        have c3b : decide (0 < i) = true := decide_eq_true c3
        obtain ⟨⟨x0, xl, x2, x3, x4, a2, b2⟩, A3, H⟩ := Option.bind_eq_some_iff.mp H
        obtain ⟨⟨ys, yb⟩, A4, H⟩ := Option.bind_eq_some_iff.mp H
        replace A3 := Aside0.mk A3
        replace A4 := Aside0.mk A4
        have HH := Aside0.mk H
        clear H c3
        obtain ⟨Ax, cx, ex⟩ := Kd.S_slice HO.out
        subst ex
        go_wp2_with (first | ((with_reducible refine gate_callee (f := 75) rfl ?_); refine goesL_ (some 15) rfl rfl Try.func75 (by kernel_rfl) rfl #[.pointer (some ⟨g, 0, none⟩)] rfl (by (try simp only [List.map_toArray, List.map_cons, List.map_nil]); first | done | rfl) ?_; refine (spec_l5Draw.calls k2 g s0_0 _ _ x0 xl x2 x3 x4 a2 b2 w0 _ CU.out.1 CU.out.2.1 A3.out).mono ?_; rintro e w5 ⟨v5, rfl, ho, hi, hb, hk⟩; refine ⟨_, rfl, ?_⟩; obtain ⟨A5, c5, e5⟩ := Kd.R_slice ho; subst e5; have HR := Aside0.mk ho; clear ho; have nO_ := Aside0.mk (CU.out.rowS HO.out hk); clear HO; have n0_ := Aside0.mk (CU.out.call hi hb hk); clear CU hi hb hk ; have CU := n0_; clear n0_ ; have HO := nO_; clear nO_) | ((with_reducible refine gate_callee (f := 8) rfl ?_); refine goesL_ (some 16) rfl rfl Try.func8 (by kernel_rfl) rfl #[.slice Ax xs.length cx, .agg #[.int .i64 x0, .slice A5 xl.length c5, .int .i64 x2, .int .i64 x3, .int .i64 x4]] rfl (by (try simp only [List.map_toArray, List.map_cons, List.map_nil]); first | done | rfl) ?_; refine (spec_PutPart.calls k2 _ _ xs x0 _ _ xl x2 x3 x4 ys yb _ (Kd.S_reads' HO.out).2.2 (Kd.S_reads' HO.out).2.1 (Kd.R_reads' HR.out).2.2 (Kd.R_reads' HR.out).2.1 A4.out).mono ?_; rintro e w6 ⟨v1, rfl, ho0, hb⟩; refine ⟨_, rfl, ?_⟩; clear HO HR; have HO := Aside0.mk (Kd.S_lower ho0 CU.out.2.2.1); have n0_ := Aside0.mk (CU.out.below hb); clear CU ho0 hb; have CU := n0_; clear n0_))
        go_roundg k2
        case measure => have := HK2.out; omega
        case rel => exact ⟨ys, wrap64 (i - 1), a2, b2, (by first | rfl | (simp; done) | (simp [*]; done)), HH, ⟨by have := HK2.out; omega⟩, HO, CU⟩
      · rw [if_neg c3] at H
        have c3b : decide (0 < i) = false := decide_eq_false c3
        simp only [Option.some.injEq, Prod.mk.injEq] at H
        obtain ⟨rfl, rfl, rfl⟩ := H
        clear c3
        go_wp2
        go_ret
        exact ⟨_, (by first | rfl | (simp [errW_none, errW_some] <;> rfl) | (simp [*, errW_none, errW_some] <;> rfl)), HO.out, CU.out.1, CU.out.2.1, CU.out.2.2⟩

/-! ### spec_l7Any: function 51 -/
def spec_l7Any.f (k : Nat) (s0_0 : List Int) (s0_1 : Int) (s0_2 : Int) : Option ((List (S63)) × Int × Int) := (spec_l7Draw.f k s0_0 s0_1 s0_2).bind fun bt444 => (if (bt444.1.length : Int) = 0 then (some (bt444.1, bt444.2.1, bt444.2.2)) else ((spec_l1Below.f s0_0 bt444.2.1 bt444.2.2 (bt444.1.length : Int)).bind fun bt449 => ((spec_l1Below.f s0_0 bt449.2.1 bt449.2.2 9).bind fun bt452 => (if bt452.1 = 0 then (if 0 ≤ bt449.1 then (if bt449.1 < (bt444.1.length : Int) then (some ((bt444.1.set (bt449.1 : Int).toNat (⟨wrap64 (((rd_T63 bt444.1 bt449.1).f0) + 1), (⟨(rd_T63 bt444.1 bt449.1).f1.f0, (rd_T63 bt444.1 bt449.1).f1.f1, (⟨(rd_T63 bt444.1 bt449.1).f1.f2.f0, (rd_T63 bt444.1 bt449.1).f1.f2.f1, (rd_T63 bt444.1 bt449.1).f1.f2.f2⟩ : S34)⟩ : S36), (rd_T63 bt444.1 bt449.1).f2⟩ : S63)), bt452.2.1, bt452.2.2)) else (none)) else (none)) else (if bt452.1 = 1 then ((spec_l1Int.f s0_0 bt452.2.1 bt452.2.2 (([0, 1000, 1001, 9223372036854775807] : List Int))).bind fun bt460 => (if 0 ≤ bt449.1 then (if bt449.1 < (bt444.1.length : Int) then (some ((bt444.1.set (bt449.1 : Int).toNat (⟨(rd_T63 bt444.1 bt449.1).f0, (⟨(rd_T63 bt444.1 bt449.1).f1.f0, (rd_T63 bt444.1 bt449.1).f1.f1, (⟨(rd_T63 bt444.1 bt449.1).f1.f2.f0, (rd_T63 bt444.1 bt449.1).f1.f2.f1, (rd_T63 bt444.1 bt449.1).f1.f2.f2⟩ : S34)⟩ : S36), bt460.1⟩ : S63)), bt460.2.1, bt460.2.2)) else (none)) else (none))) else (if bt452.1 = 2 then ((spec_l5Any.f k s0_0 bt452.2.1 bt452.2.2).bind fun bt464 => (if 0 ≤ bt449.1 then (if bt449.1 < (bt444.1.length : Int) then (some ((bt444.1.set (bt449.1 : Int).toNat (⟨(rd_T63 bt444.1 bt449.1).f0, (⟨bt464.1, bt464.2.1, (⟨bt464.2.2.1, bt464.2.2.2.1, bt464.2.2.2.2.1⟩ : S34)⟩ : S36), (rd_T63 bt444.1 bt449.1).f2⟩ : S63)), bt464.2.2.2.2.2.1, bt464.2.2.2.2.2.2)) else (none)) else (none))) else (if bt452.1 = 3 then (if 0 < (bt444.1.length : Int) then (if bt444.1.length < 1954687338268 then (some ((bt444.1 ++ [(⟨(rd_T63 bt444.1 0).f0, (⟨(rd_T63 bt444.1 0).f1.f0, (rd_T63 bt444.1 0).f1.f1, (⟨(rd_T63 bt444.1 0).f1.f2.f0, (rd_T63 bt444.1 0).f1.f2.f1, (rd_T63 bt444.1 0).f1.f2.f2⟩ : S34)⟩ : S36), (rd_T63 bt444.1 0).f2⟩ : S63)]), bt452.2.1, bt452.2.2)) else (none)) else (none)) else (some (bt444.1, bt452.2.1, bt452.2.2)))))))))
set_option maxHeartbeats 8000000 in
set_option maxRecDepth 100000 in
theorem spec_l7Any.calls (k : Nat) (g : Nat) (s0_0 : List Int) (s0_1 : Int) (s0_2 : Int) (r1 : List (S63)) (r2 : Int) (r3 : Int) (w0 w : World) (hI : IsS88 w0 w g s0_0 s0_1 s0_2) (hB : Below w0.heap.size w0 w) (h : spec_l7Any.f k s0_0 s0_1 s0_2 = some (r1, r2, r3)) :
    Calls Try.prog 51 #[.pointer (some ⟨g, 0, none⟩)] w fun e w' => ∃ v0_ : Value, e = .returned (v0_) ∧ Kd.N k63 63 w' w.heap.size (fun k_ => (w.heap.size ≤ k_)) v0_ r1 ∧ IsS88 w0 w' g s0_0 r2 r3 ∧ Below w0.heap.size w0 w' ∧ KeepBut w w' g none := by
  have hu36 := Try.underlying36
  have hu63 := Try.underlying63
  have CU := Aside0.mk (Cur.start hI hB)
  have HL := Aside0.mk hB.size
  clear hI hB
  obtain ⟨⟨xs, a1, b1⟩, A2, H⟩ := Option.bind_eq_some_iff.mp h
  clear h
  replace A2 := Aside0.mk A2
  dsimp only at H
  by_cases cx : (xs.length : Int) = 0
  · rw [if_pos cx] at H
    have cxb : ((xs.length : Int) == 0) = true := beq_iff_eq.mpr cx
    simp only [Option.some.injEq, Prod.mk.injEq] at H
    obtain ⟨rfl, rfl, rfl⟩ := H
    go_enter Try.func51, Try.ntmps51
    go_wp2_with (first | ((with_reducible refine gate_callee (f := 73) rfl ?_); refine goesL_ (some 6) rfl rfl Try.func73 (by kernel_rfl) rfl #[.pointer (some ⟨g, 0, none⟩)] rfl (by (try simp only [List.map_toArray, List.map_cons, List.map_nil]); first | done | rfl) ?_; refine (spec_l7Draw.calls k g s0_0 _ _ xs a1 b1 w0 _ CU.out.1 CU.out.2.1 A2.out).mono ?_; rintro e w2 ⟨v1, rfl, ho, hi, hb, hk⟩; refine ⟨_, rfl, ?_⟩; have n0_ := Aside0.mk (CU.out.call hi hb hk); clear CU hi hb hk ; have CU := n0_; clear n0_ ; have HN := Aside0.mk (Kd.N_mono (ok' := fun k_ => w.heap.size ≤ k_ ∧ k_ ≠ g) (Kd.S_N (Kd.S_bound (CU.out.1.apartS ho (by decide)))) (fun k_ hk => ⟨hk.2.1, hk.1.2⟩)); clear ho; obtain ⟨Al, cl, el⟩ := Kd.N_slice HN.out; subst el))
    go_ret
    exact ⟨_, (by first | rfl | (simp [errW_none, errW_some] <;> rfl) | (simp [*, errW_none, errW_some] <;> rfl)), Kd.N_mono HN.out (fun _ h_ => h_.1), CU.out.1, CU.out.2.1, CU.out.2.2⟩
  · rw [if_neg cx] at H
    have cxb : ((xs.length : Int) == 0) = false := beq_eq_false_iff_ne.mpr cx
    obtain ⟨⟨ti, a2, b2⟩, A3, H⟩ := Option.bind_eq_some_iff.mp H
    obtain ⟨⟨n, a3, b3⟩, A4, H⟩ := Option.bind_eq_some_iff.mp H
    replace A3 := Aside0.mk A3
    replace A4 := Aside0.mk A4
    dsimp only at H
    have HH := Aside0.mk H
    clear H
    go_enter Try.func51, Try.ntmps51
    go_upto_region 6 with (first | ((with_reducible refine gate_callee (f := 73) rfl ?_); refine goesL_ (some 6) rfl rfl Try.func73 (by kernel_rfl) rfl #[.pointer (some ⟨g, 0, none⟩)] rfl (by (try simp only [List.map_toArray, List.map_cons, List.map_nil]); first | done | rfl) ?_; refine (spec_l7Draw.calls k g s0_0 _ _ xs a1 b1 w0 _ CU.out.1 CU.out.2.1 A2.out).mono ?_; rintro e w2 ⟨v1, rfl, ho, hi, hb, hk⟩; refine ⟨_, rfl, ?_⟩; have n0_ := Aside0.mk (CU.out.call hi hb hk); clear CU hi hb hk ; have CU := n0_; clear n0_ ; have HN := Aside0.mk (Kd.N_mono (ok' := fun k_ => w.heap.size ≤ k_ ∧ k_ ≠ g) (Kd.S_N (Kd.S_bound (CU.out.1.apartS ho (by decide)))) (fun k_ hk => ⟨hk.2.1, hk.1.2⟩)); clear ho; obtain ⟨Al, cl, el⟩ := Kd.N_slice HN.out; subst el) | ((with_reducible refine gate_callee (f := 54) rfl ?_); refine goesL_ (some 14) rfl rfl Try.func54 (by kernel_rfl) rfl #[.pointer (some ⟨g, 0, none⟩), .int .i64 xs.length] rfl (by (try simp only [List.map_toArray, List.map_cons, List.map_nil]); first | done | rfl) ?_; refine (spec_l1Below.calls g s0_0 _ _ xs.length ti a2 b2 w0 _ CU.out.1 CU.out.2.1 A3.out).mono ?_; rintro e w3 ⟨rfl, hi, hb, hk⟩; refine ⟨_, rfl, ?_⟩; have nN_ := Aside0.mk (Kd.N_keep HN.out hk (fun _ h_ => h_.2)); clear HN; have n0_ := Aside0.mk (CU.out.call hi hb hk); clear CU hi hb hk ; have CU := n0_; clear n0_ ; have HN := nN_; clear nN_) | ((with_reducible refine gate_callee (f := 54) rfl ?_); refine goesL_ (some 16) rfl rfl Try.func54 (by kernel_rfl) rfl #[.pointer (some ⟨g, 0, none⟩), .int .i64 9] rfl (by (try simp only [List.map_toArray, List.map_cons, List.map_nil]); first | done | rfl) ?_; refine (spec_l1Below.calls g s0_0 _ _ 9 n a3 b3 w0 _ CU.out.1 CU.out.2.1 A4.out).mono ?_; rintro e w4 ⟨rfl, hi, hb, hk⟩; refine ⟨_, rfl, ?_⟩; have nN_ := Aside0.mk (Kd.N_keep HN.out hk (fun _ h_ => h_.2)); clear HN; have n0_ := Aside0.mk (CU.out.call hi hb hk); clear CU hi hb hk ; have CU := n0_; clear n0_ ; have HN := nN_; clear nN_))
    have H := HH.out
    clear HH
    obtain ⟨gl, cl', el, _, _, _⟩ := Kd.N_form HN.out (by omega)
    injection el with ea _ ec
    subst ea
    subst ec
    by_cases c0 : n = 0
    · rw [if_pos c0] at H
      have cb : (n == 0) = true := beq_iff_eq.mpr c0
      by_cases h0 : 0 ≤ ti
      rotate_left
      · rw [if_neg h0] at H
        exact absurd H (by simp)
      rw [if_pos h0] at H
      by_cases h1 : ti < (xs.length : Int)
      rotate_left
      · rw [if_neg h1] at H
        exact absurd H (by simp)
      rw [if_pos h1] at H
      obtain ⟨i, rfl⟩ := Int.eq_ofNat_of_zero_le h0
      have hmax := (Kd.N_reads' HN.out).2.2.2.1
      have hlen := (Kd.N_reads' HN.out).2.1
      simp only [Option.some.injEq, Prod.mk.injEq] at H
      obtain ⟨e1, rfl, rfl⟩ := H
      have E1 := Aside0.mk e1
      clear e1
      obtain ⟨c, hcl, hF, hcc, hfr⟩ := Kd.N_elem HN.out z63 (i : Int) h0 h1
      obtain ⟨⟨d, ⟨kd, bd, ⟨ho, pa, qu⟩⟩, us⟩, hx⟩ : ∃ x, rd_T63 xs (i : Int) = x := ⟨_, rfl⟩
      rw [show xs.getD ((i : Int)).toNat z63 = _ from hx] at hF
      obtain ⟨A2, c2, ec, hl2, hF2⟩ := k63_openF hF
      dsimp only at ec hl2 hF2
      rw [hx] at E1
      clear hx hF
      subst ec
      have p14 := eq_true h0
      have p15 := eq_true h1
      have hz0 : w4.cell? ⟨gl, i * 7, none⟩ = _ := hcc 0 _ rfl
      have hf0 : w4.frozen? ⟨gl, i * 7, none⟩ = false := hfr 0
      have HP := Kd.N_seg HN.out (i : Int) h0 h1 hcl hcc (seg := [.int .i64 (wrap64 (d + 1))]) (j := 0) (show 1 ≤ 7 from by decide) (k63_mkF _ (fun k_ => (w.heap.size ≤ k_ ∧ k_ ≠ g) ∧ k_ ≠ gl) (⟨wrap64 (d + 1), (⟨kd, bd, (⟨ho, pa, qu⟩ : S34)⟩ : S36), us⟩ : S63) hl2 hF2) (fun _ h_ => h_)
      have hgl := HN.out.1 gl rfl
      have n0_ := CU.out.grown HL.out HP.2 (fun q_ e_ => by cases e_; exact hgl)
      have n1_ := HP.1
      go_upto_region 14 with fail
      replace n0_ : Cur w0 w (w4.setCell ⟨gl, i * 7, none⟩ (.int .i64 (wrap64 (d + 1)))) g s0_0 _ _ := n0_
      replace n1_ : Kd.N k63 63 (w4.setCell ⟨gl, i * 7, none⟩ (.int .i64 (wrap64 (d + 1)))) _ _ _ _ := n1_
      generalize (w4.setCell ⟨gl, i * 7, none⟩ (.int .i64 (wrap64 (d + 1)))) = w9 at n0_ n1_ ⊢
      clear HP HN CU hcc hfr
      go_wp2
      go_ret
      refine ⟨_, (by first | rfl | (simp [errW_none, errW_some] <;> rfl) | (simp [*, errW_none, errW_some] <;> rfl)), ?_, n0_.1, n0_.2.1, n0_.2.2⟩
      rw [← E1.out]
      exact Kd.N_mono n1_ (fun _ h_ => h_.1)
    · rw [if_neg c0] at H
      have cb : (n == 0) = false := beq_eq_false_iff_ne.mpr c0
      by_cases c1 : n = 1
      · rw [if_pos c1] at H
        have cb1 : (n == 1) = true := beq_iff_eq.mpr c1
        obtain ⟨⟨v, a4, b4⟩, AV, H⟩ := Option.bind_eq_some_iff.mp H
        replace AV := Aside0.mk AV
        dsimp only at H
        by_cases h0 : 0 ≤ ti
        rotate_left
        · rw [if_neg h0] at H
          exact absurd H (by simp)
        rw [if_pos h0] at H
        by_cases h1 : ti < (xs.length : Int)
        rotate_left
        · rw [if_neg h1] at H
          exact absurd H (by simp)
        rw [if_pos h1] at H
        obtain ⟨i, rfl⟩ := Int.eq_ofNat_of_zero_le h0
        have hmax := (Kd.N_reads' HN.out).2.2.2.1
        have hlen := (Kd.N_reads' HN.out).2.1
        simp only [Option.some.injEq, Prod.mk.injEq] at H
        obtain ⟨e1, rfl, rfl⟩ := H
        have E1 := Aside0.mk e1
        clear e1
        go_wp2_with fail
        have HNG := Aside0.mk (show g ≠ w4.heap.size from Nat.ne_of_lt CU.out.1.lt)
        have hb_ := below_alloc (Below.refl w4.heap.size w4) (Obj.cells #[.int .i64 0, .int .i64 1000, .int .i64 1001, .int .i64 9223372036854775807] 3)
        have n0_ := Aside0.mk (CU.out.below hb_)
        have n1_ := Aside0.mk (Kd.N_below HN.out hb_)
        clear CU HN hb_
        have CU := n0_
        have HN := n1_
        clear n0_ n1_
        refine (spec_l1Int.calls g s0_0 _ _ _ _ ([0, 1000, 1001, 9223372036854775807] : List Int) v a4 b4 w0 _ CU.out.1 CU.out.2.1 (Kd.R_reads' (lit_ints w4 [0, 1000, 1001, 9223372036854775807] (by decide))).2.2 (Nat.le_refl _) (lit_far HNG.out) AV.out).mono ?_
        rintro e w5 ⟨rfl, hi, hb, hk⟩
        have nN_ := Aside0.mk (Kd.N_keep HN.out hk (fun _ h_ => h_.2))
        clear HN
        have n0_ := Aside0.mk (CU.out.call hi hb hk)
        clear CU hi hb hk 
        have CU := n0_
        clear n0_ 
        have HN := nN_
        clear nN_
        obtain ⟨c, hcl, hF, hcc, hfr⟩ := Kd.N_elem HN.out z63 (i : Int) h0 h1
        obtain ⟨⟨d, ⟨kd, bd, ⟨ho, pa, qu⟩⟩, us⟩, hx⟩ : ∃ x, rd_T63 xs (i : Int) = x := ⟨_, rfl⟩
        rw [show xs.getD ((i : Int)).toNat z63 = _ from hx] at hF
        obtain ⟨A2, c2, ec, hl2, hF2⟩ := k63_openF hF
        dsimp only at ec hl2 hF2
        rw [hx] at E1
        clear hx hF
        subst ec
        have p14 := eq_true h0
        have p15 := eq_true h1
        have hz6 : w5.cell? ⟨gl, i * 7 + 6, none⟩ = _ := hcc 6 _ rfl
        have hf6 : w5.frozen? ⟨gl, i * 7 + 6, none⟩ = false := hfr 6
        have HP := Kd.N_seg HN.out (i : Int) h0 h1 hcl hcc (seg := [.int .i64 v]) (j := 6) (show 7 ≤ 7 from by decide) (k63_mkF _ (fun k_ => (w.heap.size ≤ k_ ∧ k_ ≠ g) ∧ k_ ≠ gl) (⟨d, (⟨kd, bd, (⟨ho, pa, qu⟩ : S34)⟩ : S36), v⟩ : S63) hl2 hF2) (fun _ h_ => h_)
        have hgl := HN.out.1 gl rfl
        have n0_ := CU.out.grown HL.out HP.2 (fun q_ e_ => by cases e_; exact hgl)
        have n1_ := HP.1
        go_upto_region 14 with fail
        replace n0_ : Cur w0 w (w5.setCell ⟨gl, i * 7 + 6, none⟩ (.int .i64 v)) g s0_0 _ _ := n0_
        replace n1_ : Kd.N k63 63 (w5.setCell ⟨gl, i * 7 + 6, none⟩ (.int .i64 v)) _ _ _ _ := n1_
        generalize (w5.setCell ⟨gl, i * 7 + 6, none⟩ (.int .i64 v)) = w9 at n0_ n1_ ⊢
        clear HP HN CU hcc hfr
        go_wp2
        go_ret
        refine ⟨_, (by first | rfl | (simp [errW_none, errW_some] <;> rfl) | (simp [*, errW_none, errW_some] <;> rfl)), ?_, n0_.1, n0_.2.1, n0_.2.2⟩
        rw [← E1.out]
        exact Kd.N_mono n1_ (fun _ h_ => h_.1)
      · rw [if_neg c1] at H
        have cb1 : (n == 1) = false := beq_eq_false_iff_ne.mpr c1
        by_cases c2 : n = 2
        · rw [if_pos c2] at H
          have cb2 : (n == 2) = true := beq_iff_eq.mpr c2
          have HW4 := Aside0.mk CU.out.2.2.1
          obtain ⟨⟨y0, yl, y2, y3, y4, a4, b4⟩, AV, H⟩ := Option.bind_eq_some_iff.mp H
          replace AV := Aside0.mk AV
          dsimp only at H
          by_cases h0 : 0 ≤ ti
          rotate_left
          · rw [if_neg h0] at H
            exact absurd H (by simp)
          rw [if_pos h0] at H
          by_cases h1 : ti < (xs.length : Int)
          rotate_left
          · rw [if_neg h1] at H
            exact absurd H (by simp)
          rw [if_pos h1] at H
          obtain ⟨i, rfl⟩ := Int.eq_ofNat_of_zero_le h0
          have hmax := (Kd.N_reads' HN.out).2.2.2.1
          have hlen := (Kd.N_reads' HN.out).2.1
          simp only [Option.some.injEq, Prod.mk.injEq] at H
          obtain ⟨e1, rfl, rfl⟩ := H
          have E1 := Aside0.mk e1
          clear e1
          go_wp2_with fail
          refine (spec_l5Any.calls k g s0_0 _ _ y0 yl y2 y3 y4 a4 b4 w0 _ CU.out.1 CU.out.2.1 AV.out).mono ?_
          rintro e w5 ⟨v5, rfl, hro, hi, hb, hk⟩
          have hglt := Kd.N_lt HN.out gl rfl
          have nN_ := Aside0.mk (Kd.N_keep HN.out hk (fun _ h_ => h_.2))
          clear HN
          have n0_ := Aside0.mk (CU.out.call hi hb hk)
          clear CU hi hb hk 
          have CU := n0_
          clear n0_ 
          have HN := nN_
          clear nN_
          obtain ⟨A5, c5, e5⟩ := Kd.R_slice hro
          subst e5
          have HR := Kd.V_F (Kd.V_mono (ok' := fun k_ => (w.heap.size ≤ k_ ∧ k_ ≠ g) ∧ k_ ≠ gl) (Kd.R_V (base' := 0) (Kd.R_bound (CU.out.1.apart hro (by decide)))) (fun k_ h_ => ⟨⟨Nat.le_trans HW4.out h_.2.1, h_.1.2⟩, by have := h_.2.1; omega⟩))
          have HR5 := (Kd.R_reads' hro).2.1
          clear hro hglt
          obtain ⟨c, hcl, hF, hcc, hfr⟩ := Kd.N_elem HN.out z63 (i : Int) h0 h1
          obtain ⟨⟨d, ⟨kd, bd, ⟨ho, pa, qu⟩⟩, us⟩, hx⟩ : ∃ x, rd_T63 xs (i : Int) = x := ⟨_, rfl⟩
          rw [show xs.getD ((i : Int)).toNat z63 = _ from hx] at hF
          obtain ⟨A2, c2, ec, hl2, hF2⟩ := k63_openF hF
          dsimp only at ec hl2 hF2
          rw [hx] at E1
          clear hx hF
          subst ec
          have p14 := eq_true h0
          have p15 := eq_true h1
          have hz1 : w5.cell? ⟨gl, i * 7 + 1, none⟩ = _ := hcc 1 _ rfl
          have hf1 : w5.frozen? ⟨gl, i * 7 + 1, none⟩ = false := hfr 1
          have hz2 : w5.cell? ⟨gl, i * 7 + 2, none⟩ = _ := hcc 2 _ rfl
          have hf2 : w5.frozen? ⟨gl, i * 7 + 2, none⟩ = false := hfr 2
          have hz3 : w5.cell? ⟨gl, i * 7 + 3, none⟩ = _ := hcc 3 _ rfl
          have hf3 : w5.frozen? ⟨gl, i * 7 + 3, none⟩ = false := hfr 3
          have hz4 : w5.cell? ⟨gl, i * 7 + 4, none⟩ = _ := hcc 4 _ rfl
          have hf4 : w5.frozen? ⟨gl, i * 7 + 4, none⟩ = false := hfr 4
          have hz5 : w5.cell? ⟨gl, i * 7 + 5, none⟩ = _ := hcc 5 _ rfl
          have hf5 : w5.frozen? ⟨gl, i * 7 + 5, none⟩ = false := hfr 5
          have HP := Kd.N_seg HN.out (i : Int) h0 h1 hcl hcc (seg := [.int .i64 y0, .slice A5 yl.length c5, .int .i64 y2, .int .i64 y3, .int .i64 y4]) (j := 1) (show 6 ≤ 7 from by decide) (k63_mkF _ (fun k_ => (w.heap.size ≤ k_ ∧ k_ ≠ g) ∧ k_ ≠ gl) (⟨d, (⟨y0, yl, (⟨y2, y3, y4⟩ : S34)⟩ : S36), us⟩ : S63) HR5 HR) (fun _ h_ => h_)
          have hgl := HN.out.1 gl rfl
          have n0_ := CU.out.grown HL.out HP.2 (fun q_ e_ => by cases e_; exact hgl)
          have n1_ := HP.1
          go_upto_region 14 with fail
          replace n0_ : Cur w0 w (((((w5.setCell ⟨gl, i * 7 + 1, none⟩ (.int .i64 y0)).setCell ⟨gl, i * 7 + 2, none⟩ (.slice A5 yl.length c5)).setCell ⟨gl, i * 7 + 3, none⟩ (.int .i64 y2)).setCell ⟨gl, i * 7 + 4, none⟩ (.int .i64 y3)).setCell ⟨gl, i * 7 + 5, none⟩ (.int .i64 y4)) g s0_0 _ _ := n0_
          replace n1_ : Kd.N k63 63 (((((w5.setCell ⟨gl, i * 7 + 1, none⟩ (.int .i64 y0)).setCell ⟨gl, i * 7 + 2, none⟩ (.slice A5 yl.length c5)).setCell ⟨gl, i * 7 + 3, none⟩ (.int .i64 y2)).setCell ⟨gl, i * 7 + 4, none⟩ (.int .i64 y3)).setCell ⟨gl, i * 7 + 5, none⟩ (.int .i64 y4)) _ _ _ _ := n1_
          generalize (((((w5.setCell ⟨gl, i * 7 + 1, none⟩ (.int .i64 y0)).setCell ⟨gl, i * 7 + 2, none⟩ (.slice A5 yl.length c5)).setCell ⟨gl, i * 7 + 3, none⟩ (.int .i64 y2)).setCell ⟨gl, i * 7 + 4, none⟩ (.int .i64 y3)).setCell ⟨gl, i * 7 + 5, none⟩ (.int .i64 y4)) = w9 at n0_ n1_ ⊢
          clear HP HN CU hcc hfr
          go_wp2
          go_ret
          refine ⟨_, (by first | rfl | (simp [errW_none, errW_some] <;> rfl) | (simp [*, errW_none, errW_some] <;> rfl)), ?_, n0_.1, n0_.2.1, n0_.2.2⟩
          rw [← E1.out]
          exact Kd.N_mono n1_ (fun _ h_ => h_.1)
        · rw [if_neg c2] at H
          have cb2 : (n == 2) = false := beq_eq_false_iff_ne.mpr c2
          by_cases c3 : n = 3
          · rw [if_pos c3] at H
            have cb3 : (n == 3) = true := beq_iff_eq.mpr c3
            by_cases h1 : 0 < (xs.length : Int)
            rotate_left
            · rw [if_neg h1] at H
              exact absurd H (by simp)
            rw [if_pos h1] at H
            by_cases h2 : xs.length < 1954687338268
            rotate_left
            · rw [if_neg h2] at H
              exact absurd H (by simp)
            rw [if_pos h2] at H
            have h0 : (0 : Int) ≤ 0 := Int.le_refl _
            simp only [Option.some.injEq, Prod.mk.injEq] at H
            obtain ⟨e1, rfl, rfl⟩ := H
            have E1 := Aside0.mk e1
            clear e1
            obtain ⟨c, hcl, hF, hcc, hfr⟩ := Kd.N_elem HN.out z63 (0 : Int) h0 h1
            obtain ⟨⟨d, ⟨kd, bd, ⟨ho, pa, qu⟩⟩, us⟩, hx⟩ : ∃ x, rd_T63 xs (0 : Int) = x := ⟨_, rfl⟩
            rw [show xs.getD ((0 : Int)).toNat z63 = _ from hx] at hF
            obtain ⟨A2, c2, ec, hl2, hF2⟩ := k63_openF hF
            dsimp only at ec hl2 hF2
            rw [hx] at E1
            clear hx hF
            subst ec
            have hgl := HN.out.1 gl rfl
            have hlen := (Kd.N_reads' HN.out).2.1
            have p15 := eq_true h1
            have hz0 : w4.cell? ⟨gl, 0, none⟩ = _ := hcc 0 _ rfl
            have hz1 : w4.cell? ⟨gl, 1, none⟩ = _ := hcc 1 _ rfl
            have hz2 : w4.cell? ⟨gl, 2, none⟩ = _ := hcc 2 _ rfl
            have hz3 : w4.cell? ⟨gl, 3, none⟩ = _ := hcc 3 _ rfl
            have hz4 : w4.cell? ⟨gl, 4, none⟩ = _ := hcc 4 _ rfl
            have hz5 : w4.cell? ⟨gl, 5, none⟩ = _ := hcc 5 _ rfl
            have hz6 : w4.cell? ⟨gl, 6, none⟩ = _ := hcc 6 _ rfl
            clear hcc hfr
            go_wp2_with (first | ((with_reducible refine gate_builtin (b := .append) (xs := #[.tmp 48, .tmp 52]) rfl ?_); at_builtin; refine Kd.N_append k63 w.heap.size rfl (.tmp 48) (.tmp 52) 30 63 (.agg #[.int .i64 0, .int .i64 0, .slice none 0 0, .int .i64 0, .int .i64 0, .int .i64 0, .int .i64 0]) 72 rfl Try.underlying30 info63 rfl (by decide) (by omega) (.slice (some ⟨gl, 0, none⟩) xs.length cl) xs (⟨d, (⟨kd, bd, (⟨ho, pa, qu⟩ : S34)⟩ : S36), us⟩ : S63) [.int .i64 d, .int .i64 kd, .slice A2 bd.length c2, .int .i64 ho, .int .i64 pa, .int .i64 qu, .int .i64 us] (fun k_ => w.heap.size ≤ k_ ∧ k_ ≠ g) (fun k_ => (w.heap.size ≤ k_ ∧ k_ ≠ g) ∧ k_ ≠ gl) rfl rfl (k63_mkF _ _ (⟨d, (⟨kd, bd, (⟨ho, pa, qu⟩ : S34)⟩ : S36), us⟩ : S63) hl2 hF2) (fun k_ h_ => ⟨h_.1, fun e_ => h_.2 (Option.some.inj e_)⟩) (fun k_ h_ => ⟨Nat.le_trans CU.out.2.2.1 h_, fun e_ => by have := CU.out.1.lt; omega⟩) HN.out (Below.refl _ _) CU.out.2.2.1 (by omega) ?_; intro v6 w6 hn6 _ hg6 _; have n0_ := CU.out.grown HL.out hg6 (fun q_ e_ => by cases e_; exact hgl); have n1_ := hn6; clear CU HN hn6 hg6))
            go_ret
            refine ⟨_, (by first | rfl | (simp [errW_none, errW_some] <;> rfl) | (simp [*, errW_none, errW_some] <;> rfl)), ?_, n0_.1, n0_.2.1, n0_.2.2⟩
            rw [← E1.out]
            exact Kd.N_mono n1_ (fun _ h_ => h_.1)
          · rw [if_neg c3] at H
            have cb3 : (n == 3) = false := beq_eq_false_iff_ne.mpr c3
            simp only [Option.some.injEq, Prod.mk.injEq] at H
            obtain ⟨rfl, rfl, rfl⟩ := H
            go_wp2
            go_ret
            exact ⟨_, (by first | rfl | (simp [errW_none, errW_some] <;> rfl) | (simp [*, errW_none, errW_some] <;> rfl)), Kd.N_mono HN.out (fun _ h_ => h_.1), CU.out.1, CU.out.2.1, CU.out.2.2⟩

/-! ### spec_l1Once: function 53 -/
def spec_l1Once.f (s0_0 : List Int) (s0_1 : Int) (s0_2 : Int) (a1 : Int) : Option (Bool × Int × Int) := (spec_l1Below.f s0_0 s0_1 s0_2 a1).bind fun bt478 => (some ((bt478.1 == 0), bt478.2.1, bt478.2.2))
set_option maxHeartbeats 8000000 in
set_option maxRecDepth 100000 in
theorem spec_l1Once.calls (g : Nat) (s0_0 : List Int) (s0_1 : Int) (s0_2 : Int) (a1 : Int) (r1 : Bool) (r2 : Int) (r3 : Int) (w0 w : World) (hI : IsS88 w0 w g s0_0 s0_1 s0_2) (hB : Below w0.heap.size w0 w) (h : spec_l1Once.f s0_0 s0_1 s0_2 a1 = some (r1, r2, r3)) :
    Calls Try.prog 53 #[.pointer (some ⟨g, 0, none⟩), .int .i64 a1] w fun e w' => e = .returned (.bool r1) ∧ IsS88 w0 w' g s0_0 r2 r3 ∧ Below w0.heap.size w0 w' ∧ KeepBut w w' g none := by
  have HI0 := Aside0.mk hI
  have HK := Aside0.mk (KeepBut.refl w g none)
  have HL := Aside0.mk hB.size
  clear hI
  have HW0 := Aside0.mk hB.size
  have HB := Aside0.mk hB
  clear hB
  have H : ((spec_l1Below.f s0_0 s0_1 s0_2 a1).bind fun bt478 => (some ((bt478.1 == 0), bt478.2.1, bt478.2.2))) = some (r1, r2, r3) := h
  clear h
  replace H := Option.bind_eq_some_iff.mp H
  obtain ⟨⟨t478, t479, t480⟩, A30, H⟩ := H
  replace H : (some ((t478 == 0), t479, t480)) = some (r1, r2, r3) := H
  have A3 := Aside0.mk A30
  clear A30
  simp only [Option.some.injEq, Prod.mk.injEq] at H
  obtain ⟨rfl, rfl, rfl⟩ := H
  go_enter Try.func53, Try.ntmps53
  go_wp2_with (first | ((with_reducible refine gate_callee (f := 54) rfl ?_); refine goesL_ (some 7) rfl rfl Try.func54 (by kernel_rfl) rfl #[.pointer (some ⟨g, 0, none⟩), .int .i64 a1] rfl (by (try simp only [List.map_toArray, List.map_cons, List.map_nil]); first | done | rfl | (simp only [List.length_drop, List.length_take]; rfl)) ?_; (with_reducible refine (spec_l1Below.calls g s0_0 s0_1 s0_2 a1 t478 t479 t480 w0 _ ?side1 ?side2 A3.out).mono ?_); (case side1 => repeat (first | (with_reducible first | exact HI0.out | apply IsS88.alloc | apply IsS88.drewN | apply IsS88.drew | apply IsS88.set_1 | apply IsS88.set_2) | exact HI0.out)); (case side2 => repeat (first | (with_reducible first | exact HB.out | apply below_alloc | apply pw_below_drewN | apply below_drew1 | refine below_set ?_ (IsS88.ge HI0.out)) | exact HB.out)); rintro e w4 ⟨rfl, hi, hb, hk⟩; refine ⟨_, rfl, ?_⟩; have n0_ := Aside0.mk (KeepBut.trans (by repeat (first | (with_reducible first | exact HK.out | apply KeepBut.set_ | apply keep_drewN | apply keep_drew | apply keep_alloc) | exact HK.out)) hk (.inl rfl)); have n1_ := Aside0.mk (hb); have n2_ := Aside0.mk (hi); clear HK; clear HB; clear HI0; have HK := n0_; have HB := n1_; have HI0 := n2_; clear n0_ n1_ n2_; (try clear hb); (try clear hb2); (try clear hk); (try clear hi)))
  go_ret
  exact ⟨by first | rfl | (simp [errW_none, errW_some] <;> rfl) | (simp [*, errW_none, errW_some] <;> rfl), by repeat (first | (with_reducible first | exact HI0.out | apply IsS88.alloc | apply IsS88.drewN | apply IsS88.drew | apply IsS88.set_1 | apply IsS88.set_2) | exact HI0.out), by repeat (first | (with_reducible first | exact HB.out | apply below_alloc | apply pw_below_drewN | apply below_drew1 | refine below_set ?_ (IsS88.ge HI0.out)) | exact HB.out), by repeat (first | (with_reducible first | exact HK.out | apply KeepBut.set_ | apply keep_drewN | apply keep_drew | apply keep_alloc) | exact HK.out)⟩

end Go.Proofs.Ytlpfobakbgipbaa.QFnParts
