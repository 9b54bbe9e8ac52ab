/- The Go functions that the law FnParts comes to, each as a Lean function, with a proof that the call does what it says; written by a program of this session over the print of the kit. No conditions. -/
import Derived.Laws.Externs
import Derived.Lib.Overlaps
import Derived.Lib.AppendZerosOnto
import Derived.Test.YtlpfobakbgipbaaProg
import Derived.Below
import Derived.Deep.Draws
import Derived.Deep.AppendLies
import Derived.Maps.AppendAt
import Derived.OwnWalk
import Derived.Laws.BytesArg
import Derived.Laws.MakeOwn
import Derived.Laws.OwnMore
import Derived.Deep.OwnRows
import Derived.Tactics
import Derived.Lib.ConvBytes
import Derived.Laws.Slices
import Derived.WalkKit
import Derived.KernelRfl
import Derived.RowKit3
import Derived.Deep.LoopGhost
import Derived.Deep.QuietTactic
import Derived.BigQuiet
import Derived.WideLaws
import Derived.Deep.DeepCutAuto
import Derived.Deep.CutBlock
import Derived.Deep.RegionHeld3
import Derived.Laws.Rows
import Derived.Lib.AppendStr
import Derived.ArgAppend
import Derived.Laws.IdiomCopy
import Derived.OrdersHeld
import Derived.Laws.BitsLemmas
import Derived.RowKit
import Derived.Test.YtlpfobakbgipbaaWWords
import Derived.Test.YtlpfobakbgipbaaWLast
import Derived.Test.YtlpfobakbgipbaaWTab
import Derived.Test.YtlpfobakbgipbaaWFour
import Derived.Test.YtlpfobakbgipbaaWQPut
import Derived.Test.YtlpfobakbgipbaaWApart
import Derived.Test.YtlpfobakbgipbaaWArr
import Derived.Test.YtlpfobakbgipbaaWZeros
import Derived.Test.YtlpfobakbgipbaaWFoot
import Derived.Test.YtlpfobakbgipbaaWKept
import Derived.Test.YtlpfobakbgipbaaWShare
import Derived.Test.YtlpfobakbgipbaaWN
import Derived.Test.YtlpfobakbgipbaaWFootNe
import Derived.Test.YtlpfobakbgipbaaWAt
import Derived.Test.YtlpfobakbgipbaaWEqStruct
import Derived.Test.YtlpfobakbgipbaaWRepsOne
import Derived.Test.YtlpfobakbgipbaaWInv
import Derived.Test.YtlpfobakbgipbaaWInvWords
import Derived.Test.YtlpfobakbgipbaaWGuard
import Derived.Test.YtlpfobakbgipbaaWNEv
import Derived.Test.YtlpfobakbgipbaaWMore
namespace Go.Proofs.Ytlpfobakbgipbaa.QFnParts
open Go.RowKit Go.Proofs.YtlpfobakbgipbaaW.PrintWords Go.Proofs.YtlpfobakbgipbaaW.PrintLast Go.Proofs.YtlpfobakbgipbaaW.PrintMore
attribute [local go_sem] max2_int min2_int max_two min_two max_three min_three max_four min_four   -- for this text's walks alone
set_option linter.unusedVariables false
set_option linter.unusedSimpArgs false



def errW : Option Int → Value
  | none => .nilIface
  | some c => .iface 0 (.int .i64 c)
theorem errW_none : errW none = .nilIface := rfl
theorem errW_some (c : Int) : errW (some c) = .iface 0 (.int .i64 c) := rfl

theorem info3 : (Try.prog.info? 3).map (fun i => (i.zero, i.size, i.bytes)) = some (some (.int .i64 0), 1, 8) := by kernel_rfl
theorem info63 : (Try.prog.info? 63).map (fun i => (i.zero, i.size, i.bytes)) = some (some (.agg #[(.int .i64 0), (.int .i64 0), (.slice none 0 0), (.int .i64 0), (.int .i64 0), (.int .i64 0), (.int .i64 0)]), 7, 72) := by kernel_rfl
-- the values' own types
def rd_L1 (xs : List (List Int)) (i : Int) : (List Int) := xs.getD i.toNat ([] : List Int)
theorem at_L1 {w : World} {A : Option Addr} {n : Nat} {xs : List (List Int)} (h : Kd.C (Kd.slice 3 (Kd.int .i64)) w A n xs) (i : Int) (h0 : 0 ≤ i) (h1 : i < n) : ∃ ad A0 c0, A = some ad ∧ w.cell? (ad.add i.toNat) = some (.slice A0 (rd_L1 xs i).length c0) ∧ (rd_L1 xs i).length ≤ c0 ∧ (Kd.int .i64).C w A0 (rd_L1 xs i).length (rd_L1 xs i) := by
  obtain ⟨ad, c, e, _, hK, hc0⟩ := Kd.C_get h ([] : List Int) i h0 h1
  have hc : ∀ j u, c[j]? = some u → w.cell? (ad.add (i.toNat * 1 + j)) = some u := hc0
  obtain ⟨A0, c0, rfl, l0, g0⟩ := hK
  exact ⟨ad, A0, c0, e, by have hq := hc 0 _ rfl; rwa [Nat.mul_one, Nat.add_zero] at hq, l0, g0⟩

/-! #### struct type 34 -/
structure S34 where
  f0 : Int
  f1 : Int
  f2 : Int
def z34 : S34 := ⟨(0 : Int), (0 : Int), (0 : Int)⟩
def k34 : Kd S34 := Kd.iso (Kd.pair (Kd.int .i64) (Kd.pair (Kd.int .i64) (Kd.int .i64))) (fun x : S34 => (x.f0, x.f1, x.f2))
theorem k34_open {w : World} {x : S34} {cs : List Value} (h : k34.K w x cs) : cs = [.int .i64 x.f0, .int .i64 x.f1, .int .i64 x.f2] := by
  obtain ⟨_, _, rfl, rfl, ⟨_, _, rfl, rfl, rfl⟩⟩ := h
  exact rfl
theorem k34_openM {w : World} {base : Nat} {ok : Nat → Prop} {x : S34} {cs : List Value} (h : k34.M w base ok x cs) : cs = [.int .i64 x.f0, .int .i64 x.f1, .int .i64 x.f2] := by
  obtain ⟨_, _, rfl, rfl, ⟨_, _, rfl, rfl, rfl⟩⟩ := h
  exact rfl
theorem k34_mk (w : World) (x : S34)  : k34.K w x [.int .i64 x.f0, .int .i64 x.f1, .int .i64 x.f2] := ⟨[.int .i64 x.f0], [.int .i64 x.f1, .int .i64 x.f2], rfl, rfl, ⟨[.int .i64 x.f1], [.int .i64 x.f2], rfl, rfl, rfl⟩⟩
theorem k34_mkM (w : World) (base : Nat) (ok : Nat → Prop) (x : S34)  : k34.M w base ok x [.int .i64 x.f0, .int .i64 x.f1, .int .i64 x.f2] := ⟨[.int .i64 x.f0], [.int .i64 x.f1, .int .i64 x.f2], rfl, rfl, ⟨[.int .i64 x.f1], [.int .i64 x.f2], rfl, rfl, rfl⟩⟩
theorem k34_mkF (W : World) (ok : Nat → Prop) (x : S34) : Kd.FK k34 W ok x [.int .i64 x.f0, .int .i64 x.f1, .int .i64 x.f2] := fun W2 _ => k34_mk W2 x
def rd_T34 (xs : List S34) (i : Int) : S34 := xs.getD i.toNat z34
theorem at_T34 {w : World} {A : Option Addr} {n : Nat} {xs : List S34} (h : Kd.C k34 w A n xs) (i : Int) (h0 : 0 ≤ i) (h1 : i < n) : ∃ ad , A = some ad ∧ w.cell? (ad.add (i.toNat * 3)) = some (.int .i64 (rd_T34 xs i).f0) ∧ w.cell? ⟨(ad.add (i.toNat * 3)).block, (ad.add (i.toNat * 3)).off + 1, none⟩ = some (.int .i64 (rd_T34 xs i).f1) ∧ w.cell? ⟨(ad.add (i.toNat * 3)).block, (ad.add (i.toNat * 3)).off + 2, none⟩ = some (.int .i64 (rd_T34 xs i).f2) := by
  obtain ⟨ad, c, e, _, hK, hc0⟩ := Kd.C_get h z34 i h0 h1
  have hc : ∀ j u, c[j]? = some u → w.cell? (ad.add (i.toNat * 3 + j)) = some u := hc0
  obtain rfl := k34_open hK
  exact ⟨ad, e, hc 0 _ rfl, by rw [← add_field _ _ 1 (by omega)]; exact hc 1 _ rfl, by rw [← add_field _ _ 2 (by omega)]; exact hc 2 _ rfl⟩

/-! #### struct type 36 -/
structure S36 where
  f0 : Int
  f1 : (List Int)
  f2 : S34
def z36 : S36 := ⟨(0 : Int), ([] : List Int), z34⟩
def k36 : Kd S36 := Kd.iso (Kd.pair (Kd.int .i64) (Kd.pair (Kd.slice 3 (Kd.int .i64)) k34)) (fun x : S36 => (x.f0, x.f1, x.f2))
theorem k36_open {w : World} {x : S36} {cs : List Value} (h : k36.K w x cs) : ∃ A1 c1, cs = [.int .i64 x.f0, .slice A1 x.f1.length c1, .int .i64 x.f2.f0, .int .i64 x.f2.f1, .int .i64 x.f2.f2] ∧ x.f1.length ≤ c1 ∧ (Kd.int .i64).C w A1 x.f1.length x.f1 := by
  obtain ⟨_, _, rfl, rfl, ⟨_, _, rfl, ⟨A1, c1, rfl, l1, g1⟩, s2⟩⟩ := h
  obtain rfl := k34_open s2
  exact ⟨A1, c1, rfl, l1, g1⟩
theorem k36_openM {w : World} {base : Nat} {ok : Nat → Prop} {x : S36} {cs : List Value} (h : k36.M w base ok x cs) : ∃ v1, cs = [.int .i64 x.f0, v1, .int .i64 x.f2.f0, .int .i64 x.f2.f1, .int .i64 x.f2.f2] ∧ (Kd.int .i64).R 3 w base ok v1 x.f1 := by
  obtain ⟨_, _, rfl, rfl, ⟨_, _, rfl, ⟨v1, rfl, g1⟩, s2⟩⟩ := h
  obtain rfl := k34_openM s2
  exact ⟨v1, rfl, g1⟩
theorem k36_mk (w : World) (x : S36) {A1 : Option Addr} {c1 : Nat} (l1 : x.f1.length ≤ c1) (g1 : (Kd.int .i64).C w A1 x.f1.length x.f1) : k36.K w x [.int .i64 x.f0, .slice A1 x.f1.length c1, .int .i64 x.f2.f0, .int .i64 x.f2.f1, .int .i64 x.f2.f2] := ⟨[.int .i64 x.f0], [.slice A1 x.f1.length c1, .int .i64 x.f2.f0, .int .i64 x.f2.f1, .int .i64 x.f2.f2], rfl, rfl, ⟨[.slice A1 x.f1.length c1], [.int .i64 x.f2.f0, .int .i64 x.f2.f1, .int .i64 x.f2.f2], rfl, ⟨A1, c1, rfl, l1, g1⟩, (k34_mk w x.f2 )⟩⟩
theorem k36_mkM (w : World) (base : Nat) (ok : Nat → Prop) (x : S36) {v1 : Value} (g1 : (Kd.int .i64).R 3 w base ok v1 x.f1) : k36.M w base ok x [.int .i64 x.f0, v1, .int .i64 x.f2.f0, .int .i64 x.f2.f1, .int .i64 x.f2.f2] := ⟨[.int .i64 x.f0], [v1, .int .i64 x.f2.f0, .int .i64 x.f2.f1, .int .i64 x.f2.f2], rfl, rfl, ⟨[v1], [.int .i64 x.f2.f0, .int .i64 x.f2.f1, .int .i64 x.f2.f2], rfl, ⟨v1, rfl, g1⟩, (k34_mkM w base ok x.f2 )⟩⟩
theorem k36_openF {W : World} {ok : Nat → Prop} {x : S36} {cs : List Value} (h : Kd.FK k36 W ok x cs) : ∃ A1 c1, cs = [.int .i64 x.f0, .slice A1 x.f1.length c1, .int .i64 x.f2.f0, .int .i64 x.f2.f1, .int .i64 x.f2.f2] ∧ x.f1.length ≤ c1 ∧ Kd.F (Kd.int .i64) W ok A1 x.f1.length x.f1 := by
  obtain ⟨A1, c1, rfl, l1, _⟩ := k36_open (Kd.FK_now h)
  exact ⟨A1, c1, rfl, l1, (fun W' hW => by obtain ⟨A1_, c1_, he, l1_, g1_⟩ := k36_open (h W' hW); injection (Option.some.inj (show some (Value.slice A1 x.f1.length c1) = some (Value.slice A1_ x.f1.length c1_) from congrArg (fun l => l[1]?) he)) with ha_ _ _; rw [ha_]; exact g1_)⟩
theorem k36_mkF (W : World) (ok : Nat → Prop) (x : S36) {A1 : Option Addr} {c1 : Nat} (l1 : x.f1.length ≤ c1) (g1 : Kd.F (Kd.int .i64) W ok A1 x.f1.length x.f1) : Kd.FK k36 W ok x [.int .i64 x.f0, .slice A1 x.f1.length c1, .int .i64 x.f2.f0, .int .i64 x.f2.f1, .int .i64 x.f2.f2] := fun W2 hW => k36_mk W2 x l1 (g1 W2 hW)
def rd_T36 (xs : List S36) (i : Int) : S36 := xs.getD i.toNat z36
theorem at_T36 {w : World} {A : Option Addr} {n : Nat} {xs : List S36} (h : Kd.C k36 w A n xs) (i : Int) (h0 : 0 ≤ i) (h1 : i < n) : ∃ ad A1 c1, A = some ad ∧ w.cell? (ad.add (i.toNat * 5)) = some (.int .i64 (rd_T36 xs i).f0) ∧ w.cell? ⟨(ad.add (i.toNat * 5)).block, (ad.add (i.toNat * 5)).off + 1, none⟩ = some (.slice A1 (rd_T36 xs i).f1.length c1) ∧ w.cell? ⟨(ad.add (i.toNat * 5)).block, (ad.add (i.toNat * 5)).off + 2, none⟩ = some (.int .i64 (rd_T36 xs i).f2.f0) ∧ w.cell? ⟨(ad.add (i.toNat * 5)).block, (ad.add (i.toNat * 5)).off + 3, none⟩ = some (.int .i64 (rd_T36 xs i).f2.f1) ∧ w.cell? ⟨(ad.add (i.toNat * 5)).block, (ad.add (i.toNat * 5)).off + 4, none⟩ = some (.int .i64 (rd_T36 xs i).f2.f2) ∧ (rd_T36 xs i).f1.length ≤ c1 ∧ (Kd.int .i64).C w A1 (rd_T36 xs i).f1.length (rd_T36 xs i).f1 := by
  obtain ⟨ad, c, e, _, hK, hc0⟩ := Kd.C_get h z36 i h0 h1
  have hc : ∀ j u, c[j]? = some u → w.cell? (ad.add (i.toNat * 5 + j)) = some u := hc0
  obtain ⟨A1, c1, rfl, l1, g1⟩ := k36_open hK
  exact ⟨ad, A1, c1, e, hc 0 _ rfl, by rw [← add_field _ _ 1 (by omega)]; exact hc 1 _ rfl, by rw [← add_field _ _ 2 (by omega)]; exact hc 2 _ rfl, by rw [← add_field _ _ 3 (by omega)]; exact hc 3 _ rfl, by rw [← add_field _ _ 4 (by omega)]; exact hc 4 _ rfl, l1, g1⟩

/-! #### struct type 63 -/
structure S63 where
  f0 : Int
  f1 : S36
  f2 : Int
def z63 : S63 := ⟨(0 : Int), z36, (0 : Int)⟩
def k63 : Kd S63 := Kd.iso (Kd.pair (Kd.int .i64) (Kd.pair k36 (Kd.int .i64))) (fun x : S63 => (x.f0, x.f1, x.f2))
theorem k63_open {w : World} {x : S63} {cs : List Value} (h : k63.K w x cs) : ∃ A2 c2, cs = [.int .i64 x.f0, .int .i64 x.f1.f0, .slice A2 x.f1.f1.length c2, .int .i64 x.f1.f2.f0, .int .i64 x.f1.f2.f1, .int .i64 x.f1.f2.f2, .int .i64 x.f2] ∧ x.f1.f1.length ≤ c2 ∧ (Kd.int .i64).C w A2 x.f1.f1.length x.f1.f1 := by
  obtain ⟨_, _, rfl, rfl, ⟨_, _, rfl, s1, rfl⟩⟩ := h
  obtain ⟨A2, c2, rfl, l2, g2⟩ := k36_open s1
  exact ⟨A2, c2, rfl, l2, g2⟩
theorem k63_openM {w : World} {base : Nat} {ok : Nat → Prop} {x : S63} {cs : List Value} (h : k63.M w base ok x cs) : ∃ v2, cs = [.int .i64 x.f0, .int .i64 x.f1.f0, v2, .int .i64 x.f1.f2.f0, .int .i64 x.f1.f2.f1, .int .i64 x.f1.f2.f2, .int .i64 x.f2] ∧ (Kd.int .i64).R 3 w base ok v2 x.f1.f1 := by
  obtain ⟨_, _, rfl, rfl, ⟨_, _, rfl, s1, rfl⟩⟩ := h
  obtain ⟨v2, rfl, g2⟩ := k36_openM s1
  exact ⟨v2, rfl, g2⟩
theorem k63_mk (w : World) (x : S63) {A2 : Option Addr} {c2 : Nat} (l2 : x.f1.f1.length ≤ c2) (g2 : (Kd.int .i64).C w A2 x.f1.f1.length x.f1.f1) : k63.K w x [.int .i64 x.f0, .int .i64 x.f1.f0, .slice A2 x.f1.f1.length c2, .int .i64 x.f1.f2.f0, .int .i64 x.f1.f2.f1, .int .i64 x.f1.f2.f2, .int .i64 x.f2] := ⟨[.int .i64 x.f0], [.int .i64 x.f1.f0, .slice A2 x.f1.f1.length c2, .int .i64 x.f1.f2.f0, .int .i64 x.f1.f2.f1, .int .i64 x.f1.f2.f2, .int .i64 x.f2], rfl, rfl, ⟨[.int .i64 x.f1.f0, .slice A2 x.f1.f1.length c2, .int .i64 x.f1.f2.f0, .int .i64 x.f1.f2.f1, .int .i64 x.f1.f2.f2], [.int .i64 x.f2], rfl, (k36_mk w x.f1 l2 g2), rfl⟩⟩
theorem k63_mkM (w : World) (base : Nat) (ok : Nat → Prop) (x : S63) {v2 : Value} (g2 : (Kd.int .i64).R 3 w base ok v2 x.f1.f1) : k63.M w base ok x [.int .i64 x.f0, .int .i64 x.f1.f0, v2, .int .i64 x.f1.f2.f0, .int .i64 x.f1.f2.f1, .int .i64 x.f1.f2.f2, .int .i64 x.f2] := ⟨[.int .i64 x.f0], [.int .i64 x.f1.f0, v2, .int .i64 x.f1.f2.f0, .int .i64 x.f1.f2.f1, .int .i64 x.f1.f2.f2, .int .i64 x.f2], rfl, rfl, ⟨[.int .i64 x.f1.f0, v2, .int .i64 x.f1.f2.f0, .int .i64 x.f1.f2.f1, .int .i64 x.f1.f2.f2], [.int .i64 x.f2], rfl, (k36_mkM w base ok x.f1 g2), rfl⟩⟩
theorem k63_openF {W : World} {ok : Nat → Prop} {x : S63} {cs : List Value} (h : Kd.FK k63 W ok x cs) : ∃ A2 c2, cs = [.int .i64 x.f0, .int .i64 x.f1.f0, .slice A2 x.f1.f1.length c2, .int .i64 x.f1.f2.f0, .int .i64 x.f1.f2.f1, .int .i64 x.f1.f2.f2, .int .i64 x.f2] ∧ x.f1.f1.length ≤ c2 ∧ Kd.F (Kd.int .i64) W ok A2 x.f1.f1.length x.f1.f1 := by
  obtain ⟨A2, c2, rfl, l2, _⟩ := k63_open (Kd.FK_now h)
  exact ⟨A2, c2, rfl, l2, (fun W' hW => by obtain ⟨A2_, c2_, he, l2_, g2_⟩ := k63_open (h W' hW); injection (Option.some.inj (show some (Value.slice A2 x.f1.f1.length c2) = some (Value.slice A2_ x.f1.f1.length c2_) from congrArg (fun l => l[2]?) he)) with ha_ _ _; rw [ha_]; exact g2_)⟩
theorem k63_mkF (W : World) (ok : Nat → Prop) (x : S63) {A2 : Option Addr} {c2 : Nat} (l2 : x.f1.f1.length ≤ c2) (g2 : Kd.F (Kd.int .i64) W ok A2 x.f1.f1.length x.f1.f1) : Kd.FK k63 W ok x [.int .i64 x.f0, .int .i64 x.f1.f0, .slice A2 x.f1.f1.length c2, .int .i64 x.f1.f2.f0, .int .i64 x.f1.f2.f1, .int .i64 x.f1.f2.f2, .int .i64 x.f2] := fun W2 hW => k63_mk W2 x l2 (g2 W2 hW)
def rd_T63 (xs : List S63) (i : Int) : S63 := xs.getD i.toNat z63
theorem at_T63 {w : World} {A : Option Addr} {n : Nat} {xs : List S63} (h : Kd.C k63 w A n xs) (i : Int) (h0 : 0 ≤ i) (h1 : i < n) : ∃ ad A2 c2, A = some ad ∧ w.cell? (ad.add (i.toNat * 7)) = some (.int .i64 (rd_T63 xs i).f0) ∧ w.cell? ⟨(ad.add (i.toNat * 7)).block, (ad.add (i.toNat * 7)).off + 1, none⟩ = some (.int .i64 (rd_T63 xs i).f1.f0) ∧ w.cell? ⟨(ad.add (i.toNat * 7)).block, (ad.add (i.toNat * 7)).off + 2, none⟩ = some (.slice A2 (rd_T63 xs i).f1.f1.length c2) ∧ w.cell? ⟨(ad.add (i.toNat * 7)).block, (ad.add (i.toNat * 7)).off + 3, none⟩ = some (.int .i64 (rd_T63 xs i).f1.f2.f0) ∧ w.cell? ⟨(ad.add (i.toNat * 7)).block, (ad.add (i.toNat * 7)).off + 4, none⟩ = some (.int .i64 (rd_T63 xs i).f1.f2.f1) ∧ w.cell? ⟨(ad.add (i.toNat * 7)).block, (ad.add (i.toNat * 7)).off + 5, none⟩ = some (.int .i64 (rd_T63 xs i).f1.f2.f2) ∧ w.cell? ⟨(ad.add (i.toNat * 7)).block, (ad.add (i.toNat * 7)).off + 6, none⟩ = some (.int .i64 (rd_T63 xs i).f2) ∧ (rd_T63 xs i).f1.f1.length ≤ c2 ∧ (Kd.int .i64).C w A2 (rd_T63 xs i).f1.f1.length (rd_T63 xs i).f1.f1 := by
  obtain ⟨ad, c, e, _, hK, hc0⟩ := Kd.C_get h z63 i h0 h1
  have hc : ∀ j u, c[j]? = some u → w.cell? (ad.add (i.toNat * 7 + j)) = some u := hc0
  obtain ⟨A2, c2, rfl, l2, g2⟩ := k63_open hK
  exact ⟨ad, A2, c2, e, hc 0 _ rfl, by rw [← add_field _ _ 1 (by omega)]; exact hc 1 _ rfl, by rw [← add_field _ _ 2 (by omega)]; exact hc 2 _ rfl, by rw [← add_field _ _ 3 (by omega)]; exact hc 3 _ rfl, by rw [← add_field _ _ 4 (by omega)]; exact hc 4 _ rfl, by rw [← add_field _ _ 5 (by omega)]; exact hc 5 _ rfl, by rw [← add_field _ _ 6 (by omega)]; exact hc 6 _ rfl, l2, g2⟩

def mk (n b : Nat) : Array Bool := ((List.range n).map fun i => b.testBit i).toArray
section
variable {P : Program} {ops : Array Oper} {Q : Exit → Act → World → Prop} {md : Region.Mode} {S : World → Prop} {ds : List Nat} {fuel : Nat} {l : Array Bool} {a : Act} {w : World}
theorem on_ (i N : Nat) (l' : Array Bool) {oi : Oper} {v : Value} {a' : Act} (h : wpAnyLast P md ops Q S ds fuel l' a' w) (hi : ops[i]? = some oi := by rfl) (hN : oi.dst = some N := by rfl) (hw : Region.wanted oi (yielded ops a.tmps) = true := by rfl) (hy : ∀ w', (execOp a.eval oi).run P w' = .ok (.value v) w' := by (intro w'; go_simp; with_reducible rfl)) (ha : a.put (some N) v = a' := by (simp only [Act.put, List.setIfInBounds_toArray, List.set_cons_zero, List.set_cons_succ, i64_w, i32_w]; rfl))
    (hc : anyB md ops l l' i = true := by exact any_of HT_.out (by kernel_rfl)) (hQ : ∀ c a w, Q (.panic c) (a.put oi.dst v) w → Q (.panic c) a w := by exact fun _ _ _ h => h) : wpAnyLast P md ops Q S ds (fuel + 1) l a w :=
  pure_ l' hi hN hc hQ (Or.inl ⟨hw, hy⟩) ha h
theorem of_ (i N : Nat) (l' : Array Bool) {oi : Oper} {a' : Act} (h : wpAnyLast P md ops Q S ds fuel l' a' w) (hi : ops[i]? = some oi := by rfl) (hN : oi.dst = some N := by rfl) (hw : Region.wanted oi (yielded ops a.tmps) = false := by rfl) (ha : a.put (some N) undef = a' := by (simp only [Act.put, List.setIfInBounds_toArray, List.set_cons_zero, List.set_cons_succ, i64_w, i32_w]; rfl))
    (hc : anyB md ops l l' i = true := by exact any_of HT_.out (by kernel_rfl)) (hQ : ∀ c a w, Q (.panic c) (a.put oi.dst undef) w → Q (.panic c) a w := by exact fun _ _ _ h => h) : wpAnyLast P md ops Q S ds (fuel + 1) l a w :=
  pure_ l' hi hN hc hQ (Or.inr ⟨hw, rfl⟩) ha h
theorem rd_ (i N : Nat) (l' : Array Bool) {oi : Oper} {v : Value} {a' : Act} (h : wpAnyLast P md ops Q S ds fuel l' a' w) (hi : ops[i]? = some oi := by rfl) (hN : oi.dst = some N := by rfl) (hw : Region.wanted oi (yielded ops a.tmps) = true := by rfl) (hy : ∀ w', S w' → (execOp a.eval oi).run P w' = .ok (.value v) w' := by (intro w' hS_; go_simp; with_reducible rfl)) (ha : a.put (some N) v = a' := by (simp only [Act.put, List.setIfInBounds_toArray, List.set_cons_zero, List.set_cons_succ, i64_w, i32_w]; rfl))
    (hc : takeB md ops ds l l' i = true := by exact take_ofW HT_.out HW_.out (by kernel_rfl)) (hS : S w := by exact hHeld) (hQ : ∀ c a w, Q (.panic c) (a.put oi.dst v) w → Q (.panic c) a w := by exact fun _ _ _ h => h) : wpAnyLast P md ops Q S ds (fuel + 1) l a w :=
  take_ l' hi hN hc hQ (Or.inl ⟨hw, hy⟩) hS ha h
theorem cl_ (i N : Nat) (l' : Array Bool) {f : FuncId} {fn : Func} (hf : P.funcs[f]? = some fn) (args : Array Value) {oi : Oper} {ars : Array Operand} {ts : Array TypeId}
    (h : Calls P f args w fun e w' => ∃ v, e = .returned v ∧ S w' ∧ (S w' → wpAnyLast P md ops Q S ds fuel l' (a.put (some N) v) w')) (hi : ops[i]? = some oi := by rfl) (hN : oi.dst = some N := by rfl) (hop : oi.op = .call { callee := .value (.func f), args := ars, argTypes := ts } := by rfl) (hw : Region.wanted oi (yielded ops a.tmps) = true := by rfl)
    (hargs : ars.map a.eval = args := by ((try simp only [List.map_toArray, List.map_cons, List.map_nil]); first | done | rfl)) (hname : (fn.name == "runtime.NumGoroutine") = false := by kernel_rfl) (hb : fn.body.isSome = true := by rfl) (hc : readyB md ops l l' i = true := by exact one_of HT_.out (by kernel_rfl)) (hd : i ∉ ds := by decide) : wpAnyLast P md ops Q S ds (fuel + 1) l a w :=
  one_ l' hi hN hc hd (fun K hK => goes_ hf hname hb args hw hN hop hargs (h.mono fun e w' ⟨v, he, hs, hk⟩ => ⟨v, he, hK.out _ _ hs hk⟩))
theorem nm_ {a' : Act} (h : wpAnyLast P md ops Q S ds fuel l a' w) (ha : a = a' := by (simp only [Act.put, List.setIfInBounds_toArray, List.set_cons_zero, List.set_cons_succ, i64_w, i32_w]; rfl)) : wpAnyLast P md ops Q S ds fuel l a w := norm_ ha h
theorem dn_ (h : Q .normal a w) (hr : (Region.ready md ops l == []) = true := by exact done_of HT_.out (by kernel_rfl)) : wpAnyLast P md ops Q S ds fuel l a w := done_ hr h
end
theorem box7 {w W : World} {g t : Nat} {z0 z1 z2 z3 z4 z5 z6 : Value} (h : W.heap[g]? = some (.cells #[z0, z1, z2, z3, z4, z5, z6] t (0, 0))) (u0 u1 u2 u3 u4 u5 u6 : Value) (hB : Below w.heap.size w W) (hg : w.heap.size ≤ g) :
    ∃ W' : World, W' = ((((((W.setCell ⟨g, 0, none⟩ u0).setCell ⟨g, 1, none⟩ u1).setCell ⟨g, 2, none⟩ u2).setCell ⟨g, 3, none⟩ u3).setCell ⟨g, 4, none⟩ u4).setCell ⟨g, 5, none⟩ u5).setCell ⟨g, 6, none⟩ u6 ∧
      W'.heap[g]? = some (.cells #[u0, u1, u2, u3, u4, u5, u6] t (0, 0)) ∧ Below w.heap.size w W' :=
  have h0 := blk_put (cs' := #[u0, z1, z2, z3, z4, z5, z6]) h 0 u0 rfl
  have h1 := blk_put (cs' := #[u0, u1, z2, z3, z4, z5, z6]) h0 1 u1 rfl
  have h2 := blk_put (cs' := #[u0, u1, u2, z3, z4, z5, z6]) h1 2 u2 rfl
  have h3 := blk_put (cs' := #[u0, u1, u2, u3, z4, z5, z6]) h2 3 u3 rfl
  have h4 := blk_put (cs' := #[u0, u1, u2, u3, u4, z5, z6]) h3 4 u4 rfl
  have h5 := blk_put (cs' := #[u0, u1, u2, u3, u4, u5, z6]) h4 5 u5 rfl
  have h6 := blk_put (cs' := #[u0, u1, u2, u3, u4, u5, u6]) h5 6 u6 rfl
  ⟨_, rfl, h6, below_set (below_set (below_set (below_set (below_set (below_set (below_set hB hg) hg) hg) hg) hg) hg) hg⟩
theorem box7z {W : World} {g t : Nat} {z0 z1 z2 z3 z4 z5 z6 : Value} (h : W.heap[g]? = some (.cells #[z0, z1, z2, z3, z4, z5, z6] t (0, 0))) :
    (W.cell? ⟨g, 0, none⟩ = some z0 ∧ W.cell? ⟨g, 1, none⟩ = some z1 ∧ W.cell? ⟨g, 2, none⟩ = some z2 ∧ W.cell? ⟨g, 3, none⟩ = some z3 ∧ W.cell? ⟨g, 4, none⟩ = some z4 ∧ W.cell? ⟨g, 5, none⟩ = some z5 ∧ W.cell? ⟨g, 6, none⟩ = some z6) ∧ ∀ j, W.frozen? ⟨g, j, none⟩ = false :=
  ⟨⟨(blk_cell h 0).trans rfl, (blk_cell h 1).trans rfl, (blk_cell h 2).trans rfl, (blk_cell h 3).trans rfl, (blk_cell h 4).trans rfl, (blk_cell h 5).trans rfl, (blk_cell h 6).trans rfl⟩, blk_frozen h⟩
theorem cell_on {w W : World} (hB : Below w.heap.size w W) {a : Addr} {v : Value} (h : w.cell? a = some v) : W.cell? a = some v := (hB.cell (World.block_lt_of_cell? w _ h)).trans h
theorem cells7 {w W : World} (hB : Below w.heap.size w W) {a0 a1 a2 a3 a4 a5 a6 : Addr} {v0 v1 v2 v3 v4 v5 v6 : Value} (h0 : w.cell? a0 = some v0) (h1 : w.cell? a1 = some v1) (h2 : w.cell? a2 = some v2) (h3 : w.cell? a3 = some v3) (h4 : w.cell? a4 = some v4) (h5 : w.cell? a5 = some v5) (h6 : w.cell? a6 = some v6) :
    W.cell? a0 = some v0 ∧ W.cell? a1 = some v1 ∧ W.cell? a2 = some v2 ∧ W.cell? a3 = some v3 ∧ W.cell? a4 = some v4 ∧ W.cell? a5 = some v5 ∧ W.cell? a6 = some v6 :=
  ⟨cell_on hB h0, cell_on hB h1, cell_on hB h2, cell_on hB h3, cell_on hB h4, cell_on hB h5, cell_on hB h6⟩
/-- What has been made and lies in a variable's block g: the row v5 of whole numbers, and beside them the row v of parts that was made before. -/
def MadeB (w W : World) (g : Nat) (cs : Array Value) (v5 : Value) (b5 : List Int) (v : Value) (xs : List S63) : Prop :=
  Kd.R (Kd.int .i64) 3 W w.heap.size (fun k => some k = v5.ownBlock) v5 b5 ∧ Kd.S k63 63 W w.heap.size (fun k => some k ≠ v5.ownBlock ∧ k ≠ g) v xs ∧ W.heap[g]? = some (.cells cs 63 (0, 0)) ∧ w.heap.size ≤ g ∧ Below w.heap.size w W
section
variable {w W : World} {g : Nat} {cs cs' : Array Value} {v5 v : Value} {b5 : List Int} {xs : List S63}
theorem MadeB.put (h : MadeB w W g cs v5 b5 v xs) (j : Nat) (u : Value) (e : cs.setIfInBounds j u = cs') : MadeB w (W.setCell ⟨g, j, none⟩ u) g cs' v5 b5 v xs :=
  ⟨Kd.R_set h.1 h.2.2.1 (by decide) j u, Kd.S_far h.2.1 (fun k hk => hk.2) u, blk_put h.2.2.1 j u e, h.2.2.2.1, below_set h.2.2.2.2 h.2.2.2.1⟩
theorem MadeB.put7 {z0 z1 z2 z3 z4 z5 z6 : Value} (h : MadeB w W g #[z0, z1, z2, z3, z4, z5, z6] v5 b5 v xs) (u0 u1 u2 u3 u4 u5 u6 : Value) :
    ∃ W' : World, W' = ((((((W.setCell ⟨g, 0, none⟩ u0).setCell ⟨g, 1, none⟩ u1).setCell ⟨g, 2, none⟩ u2).setCell ⟨g, 3, none⟩ u3).setCell ⟨g, 4, none⟩ u4).setCell ⟨g, 5, none⟩ u5).setCell ⟨g, 6, none⟩ u6 ∧ MadeB w W' g #[u0, u1, u2, u3, u4, u5, u6] v5 b5 v xs :=
  have h0 := MadeB.put (cs' := #[u0, z1, z2, z3, z4, z5, z6]) h 0 u0 rfl
  have h1 := MadeB.put (cs' := #[u0, u1, z2, z3, z4, z5, z6]) h0 1 u1 rfl
  have h2 := MadeB.put (cs' := #[u0, u1, u2, z3, z4, z5, z6]) h1 2 u2 rfl
  have h3 := MadeB.put (cs' := #[u0, u1, u2, u3, z4, z5, z6]) h2 3 u3 rfl
  have h4 := MadeB.put (cs' := #[u0, u1, u2, u3, u4, z5, z6]) h3 4 u4 rfl
  have h5 := MadeB.put (cs' := #[u0, u1, u2, u3, u4, u5, z6]) h4 5 u5 rfl
  have h6 := MadeB.put (cs' := #[u0, u1, u2, u3, u4, u5, u6]) h5 6 u6 rfl
  ⟨_, rfl, h6⟩
theorem MadeB.callbox {W1 W2 : World} {ok : Nat → Prop} (hB : Below w.heap.size w W) (hS : Kd.S k63 63 W w.heap.size ok v xs) (hR : Kd.R (Kd.int .i64) 3 W1 W.heap.size (fun _ => True) v5 b5) (h1 : Below W.heap.size W W1) (hg : g = W1.heap.size) (hb : W2.heap[g]? = some (.cells cs 63 (0, 0))) (h2 : Below W1.heap.size W1 W2) : MadeB w W2 g cs v5 b5 v xs := by
  subst hg
  have hs := Kd.S_below (Kd.S_elderB (Kd.S_elder' hS (Kd.R_base hR) h1) W1.heap.size (Nat.le_refl _)) h2
  exact ⟨Kd.R_tight rfl (Kd.R_below (Kd.R_lower hR (below_size hB)) h2), Kd.S_mono hs (fun k hk => ⟨hk.1.2, hk.2⟩), hb, Nat.le_trans (below_size hB) (below_size h1), below_step (below_step hB h1) h2⟩
theorem MadeB.boxcall {W1 W2 : World} {ok : Nat → Prop} (hB : Below w.heap.size w W) (hS : Kd.S k63 63 W w.heap.size ok v xs) (hg : g = W.heap.size) (hb : W1.heap[g]? = some (.cells cs 63 (0, 0))) (h1 : Below W.heap.size W W1) (hR : Kd.R (Kd.int .i64) 3 W2 W1.heap.size (fun _ => True) v5 b5) (h2 : Below W1.heap.size W1 W2) : MadeB w W2 g cs v5 b5 v xs := by
  subst hg
  have hs := Kd.S_elder' (Kd.S_below (Kd.S_elderB hS W.heap.size (Nat.le_refl _)) h1) (Kd.R_base hR) h2
  exact ⟨Kd.R_tight rfl (Kd.R_lower hR (Nat.le_trans (below_size hB) (below_size h1))), Kd.S_mono hs (fun k hk => ⟨hk.2, hk.1.2⟩), blk_below hb h2, below_size hB, below_step (below_step hB h1) h2⟩
theorem MadeB.pack (h : MadeB w W g cs v5 b5 v xs) : Kd.R (Kd.int .i64) 3 W w.heap.size (fun k => some k = v5.ownBlock) v5 b5 ∧ (∀ k, some k = v5.ownBlock → k ≠ g ∧ some k ≠ v.ownBlock) ∧ (∀ k, W.heap.size ≤ k → k ≠ g) ∧ Kd.S k63 63 W w.heap.size (fun k => k ≠ g ∧ ¬ some k = v5.ownBlock) v xs ∧ Below w.heap.size w W ∧ w.heap.size ≤ W.heap.size := by
  refine ⟨h.1, fun k hk => ?_, fun k hk e => ?_, Kd.S_mono h.2.1 (fun k hk => ⟨hk.2, hk.1⟩), h.2.2.2.2, below_size h.2.2.2.2⟩
  · have h1 := Kd.R_types (Kd.R_apart' h.1 (Kd.S_typed h.2.1) (by decide)) h.2.2.1 (by decide)
    have h2 := h1.1 k hk.symm
    exact ⟨h2.2, h2.1.2⟩
  · subst e
    have := blk_lt h.2.2.1
    omega
end
section
variable {P : Program} {ops : Array Oper} {Q : Exit → Act → World → Prop} {md : Region.Mode} {S : World → Prop} {ds : List Nat} {fuel : Nat} {l : Array Bool} {a : Act} {w : World}
theorem nk_ (N : Nat) {d : Option Tmp} {v : Value} {a' : Act} (h : wpAnyLast P md ops Q S ds fuel l a' w) (hd : d = some N := by rfl) (ha : a.put (some N) v = a' := by (simp only [Act.put, List.setIfInBounds_toArray, List.set_cons_zero, List.set_cons_succ, i64_w, i32_w]; rfl)) : wpAnyLast P md ops Q S ds fuel l (a.put d v) w := by
  subst hd
  exact norm_ ha h
theorem nj_ {a' : Act} (h : wpAnyLast P md ops Q S ds fuel l a' w) (ha : a = a' := by (simp only [putAll, Act.put, List.setIfInBounds_toArray, List.set_cons_zero, List.set_cons_succ]; rfl)) : wpAnyLast P md ops Q S ds fuel l a w := norm_ ha h
end
/-- A row of parts that the law holds: its blocks lie between lo and hi. -/
def Row (w W : World) (lo hi : Nat) (v : Value) (xs : List S63) : Prop := Kd.S k63 63 W w.heap.size (fun k => lo ≤ k ∧ k < hi) v xs
section
variable {w W W' : World} {lo hi n c : Nat} {v : Value} {A : Option Addr} {xs : List S63} {P : Nat → Prop}
theorem Row.below (h : Row w W lo hi v xs) (hb : Below W.heap.size W W') : Row w W' lo hi v xs := Kd.S_below h hb
theorem Row.drawn (h : Row w W lo hi v xs) (hb : Drawn0 W W') : Row w W' lo hi v xs := Kd.S_below h hb.below
theorem Row.kept (h : Row w W lo hi v xs) (hk : Kept W W' P) (hP : ∀ k, P k → k < lo ∨ hi ≤ k) : Row w W' lo hi v xs := Kd.S_kept h hk (fun k hk h' => by have := hP k h'; omega)
theorem Row.new (HB : Below w.heap.size w W) (h : Kd.S k63 63 W' W.heap.size (fun _ => True) v xs) : Row w W' W.heap.size W'.heap.size v xs := Kd.S_mono (Kd.S_lower (Kd.S_bound h) (below_size HB)) (fun k hk => ⟨hk.2.1, hk.2.2.1⟩)
theorem Row.C (h : Row w W lo hi (.slice A xs.length c) xs) : Kd.C k63 W A xs.length xs := (Kd.S_reads' h).2.2
theorem Row.le (h : Row w W lo hi (.slice A xs.length c) xs) : xs.length ≤ c := (Kd.S_reads' h).2.1
end
/-! A row whose elements lie apart, opened: element j's blocks are okj j, its cells are the j-th part of inner. -/
section
variable {α : Type} {d : Kd α} {e base : Nat} {ok : Nat → Prop} {W w1 : World} {v v1 : Value} {xs ys : List α}
structure Items (d : Kd α) (W : World) (base : Nat) (ok : Nat → Prop) (xs : List α) (okj : Nat → Nat → Prop) (inner : List Value) : Prop where
  len : inner.length = xs.length * d.sz
  apart : ∀ i j k, okj i k → okj j k → i = j
  okk : ∀ j k, okj j k → ok k ∧ k < W.heap.size
  M : ∀ j x, xs[j]? = some x → d.M W base (okj j) x ((inner.drop (j * d.sz)).take d.sz)
theorem S_open (h : Kd.S d e W base ok v xs) : ∃ okj inner, (∀ k, v.ownBlock = some k → ok k) ∧ W.ownsRow base e d.sz v xs.length inner ∧ Items d W base (fun k => ok k ∧ some k ≠ v.ownBlock) xs okj inner := by
  obtain ⟨f, h0, inner, ho, hr⟩ := h
  rw [List.length_zipIdx] at ho
  refine ⟨fun j k => ((ok k ∧ some k ≠ v.ownBlock) ∧ f k = j) ∧ k < W.heap.size, inner, h0, ho, by have := hr.1; rwa [List.length_zipIdx] at this, fun i j k h1 h2 => h1.1.2.symm.trans h2.1.2, fun j k hk => ⟨hk.1.1, hk.2⟩, fun j x hj => ?_⟩
  exact d.M_mono (fun k hk => ⟨⟨hk.1.1, hk.1.2⟩, hk.2.2.1⟩) (d.M_bound (hr.2 j (x, j) (Kd.zip_at hj)))
theorem S_shut {okj : Nat → Nat → Prop} {inner : List Value} (h0 : ∀ k, v.ownBlock = some k → ok k) (ho : W.ownsRow base e d.sz v xs.length inner) (hl : inner.length = xs.length * d.sz) (hap : ∀ i j k, okj i k → okj j k → i = j) (hok : ∀ j k, okj j k → ok k ∧ some k ≠ v.ownBlock)
    (hM : ∀ j x, xs[j]? = some x → d.M W base (okj j) x ((inner.drop (j * d.sz)).take d.sz)) : Kd.S d e W base ok v xs := by
  obtain ⟨f, hr⟩ := Kd.reps_tag (ok := fun k => ok k ∧ some k ≠ v.ownBlock) okj hap hok hl hM
  exact ⟨f, h0, inner, by rw [List.length_zipIdx]; exact ho, hr⟩
theorem seg_lo (l c r : List Value) {I J s : Nat} (h : J + s ≤ I) (hI : I ≤ l.length) : ((l.take I ++ c ++ r).drop J).take s = (l.drop J).take s := by
  refine List.ext_getElem? fun q => ?_
  rw [List.getElem?_take, List.getElem?_take]
  split
  · rw [List.getElem?_drop, List.getElem?_drop, List.append_assoc, List.getElem?_append_left (by rw [List.length_take]; omega), List.getElem?_take, if_pos (by omega)]
  · rfl
theorem seg_at (l c r : List Value) {I s : Nat} (hc : c.length = s) (hI : I ≤ l.length) : ((l.take I ++ c ++ r).drop I).take s = c := by
  rw [List.append_assoc, List.drop_append_of_le_length (by rw [List.length_take]; omega), List.drop_eq_nil_of_le (by rw [List.length_take]; omega), List.nil_append, ← hc, List.take_left']
  rfl
theorem seg_hi (l c : List Value) {I J s : Nat} (hc : c.length = s) (hI : I ≤ l.length) (h : I + s ≤ J) : ((l.take I ++ c ++ l.drop I).drop J).take s = (l.drop (J - s)).take s := by
  refine List.ext_getElem? fun q => ?_
  rw [List.getElem?_take, List.getElem?_take]
  split
  · rw [List.getElem?_drop, List.getElem?_drop, List.getElem?_append_right (by rw [List.length_append, List.length_take]; omega), List.length_append, List.length_take, List.getElem?_drop]
    congr 1
    omega
  · rfl
theorem ins_at (xs : List α) (p : α) {i : Nat} (hi : i ≤ xs.length) (j : Nat) : (xs.take i ++ p :: xs.drop i)[j]? = if j < i then xs[j]? else if j = i then some p else xs[j - 1]? := by
  by_cases h1 : j < i
  · rw [if_pos h1, List.getElem?_append_left (by rw [List.length_take]; omega), List.getElem?_take, if_pos h1]
  · rw [if_neg h1, List.getElem?_append_right (by rw [List.length_take]; omega), List.length_take, Nat.min_eq_left hi]
    by_cases h2 : j = i
    · rw [if_pos h2, h2, Nat.sub_self, List.getElem?_cons_zero]
    · rw [if_neg h2, show j - i = (j - 1 - i) + 1 by omega, List.getElem?_cons_succ, List.getElem?_drop]
      congr 1
      omega
/-- What a row keeps behind a write to its own block, or behind a new one. -/
theorem away_own {k : Nat} (hv1 : v1.ownBlock = v.ownBlock ∨ ∃ b, v1.ownBlock = some b ∧ W.heap.size ≤ b) (hk : some k ≠ v.ownBlock) (hlt : k < W.heap.size) : some k ≠ v1.ownBlock := by
  rcases hv1 with h | ⟨b, h, hb⟩
  · rw [h]; exact hk
  · rw [h]
    intro he
    injection he with he
    omega
theorem own_okk (h0 : ∀ k, v.ownBlock = some k → ok k) (hv1 : v1.ownBlock = v.ownBlock ∨ ∃ b, v1.ownBlock = some b ∧ W.heap.size ≤ b) (hfresh : ∀ k, W.heap.size ≤ k → ok k) : ∀ k, v1.ownBlock = some k → ok k := by
  intro k hk
  rcases hv1 with h | ⟨b, h, hb⟩
  · exact h0 k (h ▸ hk)
  · rw [h] at hk
    injection hk with hk
    subst hk
    exact hfresh _ hb
/-- An element put into a row at i. -/
theorem S_insert {okj : Nat → Nat → Prop} {inner cp : List Value} {okp : Nat → Prop} {p : α} {i : Nat} (hi : i ≤ xs.length) (h0 : ∀ k, v.ownBlock = some k → ok k) (hS : Items d W base (fun k => ok k ∧ some k ≠ v.ownBlock) xs okj inner)
    (hp : d.M W base okp p cp) (hokp : ∀ k, okp k → (ok k ∧ some k ≠ v.ownBlock) ∧ ∀ j, ¬ okj j k) (h1 : w1.ownsRow base e d.sz v1 (xs.length + 1) (inner.take (i * d.sz) ++ cp ++ inner.drop (i * d.sz)))
    (hkeep : ∀ k, k < W.heap.size → some k ≠ v.ownBlock → w1.heap[k]? = W.heap[k]?) (hv1 : v1.ownBlock = v.ownBlock ∨ ∃ b, v1.ownBlock = some b ∧ W.heap.size ≤ b) (hfresh : ∀ k, W.heap.size ≤ k → ok k) : Kd.S d e w1 base ok v1 (xs.take i ++ p :: xs.drop i) := by
  have hIl : i * d.sz ≤ inner.length := by rw [hS.len]; exact Nat.mul_le_mul_right _ hi
  have hcp : cp.length = d.sz := d.K_len (d.K_of_M hp)
  have hlen : (xs.take i ++ p :: xs.drop i).length = xs.length + 1 := by rw [List.length_append, List.length_cons, List.length_take, List.length_drop]; omega
  have move : ∀ {okq : Nat → Prop} {q : α} {c : List Value}, d.M W base okq q c → (∀ k, okq k → ok k ∧ some k ≠ v.ownBlock) → d.M w1 base (fun k => okq k ∧ k < W.heap.size) q c := fun hq hok =>
    d.M_move (fun k hk => hkeep k hk.2 (hok k hk.1).2) (d.M_mono (fun k hk => ⟨hk.1, hk.2.2.1⟩) (d.M_bound hq))
  have okC : ∀ j k, okj j k → ok k ∧ some k ≠ v.ownBlock := fun j k hk => (hS.okk j k hk).1
  refine S_shut (okj := fun j k => (if j < i then okj j k else if j = i then okp k else okj (j - 1) k) ∧ k < W.heap.size) (own_okk h0 hv1 hfresh) (by rw [hlen]; exact h1) ?_ ?_ ?_ ?_
  · rw [hlen, List.length_append, List.length_append, List.length_take, List.length_drop, hcp, hS.len, Nat.add_mul, Nat.one_mul]
    rw [hS.len] at hIl
    omega
  · intro a b k ha hb
    obtain ⟨ha, _⟩ := ha
    obtain ⟨hb, _⟩ := hb
    by_cases a1 : a < i
    · rw [if_pos a1] at ha
      by_cases b1 : b < i
      · rw [if_pos b1] at hb
        exact hS.apart _ _ _ ha hb
      · rw [if_neg b1] at hb
        by_cases b2 : b = i
        · rw [if_pos b2] at hb
          exact absurd ha ((hokp k hb).2 _)
        · rw [if_neg b2] at hb
          have := hS.apart _ _ _ ha hb
          omega
    · rw [if_neg a1] at ha
      by_cases a2 : a = i
      · rw [if_pos a2] at ha
        by_cases b1 : b < i
        · rw [if_pos b1] at hb
          exact absurd hb ((hokp k ha).2 _)
        · rw [if_neg b1] at hb
          by_cases b2 : b = i
          · omega
          · rw [if_neg b2] at hb
            exact absurd hb ((hokp k ha).2 _)
      · rw [if_neg a2] at ha
        by_cases b1 : b < i
        · rw [if_pos b1] at hb
          have := hS.apart _ _ _ ha hb
          omega
        · rw [if_neg b1] at hb
          by_cases b2 : b = i
          · rw [if_pos b2] at hb
            exact absurd ha ((hokp k hb).2 _)
          · rw [if_neg b2] at hb
            have := hS.apart _ _ _ ha hb
            omega
  · intro j k hk
    obtain ⟨hk, hlt⟩ := hk
    have hk2 : ok k ∧ some k ≠ v.ownBlock := by
      split at hk
      · exact okC _ _ hk
      · split at hk
        · exact (hokp k hk).1
        · exact okC _ _ hk
    exact ⟨hk2.1, away_own hv1 hk2.2 hlt⟩
  · intro j x hj
    rw [ins_at xs p hi] at hj
    by_cases j1 : j < i
    · rw [if_pos j1] at hj
      have hle : j * d.sz + d.sz ≤ i * d.sz := by rw [← Nat.succ_mul]; exact Nat.mul_le_mul_right _ j1
      rw [seg_lo _ _ _ hle hIl]
      exact d.M_mono (fun k hk => ⟨by rw [if_pos j1]; exact hk.1, hk.2⟩) (move (hS.M j x hj) (okC j))
    · rw [if_neg j1] at hj
      by_cases j2 : j = i
      · rw [if_pos j2] at hj
        obtain rfl := Option.some.inj hj
        rw [j2, seg_at _ _ _ hcp hIl]
        exact d.M_mono (fun k hk => ⟨by rw [if_neg (Nat.lt_irrefl i), if_pos rfl]; exact hk.1, hk.2⟩) (move hp (fun k hk => (hokp k hk).1))
      · rw [if_neg j2] at hj
        have hle : i * d.sz + d.sz ≤ j * d.sz := by rw [← Nat.succ_mul]; exact Nat.mul_le_mul_right _ (by omega)
        rw [seg_hi _ _ hcp hIl hle, show j * d.sz - d.sz = (j - 1) * d.sz by rw [Nat.sub_mul, Nat.one_mul]]
        exact d.M_mono (fun k hk => ⟨by rw [if_neg j1, if_neg j2]; exact hk.1, hk.2⟩) (move (hS.M (j - 1) x hj) (okC (j - 1)))
/-- A row appended to a row: the elements of both lie apart. -/
theorem S_cat {okj okj2 : Nat → Nat → Prop} {inner inner2 : List Value} {ok2 : Nat → Prop} (h0 : ∀ k, v.ownBlock = some k → ok k) (hS : Items d W base (fun k => ok k ∧ some k ≠ v.ownBlock) xs okj inner) (hS2 : Items d W base ok2 ys okj2 inner2)
    (hok2 : ∀ j k, okj2 j k → (ok k ∧ some k ≠ v.ownBlock) ∧ ∀ i, ¬ okj i k) (h1 : w1.ownsRow base e d.sz v1 (xs.length + ys.length) (inner ++ inner2))
    (hkeep : ∀ k, k < W.heap.size → some k ≠ v.ownBlock → w1.heap[k]? = W.heap[k]?) (hv1 : v1.ownBlock = v.ownBlock ∨ ∃ b, v1.ownBlock = some b ∧ W.heap.size ≤ b) (hfresh : ∀ k, W.heap.size ≤ k → ok k) : Kd.S d e w1 base ok v1 (xs ++ ys) := by
  have okC : ∀ j k, okj j k → (ok k ∧ some k ≠ v.ownBlock) ∧ k < W.heap.size := hS.okk
  have okD : ∀ j k, okj2 j k → (ok k ∧ some k ≠ v.ownBlock) ∧ k < W.heap.size := fun j k hk => ⟨(hok2 j k hk).1, (hS2.okk j k hk).2⟩
  refine S_shut (okj := fun j k => if j < xs.length then okj j k else okj2 (j - xs.length) k) (own_okk h0 hv1 hfresh) (by rw [List.length_append]; exact h1) (by rw [List.length_append, List.length_append, hS.len, hS2.len, Nat.add_mul]) ?_ ?_ ?_
  · intro a b k ha hb
    by_cases a1 : a < xs.length
    · rw [if_pos a1] at ha
      by_cases b1 : b < xs.length
      · rw [if_pos b1] at hb
        exact hS.apart _ _ _ ha hb
      · rw [if_neg b1] at hb
        exact absurd ha ((hok2 _ k hb).2 _)
    · rw [if_neg a1] at ha
      by_cases b1 : b < xs.length
      · rw [if_pos b1] at hb
        exact absurd hb ((hok2 _ k ha).2 _)
      · rw [if_neg b1] at hb
        have := hS2.apart _ _ _ ha hb
        omega
  · intro j k hk
    have h : (ok k ∧ some k ≠ v.ownBlock) ∧ k < W.heap.size := by
      split at hk
      · exact okC _ _ hk
      · exact okD _ _ hk
    exact ⟨h.1.1, away_own hv1 h.1.2 h.2⟩
  · intro j x hj
    by_cases j1 : j < xs.length
    · rw [List.getElem?_append_left j1] at hj
      have hle : j * d.sz + d.sz ≤ inner.length := by rw [hS.len, ← Nat.succ_mul]; exact Nat.mul_le_mul_right _ j1
      rw [List.drop_append_of_le_length (by omega), List.take_append_of_le_length (by rw [List.length_drop]; omega)]
      exact d.M_mono (fun k hk => by rw [if_pos j1]; exact hk) (d.M_move (fun k hk => hkeep k (okC j k hk).2 (okC j k hk).1.2) (hS.M j x hj))
    · rw [List.getElem?_append_right (by omega)] at hj
      have hle : inner.length ≤ j * d.sz := by rw [hS.len]; exact Nat.mul_le_mul_right _ (by omega)
      rw [List.drop_append, List.drop_eq_nil_of_le hle, List.nil_append, hS.len, ← Nat.sub_mul]
      exact d.M_mono (fun k hk => by rw [if_neg j1]; exact hk) (d.M_move (fun k hk => hkeep k (okD _ k hk).2 (okD _ k hk).1.2) (hS2.M _ x hj))
end
theorem Items_one {W : World} {base : Nat} {ok : Nat → Prop} {okj : Nat → Nat → Prop} {xs : List S63} {inner : List Value} (h : Items k63 W base ok xs okj inner) : ∀ u ∈ inner, u.oneCell' = true := by
  intro u hu
  obtain ⟨q, hq⟩ := List.mem_iff_getElem?.1 hu
  have hlt : q < inner.length := (List.getElem?_eq_some_iff.1 hq).1
  have h7 : k63.sz = 7 := rfl
  rw [h.len, h7] at hlt
  have hj : q / 7 < xs.length := by omega
  have hm := h.M (q / 7) xs[q / 7] (List.getElem?_eq_getElem hj)
  refine k63.K_one (k63.K_of_M hm) u (List.mem_iff_getElem?.2 ⟨q % 7, ?_⟩)
  rw [List.getElem?_take, if_pos (by rw [h7]; omega), List.getElem?_drop, h7, show q / 7 * 7 + q % 7 = q by omega]
  exact hq
/-! Builtins by their runs; copy over elements of several cells. -/
section
variable {P : Program} {ops : Array Oper} {rest : List Oper} {o : Oper} {a : Act} {Q : Exit → Act → World → Prop} {Kc : Act → World → Prop}
theorem append_run (w : World) (hgd : o.guard = none) (s x : Operand) (t t' : TypeId) (ho : o.op = .call { callee := .builtin .append, args := #[s, x], argTypes := #[t, t'] }) (v u : Value) (hs : a.eval s = v) (hx : a.eval x = u) {v' : Value} {w' : World} (hr : (Builtin.append_ #[t, t'] o.type #[v, u]).run P w = .ok v' w') (h : wpList P ops Q rest (a.put o.dst v') w') : wpList P ops Q (o :: rest) a w := by
  refine wpList_plain hgd fun K hK => ?_
  unfold Oper.wp execOp
  simp only [ho, resolve, invoke, builtin, Sem.run_bind, Sem.run_pure, Result.andThen_ok, List.map_toArray, List.map_cons, List.map_nil, hs, hx, hr]
  exact hK _ _ h
theorem append_step (w : World) (hw : Region.wanted o (yielded ops a.tmps) = true) (s x : Operand) (t t' : TypeId) (ho : o.op = .call { callee := .builtin .append, args := #[s, x], argTypes := #[t, t'] }) (v u : Value) (hs : a.eval s = v) (hx : a.eval x = u) {v' : Value} {w' : World} (hr : (Builtin.append_ #[t, t'] o.type #[v, u]).run P w = .ok v' w') (h : Kc (a.put o.dst v') w') :
    if Region.wanted o (yielded ops a.tmps) = true then Oper.wp P o a w Kc Q else Kc (a.put o.dst undef) w := by
  rw [if_pos hw]
  unfold Oper.wp execOp
  simp only [ho, resolve, invoke, builtin, Sem.run_bind, Sem.run_pure, Result.andThen_ok, List.map_toArray, List.map_cons, List.map_nil, hs, hx, hr]
  exact h
theorem copy_run (w : World) (hgd : o.guard = none) (s x : Operand) (t t' : TypeId) (ho : o.op = .call { callee := .builtin .copy, args := #[s, x], argTypes := #[t, t'] }) (v u : Value) (hs : a.eval s = v) (hx : a.eval x = u) {v' : Value} {w' : World} (hr : (Builtin.copy_ #[t, t'] o.type #[v, u]).run P w = .ok v' w') (h : wpList P ops Q rest (a.put o.dst v') w') : wpList P ops Q (o :: rest) a w := by
  refine wpList_plain hgd fun K hK => ?_
  unfold Oper.wp execOp
  simp only [ho, resolve, invoke, builtin, Sem.run_bind, Sem.run_pure, Result.andThen_ok, List.map_toArray, List.map_cons, List.map_nil, hs, hx, hr]
  exact hK _ _ h
theorem copy_step (w : World) (hw : Region.wanted o (yielded ops a.tmps) = true) (s x : Operand) (t t' : TypeId) (ho : o.op = .call { callee := .builtin .copy, args := #[s, x], argTypes := #[t, t'] }) (v u : Value) (hs : a.eval s = v) (hx : a.eval x = u) {v' : Value} {w' : World} (hr : (Builtin.copy_ #[t, t'] o.type #[v, u]).run P w = .ok v' w') (h : Kc (a.put o.dst v') w') :
    if Region.wanted o (yielded ops a.tmps) = true then Oper.wp P o a w Kc Q else Kc (a.put o.dst undef) w := by
  rw [if_pos hw]
  unfold Oper.wp execOp
  simp only [ho, resolve, invoke, builtin, Sem.run_bind, Sem.run_pure, Result.andThen_ok, List.map_toArray, List.map_cons, List.map_nil, hs, hx, hr]
  exact h
theorem run_copy_N (w : World) (dT sT ty elem : TypeId) (sz b o dLen dCap : Nat) (a : Addr) (sLen sCap m : Nat) (cs : List Value)
    (hu : P.underlying dT = some (.slice elem)) (hs : (P.info? elem).map (·.size) = some sz) (hm : m = Nat.min sLen dLen) (hn : cs.length = m * sz)
    (hsrc : ∀ j v, cs[j]? = some v → w.cell? (a.add j) = some v) (hc : ∀ j, j < cs.length → (w.cell? ⟨b, o + j, none⟩).isSome = true) (hf : ∀ j, j < cs.length → w.frozen? ⟨b, o + j, none⟩ = false) (h1 : ∀ v ∈ cs, v.oneCell' = true) :
    (Builtin.copy_ #[dT, sT] ty #[.slice (some ⟨b, o, none⟩) dLen dCap, .slice (some a) sLen sCap]).run P w = .ok (goInt m) (w.setCells b o cs) := by
  have hl := run_loadCells_list (P := P) w a cs hsrc
  have hst := run_storeCells_cells (P := P) b o cs 0 w (by simpa using hc) (by simpa using hf) h1
  subst hm
  cases hq : P.info? elem with
  | none => simp [hq] at hs
  | some i =>
    have hi : i.size = sz := by simpa [hq] using hs
    simp [Builtin.copy_, run_underlying hu, Builtin.lenOf, Builtin.firstCells, sizeOf, typeInfo, hq, hi, ← hn, hl, hst]
end
/-- Cells of a block. -/
theorem cells_of {W : World} {g : Nat} {cur : Array Value} {t : TypeId} (h : W.heap[g]? = some (.cells cur t (0, 0))) {l : List Value} {o : Nat} (hl : l = (cur.toList.drop o).take l.length) : ∀ j v, l[j]? = some v → W.cell? ((⟨g, o, none⟩ : Addr).add j) = some v := by
  intro j v hj
  have hjl := (List.getElem?_eq_some_iff.1 hj).1
  rw [hl, List.getElem?_take, if_pos hjl, List.getElem?_drop, Array.getElem?_toList] at hj
  rw [add_at, blk_cell h]
  exact hj
theorem there_of {W : World} {g : Nat} {cur : Array Value} {t : TypeId} (h : W.heap[g]? = some (.cells cur t (0, 0))) {o n : Nat} (hn : o + n ≤ cur.size) : ∀ j, j < n → (W.cell? ⟨g, o + j, none⟩).isSome = true := by
  intro j hj
  rw [blk_cell h, Array.getElem?_eq_getElem (by omega)]
  rfl
/-- Where a part of digest d belongs. -/
def put_at (xs : List S63) (d : Int) : Nat := (xs.takeWhile (fun x => decide (x.f0 < d))).length
theorem put_at_le (xs : List S63) (d : Int) : put_at xs d ≤ xs.length := by
  unfold put_at
  induction xs with
  | nil => exact Nat.le_refl _
  | cons x r ih =>
    rw [List.takeWhile_cons]
    split
    · exact Nat.succ_le_succ ih
    · exact Nat.zero_le _
theorem put_at_step {xs : List S63} {d : Int} {i : Nat} (hi : i < xs.length) (h : (rd_T63 xs (i : Int)).f0 < d) (e : put_at xs d = i + put_at (xs.drop i) d) : put_at xs d = (i + 1) + put_at (xs.drop (i + 1)) d := by
  have hx : rd_T63 xs (i : Int) = xs[i] := by unfold rd_T63; rw [List.getD_eq_getElem?_getD, show ((i : Nat) : Int).toNat = i from rfl, List.getElem?_eq_getElem hi]; rfl
  rw [hx] at h
  rw [e, List.drop_eq_getElem_cons hi]
  unfold put_at
  rw [List.takeWhile_cons, if_pos (decide_eq_true h), List.length_cons]
  omega
theorem put_at_stop {xs : List S63} {d : Int} {i : Nat} (hi : i < xs.length) (h : ¬ (rd_T63 xs (i : Int)).f0 < d) (e : put_at xs d = i + put_at (xs.drop i) d) : put_at xs d = i := by
  have hx : rd_T63 xs (i : Int) = xs[i] := by unfold rd_T63; rw [List.getD_eq_getElem?_getD, show ((i : Nat) : Int).toNat = i from rfl, List.getElem?_eq_getElem hi]; rfl
  rw [hx] at h
  rw [e, List.drop_eq_getElem_cons hi]
  unfold put_at
  rw [List.takeWhile_cons, if_neg (by simpa using h)]
  rfl
theorem put_at_end {xs : List S63} {d : Int} {i : Nat} (hi : ¬ i < xs.length) (e : put_at xs d = i + put_at (xs.drop i) d) : put_at xs d = i := by
  rw [e, List.drop_eq_nil_of_le (by omega)]
  rfl
/-- One more use of the part at place t. -/
def put_use (xs : List S63) (t : Int) : List S63 := xs.set t.toNat ⟨(rd_T63 xs t).f0, (rd_T63 xs t).f1, wrap64 ((rd_T63 xs t).f2 + 1)⟩
def put_res (q : Int × List Int × Int × Int × Int) : S36 := ⟨q.1, q.2.1, ⟨q.2.2.1, q.2.2.2.1, q.2.2.2.2⟩⟩
theorem box5z {W : World} {g t : Nat} {z0 z1 z2 z3 z4 : Value} (h : W.heap[g]? = some (.cells #[z0, z1, z2, z3, z4] t (0, 0))) :
    (W.cell? ⟨g, 0, none⟩ = some z0 ∧ W.cell? ⟨g, 1, none⟩ = some z1 ∧ W.cell? ⟨g, 2, none⟩ = some z2 ∧ W.cell? ⟨g, 3, none⟩ = some z3 ∧ W.cell? ⟨g, 4, none⟩ = some z4) ∧ ∀ j, W.frozen? ⟨g, j, none⟩ = false :=
  ⟨⟨(blk_cell h 0).trans rfl, (blk_cell h 1).trans rfl, (blk_cell h 2).trans rfl, (blk_cell h 3).trans rfl, (blk_cell h 4).trans rfl⟩, blk_frozen h⟩
end Go.Proofs.Ytlpfobakbgipbaa.QFnParts
