/- The pure statement behind the law FnExactIsStore: over numbers and lists the law answers true, at every input that the row's bounds let in. -/
import Derived.Test.YtgcidlnhgpjdpadQFnExactIsStorex8
import Derived.Test.YtgcidlnhgpjdpadQFnExactIsStoreg
namespace Go.Proofs.Ytgcidlnhgpjdpad.Pure
open Go Go.RowKit Go.Proofs.Ytgcidlnhgpjdpad.QFnExactIsStore Go.Proofs.YtgcidlnhgpjdpadW.PrintWords Go.Proofs.YtgcidlnhgpjdpadW.PrintLast Go.Proofs.YtgcidlnhgpjdpadW.PrintMore
set_option linter.unusedVariables false
set_option linter.unusedSimpArgs false
set_option maxRecDepth 100000

theorem w64 {x : Int} (h0 : -9223372036854775808≤x) (h1 : x≤9223372036854775807) : wrap64 x=x:=by unfold wrap64; omega
theorem ev_pos {α : Type} {c : Prop} [Decidable c] {g f : Nat→Option α} {r : α} (h : c) (k : Ev g r) : Ev (fun n => if c then g n else f n) r:=by
 obtain ⟨K,hK⟩:=k
 exact ⟨K,fun n hn => (if_pos h).trans (hK n hn)⟩
theorem ev_neg {α : Type} {c : Prop} [Decidable c] {g f : Nat→Option α} {r : α} (h : ¬ c) (k : Ev f r) : Ev (fun n => if c then g n else f n) r:=by
 obtain ⟨K,hK⟩:=k
 exact ⟨K,fun n hn => (if_neg h).trans (hK n hn)⟩
theorem ev_bind0 {α β : Type} {o : Option α} {f : Nat→α→Option β} {a : α} {r : β} (h : o=some a) (k : Ev (fun n => f n a) r) : Ev (fun n => o.bind (f n)) r:=by
 subst h
 exact k
theorem ev_of {α : Type} {o : Option α} {r : α} (h : o=some r) : Ev (fun _ => o) r:=⟨0,fun _ _ => h⟩
theorem rd_at (xs : List Int) (i : Nat) (h : i < xs.length) : rd xs (i : Int)=xs[i]:=by
 unfold rd
 rw [Int.toNat_natCast,List.getD_eq_getElem?_getD,List.getElem?_eq_getElem h]
 rfl
theorem set_take {out xs : List Int} {i : Nat} (h : out.take i=xs.take i) (hl : out.length=xs.length) (hi : i < xs.length) : (out.set ((i : Int)).toNat (rd xs i)).take (i+1)=xs.take (i+1):=by
 rw [rd_at xs i hi,Int.toNat_natCast,List.take_succ_eq_append_getElem hi,List.take_succ_eq_append_getElem (by rw [List.length_set]; omega)]
 rw [List.take_set_of_le (Nat.le_refl _),h]
 simp
theorem toIntS_l0 (xs : List Int) (hn : xs.length≤35184372088832) : ∀ (d i : Nat) (out : List Int),i+d=xs.length→out.length=xs.length→out.take i=xs.take i→Ev (fun k => laws_toIntS.l0 k xs out (i : Int)) xs:=by
 intro d
 induction d with
 | zero =>
  intro i out hd hl ht
  refine Ev.step (fun _ => laws_toIntS.l0.eq_2 ..) (ev_neg (by omega) (ev_of ?_))
  rw [List.take_of_length_le (by omega),List.take_of_length_le (by omega)] at ht
  rw [ht]
 | succ d ih =>
  intro i out hd hl ht
  refine Ev.step (fun _ => laws_toIntS.l0.eq_2 ..) (ev_pos (by omega) (ev_pos (by omega) (ev_pos (by omega) ?_)))
  rw [w64 (by omega) (by omega)]
  exact ih (i+1) _ (by omega) (by rw [List.length_set]; exact hl) (set_take ht hl (by omega))
theorem toIntS_ev (xs : List Int) (hn : xs.length≤35184372088832) : Ev (fun k => laws_toIntS.f k xs) xs:=by
 unfold laws_toIntS.f
 refine ev_pos (by omega) (ev_pos (by omega) ?_)
 exact toIntS_l0 xs hn xs.length 0 _ (by omega) (by simp) (by simp)
theorem eqIntS_l0 (xs : List Int) (hn : xs.length≤9223372036854775807) : ∀ (d i : Nat),i+d=xs.length→Ev (fun k => laws_eqIntS.l0 k xs xs (i : Int)) true:=by
 intro d
 induction d with
 | zero =>
  intro i hd
  exact Ev.step (fun _ => laws_eqIntS.l0.eq_2 ..) (ev_neg (by omega) (Ev.now true))
 | succ d ih =>
  intro i hd
  refine Ev.step (fun _ => laws_eqIntS.l0.eq_2 ..) (ev_pos (by omega) (ev_pos (by omega) (ev_pos (by omega) (ev_pos rfl ?_))))
  rw [w64 (by omega) (by omega)]
  exact ih (i+1) (by omega)
theorem eqIntS_same (xs : List Int) (hn : xs.length≤9223372036854775807) : Ev (fun k => laws_eqIntS.f k xs xs) true:=by
 unfold laws_eqIntS.f
 exact ev_pos rfl (eqIntS_l0 xs hn xs.length 0 (by omega))
def szR (a : Int) (n : Nat) : Int:=if a - (n : Int) < 0 then -1 else a - (n : Int)
theorem szR_zero (a : Int) (h : 0≤a) : szR a 0=a:=by unfold szR; rw [if_neg (by omega)]; omega
theorem szR_neg (a : Int) (n m : Nat) (h : szR a n < 0) : szR a (n+m)=-1:=by
 unfold szR at h ⊢
 by_cases c : a - (n : Int) < 0
 ·rw [if_pos (by omega)]
 ·rw [if_neg c] at h
  omega
theorem szR_neg1 (a : Int) (n : Nat) (h : szR a n < 0) : szR a n=-1:=by
 have:=szR_neg a n 0 h
 rwa [Nat.add_zero] at this
theorem szR_add (a : Int) (n m : Nat) (h : ¬ szR a n < 0) : szR (szR a n) m=szR a (n+m):=by
 unfold szR at h ⊢
 by_cases c : a - (n : Int) < 0
 ·rw [if_pos c] at h
  omega
 ·rw [if_neg c]
  by_cases d : a - (n : Int) - (m : Int) < 0
  ·rw [if_pos d,if_pos (by omega)]
  ·rw [if_neg d,if_neg (by omega)]
   omega
theorem szR_le (a : Int) (n : Nat) (h : ¬ szR a n < 0) : (n : Int)≤a:=by
 unfold szR at h
 by_cases c : a - (n : Int) < 0
 ·rw [if_pos c] at h
  omega
 ·omega
theorem szR_range (a : Int) (n : Nat) (h : ¬ szR a n < 0) : 0≤szR a n∧szR a n≤a:=by
 have:=szR_le a n h
 unfold szR at h ⊢
 rw [if_neg (by omega)]
 omega
theorem szIntS_val (l : List Int) (a : Int) (h0 : 0≤a) (h1 : a≤9223372036854775807) (hl : l.length≤9223372036854775807) : laws_szIntS.f l a=some (szR a l.length):=by
 unfold laws_szIntS.f szR
 rw [w64 (by omega) (by omega)]
 split <;> rfl
theorem some_neg {a : Int} (h : a < 0→a=-1) : (if a < 0 then some (-1) else some a)=some a:=by
 split
 ·rw [h (by assumption)]
 ·rfl
theorem getD_at {α : Type} (xs : List α) (z : α) (i : Nat) (h : i < xs.length) : xs.getD ((i : Int)).toNat z=xs[i]:=by
 rw [Int.toNat_natCast,List.getD_eq_getElem?_getD,List.getElem?_eq_getElem h]
 rfl
theorem set_takeG {α : Type} {out ys : List α} {i : Nat} (h : out.take i=ys.take i) (hl : out.length=ys.length) (hi : i < ys.length) {v : α} (hv : ys[i]=v) : (out.set ((i : Int)).toNat v).take (i+1)=ys.take (i+1):=by
 subst hv
 rw [Int.toNat_natCast,List.take_succ_eq_append_getElem hi,List.take_succ_eq_append_getElem (by rw [List.length_set]; omega)]
 rw [List.take_set_of_le (Nat.le_refl _),h]
 simp
def sumLen {α : Type} (f : α→List Int) (xs : List α) : Nat:=(xs.map fun x => (f x).length).sum
theorem sumLen_cons {α : Type} (f : α→List Int) (x : α) (xs : List α) : sumLen f (x :: xs)=(f x).length+sumLen f xs:=by simp [sumLen]
theorem sumLen_mem {α : Type} (f : α→List Int) : ∀ (xs : List α) (x : α),x ∈ xs→(f x).length≤sumLen f xs
 | y :: xs,x,h => by
  rw [sumLen_cons]
  rcases List.mem_cons.1 h with rfl | h
  ·omega
  ·have:=sumLen_mem f xs x h
   omega
theorem szResource_val (a0 : Int) (l : List Int) (a2 a3 a4 a : Int) (h0 : 0≤a) (h1 : a≤9223372036854775807) (hl : l.length≤9223372036854775807) : laws_szResource.f a0 l a2 a3 a4 a=some (szR a l.length):=by
 unfold laws_szResource.f
 rw [szIntS_val l a h0 h1 hl,Option.bind_some]
 exact some_neg (szR_neg1 a _)
theorem toResource_ev (a0 : Int) (l : List Int) (a2 a3 a4 : Int) (hn : l.length≤35184372088832) : Ev (fun k => laws_toResource.f k a0 l a2 a3 a4) (a0,l,a2,a3,a4):=by
 unfold laws_toResource.f laws_toAddress.f
 exact Ev.bind (toIntS_ev l hn) (Ev.now _)
theorem eqAddress_same (a b c : Int) : laws_eqAddress.f a b c a b c=some true:=by
 unfold laws_eqAddress.f
 rw [if_pos rfl,if_pos rfl,if_pos rfl]
theorem eqResource_same (a0 : Int) (l : List Int) (a2 a3 a4 : Int) (hn : l.length≤9223372036854775807) : Ev (fun k => laws_eqResource.f k a0 l a2 a3 a4 a0 l a2 a3 a4) true:=by
 unfold laws_eqResource.f
 refine ev_pos rfl (Ev.bind (eqIntS_same l hn) (ev_pos rfl (ev_bind0 (eqAddress_same _ _ _) (ev_pos rfl (Ev.now _)))))
theorem rd0Part (xs : List S92) (i : Nat) (h : i < xs.length) : rd_T92 xs (i : Int)=xs[i]:=getD_at xs z92 i h
theorem rd1Part (xs : List S94) (i : Nat) (h : i < xs.length) : rd_T94 xs (i : Int)=xs[i]:=getD_at xs z94 i h
def ls0Part (x : S92) : List Int:=x.f1.f1
def ls1Part (x : S94) : List Int:=x.f1.f1
def convPart (x : S92) : S94:=⟨x.f0,⟨x.f1.f0,x.f1.f1,⟨x.f1.f2.f0,x.f1.f2.f1,x.f1.f2.f2⟩⟩,x.f2⟩
theorem szPart_val (x : S92) (a : Int) (h0 : 0≤a) (h1 : a≤9223372036854775807) (hl : (ls0Part x).length≤9223372036854775807) : laws_szPart.f x.f0 x.f1.f0 x.f1.f1 x.f1.f2.f0 x.f1.f2.f1 x.f1.f2.f2 x.f2 a=some (szR a (ls0Part x).length):=by
 unfold laws_szPart.f
 refine (congrArg (fun o => Option.bind o _) (szResource_val _ _ _ _ _ a h0 h1 hl)).trans ?_
 exact some_neg (szR_neg1 a _)
theorem szPartS_l0 (xs : List S92) (hi : ∀ x ∈ xs,(ls0Part x).length≤9223372036854775807) (hn : xs.length≤9223372036854775806) : ∀ (d i : Nat) (a : Int),i+d=xs.length→0≤a→a≤9223372036854775807→Ev (fun k => laws_szPartS.l0 k xs a (i : Int)) (szR a (sumLen ls0Part (xs.drop i))):=by
 intro d
 induction d with
 | zero =>
  intro i a hd h0 h1
  refine Ev.step (fun _ => laws_szPartS.l0.eq_2 ..) (ev_neg (by omega) (ev_of ?_))
  rw [List.drop_eq_nil_of_le (by omega)]
  exact congrArg some (szR_zero a h0).symm
 | succ d ih =>
  intro i a hd h0 h1
  refine Ev.step (fun _ => laws_szPartS.l0.eq_2 ..) (ev_pos (by omega) (ev_pos (by omega) ?_))
  have hlt : i < xs.length:=by omega
  rw [rd0Part xs i hlt,List.drop_eq_getElem_cons hlt,sumLen_cons]
  refine ev_bind0 (szPart_val _ a h0 h1 (hi _ (List.getElem_mem hlt))) ?_
  by_cases c : szR a (ls0Part (xs[i]'hlt)).length < 0
  ·refine ev_pos c (ev_of ?_)
   rw [szR_neg _ _ _ c]
  ·refine ev_neg c ?_
   have hr:=szR_range _ _ c
   rw [w64 (x:=(i : Int)+1) (by omega) (by omega),← szR_add _ _ _ c]
   exact ih (i+1) _ (by omega) (by omega) (by omega)
theorem szPartS_ev (xs : List S92) (a : Int) (h0 : 0≤a) (h1 : a≤9223372036854775806) (hl : xs.length≤9223372036854775807) (hi : ∀ x ∈ xs,(ls0Part x).length≤9223372036854775807) : Ev (fun k => laws_szPartS.f k xs a) (szR a (xs.length+sumLen ls0Part xs)):=by
 unfold laws_szPartS.f
 rw [w64 (by omega) (by omega)]
 by_cases c : a - (xs.length : Int) < 0
 ·refine ev_pos c (ev_of ?_)
  rw [szR_neg _ _ _ (by unfold szR; rw [if_pos c]; omega)]
 ·refine ev_neg c ?_
  have e : szR a xs.length=a - (xs.length : Int):=by unfold szR; rw [if_neg c]
  have h:=szPartS_l0 xs hi (by omega) xs.length 0 (a - (xs.length : Int)) (by omega) (by omega) (by omega)
  rw [List.drop_zero,← e,szR_add _ _ _ (by rw [e]; exact c),e] at h
  exact h
theorem toPart_ev (x : S92) (hn : (ls0Part x).length≤35184372088832) : Ev (fun k => laws_toPart.f k x.f0 x.f1.f0 x.f1.f1 x.f1.f2.f0 x.f1.f2.f1 x.f1.f2.f2 x.f2) (x.f0,x.f1.f0,x.f1.f1,x.f1.f2.f0,x.f1.f2.f1,x.f1.f2.f2,x.f2):=by
 unfold laws_toPart.f
 exact Ev.bind (toResource_ev _ _ _ _ _ hn) (Ev.now _)
theorem toPartS_l0 (xs : List S92) (hn : xs.length≤1048576) (hi : ∀ x ∈ xs,(ls0Part x).length≤35184372088832) : ∀ (d i : Nat) (out : List S94),i+d=xs.length→out.length=xs.length→out.take i=(xs.map convPart).take i→Ev (fun k => laws_toPartS.l0 k xs out (i : Int)) (xs.map convPart):=by
 intro d
 induction d with
 | zero =>
  intro i out hd hl ht
  refine Ev.step (fun _ => laws_toPartS.l0.eq_2 ..) (ev_neg (by omega) (ev_of ?_))
  rw [List.take_of_length_le (by omega),List.take_of_length_le (by rw [List.length_map]; omega)] at ht
  rw [ht]
 | succ d ih =>
  intro i out hd hl ht
  have hlt : i < xs.length:=by omega
  refine Ev.step (fun _ => laws_toPartS.l0.eq_2 ..) (ev_pos (by omega) (ev_pos (by omega) ?_))
  rw [rd0Part xs i hlt]
  refine Ev.bind (toPart_ev _ (hi _ (List.getElem_mem hlt))) (ev_pos (by omega) ?_)
  rw [w64 (by omega) (by omega)]
  exact ih (i+1) _ (by omega) (by rw [List.length_set]; exact hl) (set_takeG ht (by rw [List.length_map]; exact hl) (by rw [List.length_map]; exact hlt) (by rw [List.getElem_map]; rfl))
theorem toPartS_ev (xs : List S92) (hn : xs.length≤1048576) (hi : ∀ x ∈ xs,(ls0Part x).length≤35184372088832) : Ev (fun k => laws_toPartS.f k xs) (xs.map convPart):=by
 unfold laws_toPartS.f
 refine ev_pos (by omega) (ev_pos (by omega) ?_)
 exact toPartS_l0 xs hn hi xs.length 0 _ (by omega) (by simp) (by simp)
theorem eqPart_same (x : S94) (hn : (ls1Part x).length≤9223372036854775807) : Ev (fun k => laws_eqPart.f k x.f0 x.f1.f0 x.f1.f1 x.f1.f2.f0 x.f1.f2.f1 x.f1.f2.f2 x.f2 x.f0 x.f1.f0 x.f1.f1 x.f1.f2.f0 x.f1.f2.f1 x.f1.f2.f2 x.f2) true:=by
 unfold laws_eqPart.f
 exact ev_pos rfl (Ev.bind (eqResource_same _ _ _ _ _ hn) (ev_pos rfl (ev_pos rfl (Ev.now _))))
theorem eqPartS_l0 (xs : List S94) (hn : xs.length≤9223372036854775806) (hi : ∀ x ∈ xs,(ls1Part x).length≤9223372036854775807) : ∀ (d i : Nat),i+d=xs.length→Ev (fun k => laws_eqPartS.l0 k xs xs (i : Int)) true:=by
 intro d
 induction d with
 | zero =>
  intro i hd
  exact Ev.step (fun _ => laws_eqPartS.l0.eq_2 ..) (ev_neg (by omega) (Ev.now true))
 | succ d ih =>
  intro i hd
  have hlt : i < xs.length:=by omega
  refine Ev.step (fun _ => laws_eqPartS.l0.eq_2 ..) (ev_pos (by omega) (ev_pos (by omega) (ev_pos (by omega) ?_)))
  rw [rd1Part xs i hlt]
  refine Ev.bind (eqPart_same _ (hi _ (List.getElem_mem hlt))) (ev_pos rfl ?_)
  rw [w64 (by omega) (by omega)]
  exact ih (i+1) (by omega)
theorem eqPartS_same (xs : List S94) (hn : xs.length≤9223372036854775806) (hi : ∀ x ∈ xs,(ls1Part x).length≤9223372036854775807) : Ev (fun k => laws_eqPartS.f k xs xs) true:=by
 unfold laws_eqPartS.f
 exact ev_pos rfl (eqPartS_l0 xs hn hi xs.length 0 (by omega))
theorem l1In_val (a b c : Int) : spec_l1In.f a b c=some (decide (b≤a∧a≤c)):=by
 unfold spec_l1In.f
 by_cases h : a ≥ b
 ·rw [if_pos h]; simp [h]
 ·rw [if_neg h]; simp [h]
theorem inRange_val (a b c : Int) : impl_InRange.f a b c=some (decide (b≤a∧a≤c)):=by
 unfold impl_InRange.f
 by_cases h : b≤a
 ·rw [if_pos h]; simp [h]
 ·rw [if_neg h]; simp [h]
def isAddr (a b c : Int) : Bool:=decide (1≤a∧a≤9) && (decide (0≤b∧b≤99) && decide (0≤c∧c≤99))
theorem spec_IsAddress_val (a b c : Int) : spec_IsAddress.f a b c=some (isAddr a b c):=by
 unfold spec_IsAddress.f isAddr
 simp only [l1In_val,Option.bind_some]
 by_cases h1 : 1≤a∧a≤9 <;> by_cases h2 : 0≤b∧b≤99 <;> simp [h1,h2]
theorem impl_IsAddress_val (a b c : Int) : impl_IsAddress.f a b c=some (isAddr a b c):=by
 unfold impl_IsAddress.f isAddr
 simp only [inRange_val,Option.bind_some]
 by_cases h1 : 1≤a∧a≤9 <;> by_cases h2 : 0≤b∧b≤99 <;> simp [h1,h2]
def okB (l : List Int) : Bool:=l.all fun x => decide (0≤x∧x≤255)
theorem spec_l5Bytes_l0 (xs : List Int) (hn : xs.length≤1099511627776) : ∀ (d i : Nat),i+d=xs.length→Ev (fun k => spec_l5Bytes.l0 k xs (i : Int)) (okB (xs.drop i)):=by
 intro d
 induction d with
 | zero =>
  intro i hd
  refine Ev.step (fun _ => spec_l5Bytes.l0.eq_2 ..) (ev_neg (by omega) (ev_of ?_))
  rw [List.drop_eq_nil_of_le (by omega)]
  rfl
 | succ d ih =>
  intro i hd
  have hlt : i < xs.length:=by omega
  refine Ev.step (fun _ => spec_l5Bytes.l0.eq_2 ..) (ev_pos (by omega) (ev_pos (by omega) (ev_bind0 (l1In_val _ _ _) ?_)))
  rw [rd_at xs i hlt,List.drop_eq_getElem_cons hlt,okB,List.all_cons]
  by_cases h : 0≤xs[i]'hlt∧xs[i]'hlt≤255
  ·refine ev_pos (decide_eq_true h) ?_
   rw [w64 (by omega) (by omega),decide_eq_true h,Bool.true_and]
   exact ih (i+1) (by omega)
  ·refine ev_neg (by simp only [decide_eq_true_eq]; exact h) (ev_of ?_)
   rw [decide_eq_false h,Bool.false_and]
theorem impl_allIn_l0 (xs : List Int) (hn : xs.length≤1099511627776) : ∀ (d i : Nat),i+d=xs.length→Ev (fun k => impl_allIn.l0 k 0 255 xs (xs.length : Int) (i : Int)) (okB (xs.drop i)):=by
 intro d
 induction d with
 | zero =>
  intro i hd
  refine Ev.step (fun _ => impl_allIn.l0.eq_2 ..) (ev_neg (by omega) (ev_of ?_))
  rw [List.drop_eq_nil_of_le (by omega)]
  rfl
 | succ d ih =>
  intro i hd
  have hlt : i < xs.length:=by omega
  refine Ev.step (fun _ => impl_allIn.l0.eq_2 ..) (ev_pos (by omega) (ev_pos (by omega) (ev_pos (by omega) (ev_bind0 (inRange_val _ _ _) ?_))))
  rw [rd_at xs i hlt,List.drop_eq_getElem_cons hlt,okB,List.all_cons]
  by_cases h : 0≤xs[i]'hlt∧xs[i]'hlt≤255
  ·refine ev_pos (decide_eq_true h) ?_
   rw [w64 (by omega) (by omega),decide_eq_true h,Bool.true_and]
   exact ih (i+1) (by omega)
  ·refine ev_neg (by simp only [decide_eq_true_eq]; exact h) (ev_of ?_)
   rw [decide_eq_false h,Bool.false_and]
theorem spec_l5Bytes_ev (xs : List Int) (hn : xs.length≤1099511627776) : Ev (fun k => spec_l5Bytes.f k xs) (okB xs):=by
 unfold spec_l5Bytes.f
 exact spec_l5Bytes_l0 xs hn xs.length 0 (by omega)
theorem impl_allIn_ev (xs : List Int) (hn : xs.length≤1099511627776) : Ev (fun k => impl_allIn.f k xs 0 255) (okB xs):=by
 unfold impl_allIn.f
 exact impl_allIn_l0 xs hn xs.length 0 (by omega)
def zeroA (a b c : Int) : Bool:=a == 0 && (b == 0 && (c == 0))
def isRes (k : Int) (l : List Int) (a b c : Int) : Bool :=
 if k=1 ∨ k=2 then decide (l.length≤6) && (okB l && zeroA a b c)
 else if k=3 then decide (l.length=0) && isAddr a b c
 else if k=4 then decide (l.length=0) && zeroA a b c else false
theorem len0 (l : List Int) : ((l.length : Int) == 0)=decide (l.length=0):=by
 rw [Bool.eq_iff_iff]
 simp
theorem okB_nil (l : List Int) (h : l.length=0) : okB l=true:=by
 rw [List.eq_nil_of_length_eq_zero h]
 rfl
theorem spec_IsResource_ev (k : Int) (l : List Int) (a b c : Int) (hn : l.length≤1099511627776) : Ev (fun n => spec_IsResource.f n k l a b c) (isRes k l a b c):=by
 unfold spec_IsResource.f
 refine ev_bind0 (l1In_val _ _ _) ?_
 by_cases hk : 1≤k∧k≤4
 ·refine ev_pos (decide_eq_true hk) (Ev.bind (spec_l5Bytes_ev l hn) ?_)
  by_cases ho : okB l=true
  ·refine ev_pos ho (Ev.step (fun _ => spec_IsResource.j0.eq_2 ..) ?_)
   by_cases hl : l.length≤6
   ·refine ev_neg (by simp only [decide_eq_true_eq]; omega) ?_
    by_cases h3 : k=3
    ·refine ev_pos h3 (ev_bind0 (spec_IsAddress_val _ _ _) ?_)
     have e : isRes k l a b c=(decide (l.length=0) && isAddr a b c):=by unfold isRes; rw [if_neg (by omega),if_pos h3]
     rw [e]
     by_cases ha : isAddr a b c=true
     ·refine ev_pos ha (ev_of ?_)
      rw [len0,ha,Bool.and_true]
     ·refine ev_neg ha (ev_of ?_)
      rw [Bool.eq_false_iff.2 ha,Bool.and_false]
    ·refine ev_neg h3 ?_
     by_cases hz : zeroA a b c=true
     ·refine ev_pos hz ?_
      by_cases h4 : k=4
      ·refine ev_pos h4 (ev_of ?_)
       unfold isRes
       rw [if_neg (by omega),if_neg h3,if_pos h4,hz,Bool.and_true,len0]
      ·refine ev_neg h4 (ev_of ?_)
       unfold isRes
       rw [if_pos (by omega),hz,ho,decide_eq_true hl]
       rfl
     ·refine ev_neg hz (ev_of ?_)
      unfold isRes
      have hz':=Bool.eq_false_iff.2 hz
      by_cases h4 : k=4
      ·rw [if_neg (by omega),if_neg h3,if_pos h4,hz',Bool.and_false]
      ·rw [if_pos (by omega),hz',Bool.and_false,Bool.and_false]
   ·refine ev_pos (decide_eq_true (by omega)) (ev_of ?_)
    unfold isRes
    rw [decide_eq_false hl,decide_eq_false (show ¬ l.length=0 by omega)]
    simp
  ·refine ev_neg ho (Ev.step (fun _ => spec_IsResource.j0.eq_2 ..) (ev_pos rfl (ev_of ?_)))
   have hne : ¬ l.length=0:=fun h => ho (okB_nil l h)
   unfold isRes
   rw [Bool.eq_false_iff.2 ho,decide_eq_false hne]
   simp
 ·refine ev_neg (by simp only [decide_eq_true_eq]; exact hk) (Ev.step (fun _ => spec_IsResource.j0.eq_2 ..) (ev_pos rfl (ev_of ?_)))
  unfold isRes
  rw [if_neg (by omega),if_neg (by omega),if_neg (by omega)]
theorem impl_IsResource_ev (k : Int) (l : List Int) (a b c : Int) (hn : l.length≤1099511627776) : Ev (fun n => impl_IsResource.f n k l a b c) (isRes k l a b c):=by
 have body : ∀ q : Bool,(q=true ↔ k=1 ∨ k=2)→Ev (fun n => impl_IsResource.j0 n k q k l a b c) (isRes k l a b c):=by
  intro q hq
  refine Ev.step (fun _ => impl_IsResource.j0.eq_2 ..) ?_
  by_cases h : q=true
  ·refine ev_pos h ?_
   have e : isRes k l a b c=(decide (l.length≤6) && (okB l && zeroA a b c)):=by unfold isRes; rw [if_pos (hq.1 h)]
   rw [e]
   by_cases hl : l.length≤6
   ·refine ev_pos (by omega) (Ev.bind (impl_allIn_ev l hn) ?_)
    rw [decide_eq_true hl,Bool.true_and]
    by_cases ho : okB l=true
    ·refine ev_pos ho (ev_of ?_)
     rw [ho,Bool.true_and]
     rfl
    ·refine ev_neg ho (ev_of ?_)
     rw [Bool.eq_false_iff.2 ho,Bool.false_and]
   ·refine ev_neg (by omega) (ev_of ?_)
    rw [decide_eq_false hl,Bool.false_and]
  ·refine ev_neg h ?_
   have hk : ¬ (k=1 ∨ k=2):=fun hh => h (hq.2 hh)
   by_cases h3 : k=3
   ·have e : isRes k l a b c=(decide (l.length=0) && isAddr a b c):=by unfold isRes; rw [if_neg hk,if_pos h3]
    rw [e]
    refine ev_pos h3 ?_
    by_cases hl : l.length=0
    ·refine ev_pos (by omega) (ev_bind0 (impl_IsAddress_val _ _ _) (ev_of ?_))
     rw [decide_eq_true hl,Bool.true_and]
    ·refine ev_neg (by omega) (ev_of ?_)
     rw [decide_eq_false hl,Bool.false_and]
   ·refine ev_neg h3 ?_
    by_cases h4 : k=4
    ·have e : isRes k l a b c=(decide (l.length=0) && zeroA a b c):=by unfold isRes; rw [if_neg hk,if_neg h3,if_pos h4]
     rw [e]
     refine ev_pos h4 ?_
     by_cases hl : l.length=0
     ·refine ev_pos (by omega) (ev_of ?_)
      rw [decide_eq_true hl,Bool.true_and]
      rfl
     ·refine ev_neg (by omega) (ev_of ?_)
      rw [decide_eq_false hl,Bool.false_and]
    ·have e : isRes k l a b c=false:=by unfold isRes; rw [if_neg hk,if_neg h3,if_neg h4]
     rw [e]
     exact ev_neg h4 (Ev.now _)
 unfold impl_IsResource.f
 by_cases h1 : k=1
 ·exact ev_pos h1 (body _ (by simp [h1]))
 ·exact ev_neg h1 (body _ (by simp [h1]))
theorem tmod_twice (a b : Int) (h1 : 1≤b) (h2 : b≤1000000000000) : Int.tmod (wrap64 (Int.tmod a b+b)) b=a % b:=by
 have hlt : Int.tmod a b < b:=Int.tmod_lt_of_pos a (by omega)
 have hgt : -b < Int.tmod a b:=by
  have h:=Int.tmod_lt_of_pos (-a) (show 0 < b by omega)
  rw [Int.neg_tmod] at h
  omega
 rw [w64 (by omega) (by omega),Int.tmod_eq_emod_of_nonneg (by omega),Int.add_emod_right]
 have e : Int.tmod a b=a - b * (a.tdiv b):=Int.tmod_def a b
 rw [e,Int.sub_mul_emod_self_left]
theorem spec_Mod_val (a b : Int) (h1 : 1≤b) (h2 : b≤1000000000000) : spec_Mod.f a b=some (a % b):=by
 unfold spec_Mod.f
 rw [l1In_val]
 simp only [Option.bind_some,h1,h2,and_self,decide_true,if_true]
 rw [if_neg (by omega),tmod_twice a b h1 h2]
theorem impl_Mod_val (a b : Int) (h1 : 1≤b) (h2 : b≤1000000000000) : impl_Mod.f a b=some (a % b):=by
 unfold impl_Mod.f
 rw [inRange_val]
 simp only [Option.bind_some,h1,h2,and_self,decide_true,if_true]
 rw [if_neg (by omega),tmod_twice a b h1 h2]
def hstep (h v : Int) : Int:=(h * 1000003+v % 2147483647+13) % 2147483647
def hashOf (l : List Int) : Int:=l.foldl hstep 11
theorem hstep_range (h v : Int) : 0≤hstep h v∧hstep h v < 2147483647:=by unfold hstep; omega
theorem hstep_wrap (h v : Int) (h0 : 0≤h) (h1 : h < 2147483647) : Int.tmod (wrap64 ((wrap64 ((wrap64 (h * 1000003))+v % 2147483647))+13)) 2147483647=hstep h v:=by
 have e1 : wrap64 (h * 1000003)=h * 1000003:=w64 (by omega) (by omega)
 have e2 : wrap64 (h * 1000003+v % 2147483647)=h * 1000003+v % 2147483647:=w64 (by omega) (by omega)
 rw [e1,e2,w64 (by omega) (by omega),Int.tmod_eq_emod_of_nonneg (by omega)]
 rfl
theorem spec_Hash_l0 (xs : List Int) (hn : xs.length≤4611686018427387904) : ∀ (d i : Nat) (h : Int),i+d=xs.length→0≤h→h < 2147483647→Ev (fun k => spec_Hash.l0 k xs h (i : Int)) ((xs.drop i).foldl hstep h):=by
 intro d
 induction d with
 | zero =>
  intro i h hd h0 h1
  refine Ev.step (fun _ => spec_Hash.l0.eq_2 ..) (ev_neg (by omega) (ev_of ?_))
  rw [List.drop_eq_nil_of_le (by omega)]
  rfl
 | succ d ih =>
  intro i h hd h0 h1
  refine Ev.step (fun _ => spec_Hash.l0.eq_2 ..) (ev_pos (by omega) (ev_pos (by omega) (ev_bind0 (spec_Mod_val _ _ (by omega) (by omega)) ?_)))
  rw [hstep_wrap h _ h0 h1,w64 (by omega) (by omega),List.drop_eq_getElem_cons (show i < xs.length by omega),List.foldl_cons,← rd_at xs i (by omega)]
  exact ih (i+1) _ (by omega) (hstep_range _ _).1 (hstep_range _ _).2
theorem spec_Hash_ev (xs : List Int) (hn : xs.length≤4611686018427387904) : Ev (fun k => spec_Hash.f k xs) (hashOf xs):=by
 unfold spec_Hash.f
 exact spec_Hash_l0 xs hn xs.length 0 11 (by omega) (by omega) (by omega)
theorem impl_Hash_l0 (xs : List Int) (hn : xs.length≤4611686018427387904) : ∀ (d i : Nat) (h : Int),i+d=xs.length→0≤h→h < 2147483647→Ev (fun k => impl_Hash.l0 k h xs (xs.length : Int) (i : Int)) ((xs.drop i).foldl hstep h):=by
 intro d
 induction d with
 | zero =>
  intro i h hd h0 h1
  refine Ev.step (fun _ => impl_Hash.l0.eq_2 ..) (ev_neg (by omega) (ev_of ?_))
  rw [List.drop_eq_nil_of_le (by omega)]
  rfl
 | succ d ih =>
  intro i h hd h0 h1
  refine Ev.step (fun _ => impl_Hash.l0.eq_2 ..) (ev_pos (by omega) (ev_pos (by omega) (ev_pos (by omega) (ev_bind0 (impl_Mod_val _ _ (by omega) (by omega)) ?_))))
  rw [hstep_wrap h _ h0 h1,w64 (by omega) (by omega),List.drop_eq_getElem_cons (show i < xs.length by omega),List.foldl_cons,← rd_at xs i (by omega)]
  exact ih (i+1) _ (by omega) (hstep_range _ _).1 (hstep_range _ _).2
theorem impl_Hash_ev (xs : List Int) (hn : xs.length≤4611686018427387904) : Ev (fun k => impl_Hash.f k xs) (hashOf xs):=by
 unfold impl_Hash.f
 exact impl_Hash_l0 xs hn xs.length 0 11 (by omega) (by omega) (by omega)
def resInts (a0 : Int) (l : List Int) (a2 a3 a4 : Int) : List Int:=[a0,a2,a3,a4,(l.length : Int)] ++ l
theorem resInts_len (a0 : Int) (l : List Int) (a2 a3 a4 : Int) : (resInts a0 l a2 a3 a4).length=l.length+5:=by simp [resInts]
theorem spec_ResourceInts_val (a0 : Int) (l : List Int) (a2 a3 a4 : Int) (hl : l.length≤1099511627776) : spec_ResourceInts.f a0 l a2 a3 a4=some (resInts a0 l a2 a3 a4):=by
 unfold spec_ResourceInts.f
 rw [Option.bind_some,if_pos (by simp only [List.length_cons,List.length_nil]; omega)]
 rfl
theorem impl_ResourceInts_val (a0 : Int) (l : List Int) (a2 a3 a4 : Int) (hl : l.length≤1099511627776) : impl_ResourceInts.f a0 l a2 a3 a4=some (resInts a0 l a2 a3 a4):=by
 unfold impl_ResourceInts.f
 rw [Option.bind_some,if_pos (by simp only [List.length_cons,List.length_nil]; omega)]
 rfl
theorem spec_DigestOf_ev (a0 : Int) (l : List Int) (a2 a3 a4 : Int) (hl : l.length≤1099511627776) : Ev (fun k => spec_DigestOf.f k a0 l a2 a3 a4) (hashOf (resInts a0 l a2 a3 a4)):=by
 unfold spec_DigestOf.f
 exact ev_bind0 (spec_ResourceInts_val a0 l a2 a3 a4 hl) (Ev.bind (spec_Hash_ev _ (by rw [resInts_len]; omega)) (Ev.now _))
theorem impl_DigestOf_ev (a0 : Int) (l : List Int) (a2 a3 a4 : Int) (hl : l.length≤1099511627776) : Ev (fun k => impl_DigestOf.f k a0 l a2 a3 a4) (hashOf (resInts a0 l a2 a3 a4)):=by
 unfold impl_DigestOf.f
 exact ev_bind0 (impl_ResourceInts_val a0 l a2 a3 a4 hl) (Ev.bind (impl_Hash_ev _ (by rw [resInts_len]; omega)) (Ev.now _))
theorem chainI (A : Nat→Option Bool) (B : Nat→Option Int) (C : Option Bool) (N : Nat→Option Bool) (f h : Int) (q u b : Bool) (hA : Ev A q) (hB : Ev B h) (hC : C=some u) (hN : Ev N b) : Ev (fun k => (A k).bind fun t => (if t=true then ((B k).bind fun t1 => (if t1=f then (C.bind fun t2 => (if t2=true then (N k) else (some false))) else (some false))) else (some false))) ((q && (decide (h=f) && u)) && b):=by
 cases q with
 | false => exact Ev.bind hA (ev_neg (by decide) (Ev.now _))
 | true =>
  refine Ev.bind hA (ev_pos rfl (Ev.bind hB ?_))
  by_cases e : h=f
  ·rw [decide_eq_true e]
   refine ev_pos e (ev_bind0 hC ?_)
   cases u with
   | false => exact ev_neg (by decide) (Ev.now _)
   | true => exact ev_pos rfl hN
  ·rw [decide_eq_false e]
   exact ev_neg e (Ev.now _)
theorem chainS (A : Nat→Option Bool) (B : Nat→Option Int) (C : Option Bool) (N : Nat→Option Bool) (f h : Int) (q u b : Bool) (hA : Ev A q) (hB : Ev B h) (hC : C=some u) (hN : Ev N b) : Ev (fun k => (A k).bind fun t => (if t=true then ((B k).bind fun t1 => (if f=t1 then (C.bind fun t2 => (if t2=true then (N k) else (some false))) else (some false))) else (some false))) ((q && (decide (h=f) && u)) && b):=by
 cases q with
 | false => exact Ev.bind hA (ev_neg (by decide) (Ev.now _))
 | true =>
  refine Ev.bind hA (ev_pos rfl (Ev.bind hB ?_))
  by_cases e : h=f
  ·rw [decide_eq_true e]
   refine ev_pos e.symm (ev_bind0 hC ?_)
   cases u with
   | false => exact ev_neg (by decide) (Ev.now _)
   | true => exact ev_pos rfl hN
  ·rw [decide_eq_false e]
   exact ev_neg (fun x => e x.symm) (Ev.now _)
def okPart (x : S94) : Bool:=isRes x.f1.f0 x.f1.f1 x.f1.f2.f0 x.f1.f2.f1 x.f1.f2.f2 && (decide (hashOf (resInts x.f1.f0 x.f1.f1 x.f1.f2.f0 x.f1.f2.f1 x.f1.f2.f2)=x.f0) && decide (1≤x.f2∧x.f2≤1000))
theorem okS (x : S94) (hn : (ls1Part x).length≤1048576) (N : Nat→Option Bool) (b : Bool) (hN : Ev N b) : Ev (fun k => (spec_IsResource.f k x.f1.f0 x.f1.f1 x.f1.f2.f0 x.f1.f2.f1 x.f1.f2.f2).bind fun t => (if t=true then ((spec_DigestOf.f k x.f1.f0 x.f1.f1 x.f1.f2.f0 x.f1.f2.f1 x.f1.f2.f2).bind fun t1 => (if x.f0=t1 then ((spec_l1In.f x.f2 1 1000).bind fun t2 => (if t2=true then (N k) else (some false))) else (some false))) else (some false))) (okPart x && b) :=
 chainS (fun k => spec_IsResource.f k x.f1.f0 x.f1.f1 x.f1.f2.f0 x.f1.f2.f1 x.f1.f2.f2) (fun k => spec_DigestOf.f k x.f1.f0 x.f1.f1 x.f1.f2.f0 x.f1.f2.f1 x.f1.f2.f2) (spec_l1In.f x.f2 1 1000) N x.f0 _ _ _ b (spec_IsResource_ev _ _ _ _ _ (by unfold ls1Part at hn; omega)) (spec_DigestOf_ev _ _ _ _ _ (by unfold ls1Part at hn; omega)) (l1In_val _ _ _) hN
theorem okI (x : S94) (hn : (ls1Part x).length≤1048576) (N : Nat→Option Bool) (b : Bool) (hN : Ev N b) : Ev (fun k => (impl_IsResource.f k x.f1.f0 x.f1.f1 x.f1.f2.f0 x.f1.f2.f1 x.f1.f2.f2).bind fun t => (if t=true then ((impl_DigestOf.f k x.f1.f0 x.f1.f1 x.f1.f2.f0 x.f1.f2.f1 x.f1.f2.f2).bind fun t1 => (if t1=x.f0 then ((impl_InRange.f x.f2 1 1000).bind fun t2 => (if t2=true then (N k) else (some false))) else (some false))) else (some false))) (okPart x && b) :=
 chainI (fun k => impl_IsResource.f k x.f1.f0 x.f1.f1 x.f1.f2.f0 x.f1.f2.f1 x.f1.f2.f2) (fun k => impl_DigestOf.f k x.f1.f0 x.f1.f1 x.f1.f2.f0 x.f1.f2.f1 x.f1.f2.f2) (impl_InRange.f x.f2 1 1000) N x.f0 _ _ _ b (impl_IsResource_ev _ _ _ _ _ (by unfold ls1Part at hn; omega)) (impl_DigestOf_ev _ _ _ _ _ (by unfold ls1Part at hn; omega)) (inRange_val _ _ _) hN
theorem store_l0 (xs : List S94) (hn : xs.length≤1048576) (hi : ∀ x ∈ xs,(ls1Part x).length≤1048576) : ∀ (d i : Nat),i+d=xs.length→∃ b : Bool,Ev (fun k => spec_IsStore.l0 k xs (i : Int)) (b && decide ((xs.length : Int)≤30))∧Ev (fun k => impl_IsStore.l0 k xs xs (xs.length : Int) (i : Int)) b:=by
 intro d
 induction d with
 | zero =>
  intro i hd
  exact ⟨true,Ev.step (fun _ => spec_IsStore.l0.eq_2 ..) (ev_neg (by omega) (Ev.now _)),Ev.step (fun _ => impl_IsStore.l0.eq_2 ..) (ev_neg (by omega) (Ev.now _))⟩
 | succ d ih =>
  intro i hd
  have hx : i < xs.length:=by omega
  have hl:=hi _ (List.getElem_mem hx)
  obtain ⟨b,s1,s2⟩:=ih (i+1) (by omega)
  have w1 : wrap64 ((i : Int)+1)=((i+1 : Nat) : Int):=by rw [w64 (by omega) (by omega)]; rfl
  by_cases h0 : i=0
  ·subst h0
   refine ⟨okPart xs[0] && b,?_,?_⟩
   ·refine Ev.step (fun _ => spec_IsStore.l0.eq_2 ..) (ev_pos (by omega) (ev_pos (by omega) ?_))
    rw [rd1Part xs 0 hx,w1,Bool.and_assoc]
    exact okS _ hl _ _ (ev_neg (by omega) s1)
   ·refine Ev.step (fun _ => impl_IsStore.l0.eq_2 ..) (ev_pos (by omega) (ev_pos (by omega) (ev_pos (by omega) (ev_neg (by omega) ?_))))
    rw [rd1Part xs 0 hx,w1]
    exact okI _ hl _ _ s2
  ·have hp : i - 1 < xs.length:=by omega
   have w0 : wrap64 ((i : Int) - 1)=((i - 1 : Nat) : Int):=by rw [w64 (by omega) (by omega)]; omega
   by_cases hs : (xs[i - 1]).f0 ≥ (xs[i]).f0
   ·refine ⟨false,?_,?_⟩
    ·refine Ev.step (fun _ => spec_IsStore.l0.eq_2 ..) (ev_pos (by omega) (ev_pos (by omega) ?_))
     rw [rd1Part xs i hx,w1,w0,rd1Part xs (i - 1) hp]
     have:=okS _ hl (fun k => if (i : Int) > 0 then (if 0≤(((i - 1 : Nat) : Int)) then (if (((i - 1 : Nat) : Int)) < (xs.length : Int) then (if (xs[i - 1]).f0 ≥ (xs[i]).f0 then (some false) else (spec_IsStore.l0 k xs ((i+1 : Nat) : Int))) else (none)) else (none)) else (spec_IsStore.l0 k xs ((i+1 : Nat) : Int))) false (ev_pos (by omega) (ev_pos (by omega) (ev_pos (by omega) (ev_pos hs (Ev.now _)))))
     rw [Bool.and_false] at this
     exact this
    ·refine Ev.step (fun _ => impl_IsStore.l0.eq_2 ..) (ev_pos (by omega) (ev_pos (by omega) (ev_pos (by omega) (ev_pos (by omega) ?_))))
     rw [rd1Part xs i hx,w0,rd1Part xs (i - 1) hp]
     exact ev_pos (by omega) (ev_pos (by omega) (ev_pos hs (Ev.now _)))
   ·refine ⟨okPart xs[i] && b,?_,?_⟩
    ·refine Ev.step (fun _ => spec_IsStore.l0.eq_2 ..) (ev_pos (by omega) (ev_pos (by omega) ?_))
     rw [rd1Part xs i hx,w1,w0,rd1Part xs (i - 1) hp,Bool.and_assoc]
     exact okS _ hl _ _ (ev_pos (by omega) (ev_pos (by omega) (ev_pos (by omega) (ev_neg hs s1))))
    ·refine Ev.step (fun _ => impl_IsStore.l0.eq_2 ..) (ev_pos (by omega) (ev_pos (by omega) (ev_pos (by omega) (ev_pos (by omega) ?_))))
     rw [rd1Part xs i hx,w0,w1,rd1Part xs (i - 1) hp]
     exact ev_pos (by omega) (ev_pos (by omega) (ev_neg hs (okI _ hl _ _ s2)))
theorem store_ev (xs : List S94) (hn : xs.length≤1048576) (hi : ∀ x ∈ xs,(ls1Part x).length≤1048576) : ∃ b : Bool,Ev (fun k => spec_IsStore.f k xs) b∧Ev (fun k => impl_IsStore.f k xs) b:=by
 unfold spec_IsStore.f impl_IsStore.f
 obtain ⟨b,s1,s2⟩:=store_l0 xs hn hi xs.length 0 (by omega)
 by_cases h : (xs.length : Int) > 30
 ·rw [decide_eq_false (show ¬ (xs.length : Int)≤30 by omega),Bool.and_false] at s1
  exact ⟨false,s1,ev_pos h (Ev.now _)⟩
 ·rw [decide_eq_true (show (xs.length : Int)≤30 by omega),Bool.and_true] at s1
  exact ⟨b,s1,ev_neg h s2⟩
theorem FnExactIsStore : ∀ (x0 : List (S92)),(x0.length≤9223372036854775807∧∀ y ∈ x0,g92 y)→∃ k,laws_FnExactIsStore.f k x0=some true:=by
 intro xs hgx
 have hi : ∀ x ∈ xs,(ls0Part x).length≤9223372036854775807:=fun x hx => (hgx.2 x hx).2.1.2.1.1
 refine Ev.rounds (g:=fun k => laws_FnExactIsStore.f k xs) ?_
 unfold laws_FnExactIsStore.f
 refine Ev.bind (szPartS_ev xs 1048576 (by omega) (by omega) hgx.1 hi) ?_
 by_cases hb : szR 1048576 (xs.length+sumLen ls0Part xs) < 0
 ·exact ev_pos hb (Ev.now true)
 have hle:=szR_le _ _ hb
 refine ev_neg hb ?_
 have hi2 : ∀ x ∈ xs,(ls0Part x).length≤1048576:=fun x hx => by have:=sumLen_mem ls0Part xs x hx; omega
 have tx:=toPartS_ev xs (by omega) (fun x hx => by have:=hi2 x hx; omega)
 have lx : (xs.map convPart).length=xs.length:=List.length_map ..
 have cx : ∀ x ∈ xs.map convPart,(ls1Part x).length≤1048576:=by
  intro x hx
  obtain ⟨y,hy',rfl⟩:=List.mem_map.1 hx
  exact hi2 y hy'
 obtain ⟨b,e1,e2⟩:=store_ev (xs.map convPart) (by omega) cx
 have qx:=eqPartS_same (xs.map convPart) (by omega) (fun x hx => by have:=cx x hx; omega)
 exact Ev.bind tx (Ev.bind e1 (Ev.bind tx (Ev.bind e2 (ev_neg (by simp) (Ev.bind tx (Ev.bind qx (ev_pos rfl (Ev.now true))))))))

end Go.Proofs.Ytgcidlnhgpjdpad.Pure
