/- Texts of this claim, put together: ChainW, LineW, CloneW, Waste, WasteW, DownW, NextW, NumW, PutW, Giv, Sx0, Sx1, Sx2. -/
import Derived.Test.YtbapmfghipcebaaGreatDoorB1
import Derived.Lib.TrailingZeros
import Derived.Laws.Bits64b
import Derived.Shelf.Spec.TrailingZeros
import Derived.Test.YtbapmfghipcebaaGreatDoorWWords
import Derived.Test.YtbapmfghipcebaaGreatDoorWLast
import Derived.Test.YtbapmfghipcebaaGreatDoorWMore
import Derived.Test.YtbapmfghipcebaaGreatDoorProg
import Derived.Below
import Derived.Deep.Draws
import Derived.Deep.AppendLies
import Derived.Maps.AppendAt
import Derived.OwnWalk
import Derived.Laws.BytesArg
import Derived.Laws.MakeOwn
import Derived.Laws.OwnMore
import Derived.Deep.OwnRows
import Derived.Tactics
import Derived.Lib.ConvBytes
import Derived.Laws.Slices
import Derived.WalkKit
import Derived.KernelRfl
import Derived.RowKit3
import Derived.Deep.LoopGhost
import Derived.Deep.QuietTactic
import Derived.BigQuiet
import Derived.WideLaws
import Derived.Deep.DeepCutAuto
import Derived.Deep.CutBlock
import Derived.Deep.RegionHeld3
import Derived.Laws.Rows
import Derived.Lib.AppendStr
import Derived.ArgAppend
import Derived.Laws.IdiomCopy
import Derived.OrdersHeld
import Derived.Laws.BitsLemmas
import Derived.RowKit
import Derived.Test.YtbapmfghipcebaaGreatDoorWTab
import Derived.Test.YtbapmfghipcebaaGreatDoorWFour
import Derived.Test.YtbapmfghipcebaaGreatDoorWQPut
import Derived.Test.YtbapmfghipcebaaGreatDoorWApart
import Derived.Test.YtbapmfghipcebaaGreatDoorWArr
import Derived.Test.YtbapmfghipcebaaGreatDoorWZeros
import Derived.Test.YtbapmfghipcebaaGreatDoorWFoot
import Derived.Test.YtbapmfghipcebaaGreatDoorWKept
import Derived.Test.YtbapmfghipcebaaGreatDoorWShare
import Derived.Test.YtbapmfghipcebaaGreatDoorWN
import Derived.Test.YtbapmfghipcebaaGreatDoorWFootNe
import Derived.Test.YtbapmfghipcebaaGreatDoorWAt
import Derived.Test.YtbapmfghipcebaaGreatDoorWEqStruct
import Derived.Test.YtbapmfghipcebaaGreatDoorWRepsOne
import Derived.Test.YtbapmfghipcebaaGreatDoorWInv
import Derived.Test.YtbapmfghipcebaaGreatDoorWInvWords
import Derived.Test.YtbapmfghipcebaaGreatDoorWGuard
import Derived.Test.YtbapmfghipcebaaGreatDoorWNEv
section
/- The walks of package chain. -/
set_option linter.unusedVariables false
set_option linter.unusedSimpArgs false
namespace Dsc
open Go Go.RowKit
open Go.Proofs

theorem sample_any (x : Int) (w : World) : Calls Tryz.prog 78 #[.int .i64 x] w fun e w' => e = .returned (.bool (decide (-131072 ≤ x) && decide (x ≤ 131072))) ∧ w = w' := by
  go_enter Tryz.func78, Tryz.ntmps78
  go_wp2
  all_goals go_ret
  · rename_i h
    exact ⟨by rw [decide_eq_true h]; simp, rfl⟩
  · rename_i h
    exact ⟨by rw [decide_eq_false (by omega)]; simp, rfl⟩
theorem sample_yes (x : Int) (w : World) (h : -131072 ≤ x ∧ x ≤ 131072) : Calls Tryz.prog 78 #[.int .i64 x] w fun e w' => e = .returned (.bool true) ∧ w = w' :=
  (sample_any x w).mono fun e w' k => by simpa [h.1, h.2] using k
theorem wpList_load_mid_g {P : Program} {ops : Array Oper} {rest : List Oper} {op : Oper} {a : Act} {w : World} {Q : Exit → Act → World → Prop} (hw : Region.wanted op (yielded ops a.tmps) = true) (ty : TypeId) (x : Operand) (ho : op.op = .load ty x)
    (b o : Nat) (hx : a.eval x = .pointer (some ⟨b, o, none⟩)) (C : Array Value) (d : TypeDesc) (hc : w.rangeAt b o C.toList)
    (hu : P.underlying ty = some d) (hd : d.isRow = true) (hi : (P.info? ty).map (·.size) = some C.size)
    (h : wpList P ops Q rest (a.put op.dst (.agg C)) w) : wpList P ops Q (op :: rest) a w := by
  unfold wpList
  rw [if_pos hw]
  refine .inl (wp_load_mid ty x ho b o hx C.toList d hc hu hd (by simpa using hi) ?_)
  simpa using h
/-- A chain's cells. -/
def chL (x : Int) (A B : Array Value) : List Value := [.int .i64 x] ++ (A.toList ++ B.toList)
def Chain.cells (c : Chain) : Array Value := (chL c.last c.a.cells c.b.cells).toArray
section
variable {w : World} {g : Nat} {t : TypeId} {x : Int} {A B : Array Value}
theorem chL_a (h : Blk w g t (chL x A B).toArray) : w.rangeAt g 1 A.toList := Blk.rangeMid (us := [.int .i64 x]) h
theorem chL_b (h : Blk w g t (chL x A B).toArray) (hA : A.size = 16) : w.rangeAt g 17 B.toList := by
  have := Blk.rangeMid (us := .int .i64 x :: A.toList) (ms := B.toList) (zs := []) (w := w) (g := g) (t := t) (by simpa [chL] using h)
  simpa [hA] using this
theorem chL_size (hA : A.size = 16) (hB : B.size = 16) : (chL x A B).toArray.size = 33 := by simp [chL, hA, hB]
end
set_option maxRecDepth 10000 in
theorem mayH_any (x : Int) (A B : Array Value) (w : World) (hx : -131072 ≤ x ∧ x ≤ 131072) (sA : A.size = 16) (sB : B.size = 16)
    (hA : ∀ W, Calls Tryz.prog 114 #[.agg A] W fun e w' => e = .returned (.bool true) ∧ W.alloc (.cells A 119) = w')
    (hB : ∀ W, Calls Tryz.prog 114 #[.agg B] W fun e w' => e = .returned (.bool true) ∧ W.alloc (.cells B 119) = w') :
    Calls Tryz.prog 98 #[.agg (chL x A B).toArray] w fun e w' => e = .returned (.bool true) ∧ Below w.heap.size w w' := by
  have K := Lib.hid (Blk.new w 121 (chL x A B).toArray)
  have HA := Lib.hid hA
  have HB := Lib.hid hB
  obtain ⟨C, hC⟩ : ∃ C, (chL x A B).toArray = C := ⟨_, rfl⟩
  have cx : (w.alloc (.cells C 121)).cell? ⟨w.heap.size, 0, none⟩ = some (.int .i64 x) := by rw [← hC]; exact K.out.cell 0
  have ra := Lib.hid (chL_a K.out)
  have rb := Lib.hid (chL_b K.out sA)
  rw [hC] at ra rb ⊢
  clear hA hB hC K
  go_enter Tryz.func98, Tryz.ntmps98
  go_wp2_with (first | (refine wpList_load_mid_g (by rfl) 119 (.tmp 7) rfl w.heap.size 1 rfl A _ ra.out Tryz.underlying119 rfl (by rw [sA]; kernel_rfl) ?_) | (go_at_call 78; refine (sample_yes x _ hx).mono ?_; rintro e w' ⟨rfl, rfl⟩) | (go_at_call_of 114 A; refine (HA.out _).mono ?_; rintro e w' ⟨rfl, rfl⟩) | (refine wpList_load_mid_g (by rfl) 119 (.tmp 12) rfl w.heap.size 17 rfl B _ (fun j v hv => cell_later ((Below.refl _ _).alloc (Nat.le_refl _) _) (rb.out j v hv)) Tryz.underlying119 rfl (by rw [sB]; kernel_rfl) ?_) | (go_at_call_of 114 B; refine (HB.out _).mono ?_; rintro e w' ⟨rfl, rfl⟩))
  go_ret
  exact ⟨rfl, by go_grown⟩
set_option maxRecDepth 10000 in
theorem guessH_any (x : Int) (A B : Array Value) (qa qb : Int) (w : World) (hx : -131072 ≤ x ∧ x ≤ 131072) (sA : A.size = 16) (sB : B.size = 16) (ba : -1048576 ≤ qa ∧ qa ≤ 1048576) (bb : -1048576 ≤ qb ∧ qb ≤ 1048576)
    (hA : ∀ W, Calls Tryz.prog 114 #[.agg A] W fun e w' => e = .returned (.bool true) ∧ W.alloc (.cells A 119) = w')
    (hB : ∀ W, Calls Tryz.prog 114 #[.agg B] W fun e w' => e = .returned (.bool true) ∧ W.alloc (.cells B 119) = w')
    (gA : ∀ W, Calls Tryz.prog 99 #[.agg A] W fun e w' => e = .returned (.tuple #[.int .i64 qa, .int .i64 0]) ∧ Below W.heap.size W w')
    (gB : ∀ W, Calls Tryz.prog 99 #[.agg B] W fun e w' => e = .returned (.tuple #[.int .i64 qb, .int .i64 0]) ∧ Below W.heap.size W w') :
    Calls Tryz.prog 80 #[.agg (chL x A B).toArray] w fun e w' => e = .returned (.tuple #[.int .i64 (x + qa + qb), .int .i64 0]) ∧ Below w.heap.size w w' := by
  have HM := Lib.hid (fun W => mayH_any x A B W hx sA sB hA hB)
  have K := Lib.hid (Blk.new w 121 (chL x A B).toArray)
  have sC := chL_size (x := x) sA sB
  have GA := Lib.hid gA
  have GB := Lib.hid gB
  clear hA hB gA gB
  obtain ⟨C, hC⟩ : ∃ C, (chL x A B).toArray = C := ⟨_, rfl⟩
  have hC' := Lib.hid hC
  rw [hC] at HM K sC ⊢
  clear hC
  go_enter Tryz.func80, Tryz.ntmps80
  go_wp2_with (first | (refine wpList_load_row rfl 121 (.tmp 1) rfl w.heap.size rfl 121 C (0, 0) _ K.out Tryz.underlying121 rfl (by rw [sC]; kernel_rfl) ?_))
  refine (HM.out _).mono ?_
  rintro e w1 ⟨rfl, hb1⟩
  have K1 := Lib.hid (K.out.kept hb1)
  have B1 := Lib.hid (below_then (B := w.heap.size) (w := w) (by go_grown) (by first | (simp; done) | (simp; omega)) hb1)
  clear hb1
  go_wp2_with (refine wpList_load_mid_g (by rfl) 119 (.tmp 12) rfl w.heap.size 1 rfl A _ (chL_a (x := x) (B := B) (hC'.out ▸ K1.out)) Tryz.underlying119 rfl (by rw [sA]; kernel_rfl) ?_)
  refine (GA.out _).mono ?_
  rintro e w2 ⟨rfl, hb2⟩
  have K2 := Lib.hid (K1.out.kept hb2)
  have B2 := Lib.hid (below_then B1.out B1.out.size hb2)
  clear hb2
  go_wp2_with (refine wpList_load_mid_g (by rfl) 119 (.tmp 18) rfl w.heap.size 17 rfl B _ (chL_b (x := x) (A := A) (hC'.out ▸ K2.out) sA) Tryz.underlying119 rfl (by rw [sB]; kernel_rfl) ?_)
  refine (GB.out _).mono ?_
  rintro e w3 ⟨rfl, hb3⟩
  have K3 := K2.out.kept hb3
  have cx : w3.cell? ⟨w.heap.size, 0, none⟩ = some (.int .i64 x) := by rw [K3.cell, ← hC'.out]; rfl
  have B3 := Lib.hid (below_then B2.out B2.out.size hb3)
  clear hb3 K3
  go_wp2
  go_ret2
  exact ⟨rfl, B3.out⟩
section
variable {w : World} {g : Nat} {t : TypeId} {x y : Int} {A B A' B' : Array Value}
theorem chL_setB (h : Blk w g t (chL x A B).toArray) (hA : A.size = 16) (hB : B.size = 16) (hB' : B'.size = 16) : Blk (w.setCells g 17 B'.toList) g t (chL x A B').toArray := by
  have := Blk.setMid (us := .int .i64 x :: A.toList) (ms := B.toList) (ms' := B'.toList) (zs := []) (w := w) (g := g) (t := t) (by simpa [chL] using h) (by simp [hB, hB'])
  simpa [chL, hA] using this
theorem chL_setA (h : Blk w g t (chL x A B).toArray) (hA : A.size = 16) (hA' : A'.size = 16) : Blk (w.setCells g 1 A'.toList) g t (chL x A' B).toArray :=
  Blk.setMid (us := [.int .i64 x]) (ms := A.toList) (ms' := A'.toList) (zs := B.toList) (w := w) (g := g) (t := t) h (by simp [hA, hA'])
theorem chL_setX (h : Blk w g t (chL x A B).toArray) : Blk (w.setCell ⟨g, 0, none⟩ (.int .i64 y)) g t (chL y A B).toArray :=
  Blk.setMid (us := []) (ms := [.int .i64 x]) (ms' := [.int .i64 y]) (zs := A.toList ++ B.toList) (w := w) (g := g) (t := t) h rfl
theorem chL_thereB (h : Blk w g t (chL x A B).toArray) (hA : A.size = 16) (hB : B.size = 16) : w.there g 17 16 := by
  have := Blk.thereMid (us := .int .i64 x :: A.toList) (ms := B.toList) (zs := []) (w := w) (g := g) (t := t) (by simpa [chL] using h)
  simpa [hA, hB] using this
theorem chL_thereA (h : Blk w g t (chL x A B).toArray) (hA : A.size = 16) : w.there g 1 16 := by
  have := Blk.thereMid (us := [.int .i64 x]) (ms := A.toList) (zs := B.toList) (w := w) (g := g) (t := t) h
  simpa [hA] using this
end
set_option maxRecDepth 10000 in
set_option maxHeartbeats 1000000 in
theorem learnH_any (x y : Int) (A B A' B' : Array Value) (qa : Int) (w : World) (hx : -131072 ≤ x ∧ x ≤ 131072) (hy : -131072 ≤ y ∧ y ≤ 131072) (sA : A.size = 16) (sB : B.size = 16) (sA' : A'.size = 16) (sB' : B'.size = 16)
    (oA : A'.all (·.oneCell') = true) (oB : B'.all (·.oneCell') = true) (ba : -1048576 ≤ qa ∧ qa ≤ 1048576)
    (hA : ∀ W, Calls Tryz.prog 114 #[.agg A] W fun e w' => e = .returned (.bool true) ∧ W.alloc (.cells A 119) = w')
    (hB : ∀ W, Calls Tryz.prog 114 #[.agg B] W fun e w' => e = .returned (.bool true) ∧ W.alloc (.cells B 119) = w')
    (gA : ∀ W, Calls Tryz.prog 99 #[.agg A] W fun e w' => e = .returned (.tuple #[.int .i64 qa, .int .i64 0]) ∧ Below W.heap.size W w')
    (lA : ∀ W, Calls Tryz.prog 100 #[.agg A, .int .i64 (y - x)] W fun e w' => e = .returned (.tuple #[.agg A', .int .i64 0]) ∧ Below W.heap.size W w')
    (lB : ∀ W, Calls Tryz.prog 100 #[.agg B, .int .i64 (y - x - qa)] W fun e w' => e = .returned (.tuple #[.agg B', .int .i64 0]) ∧ Below W.heap.size W w')
    (oC : (chL y A' B').toArray.all (·.oneCell') = true) :
    Calls Tryz.prog 81 #[.agg (chL x A B).toArray, .int .i64 y] w fun e w' => e = .returned (.tuple #[.agg (chL y A' B').toArray, .int .i64 0]) ∧ Below w.heap.size w w' := by
  have HM := Lib.hid (fun W => mayH_any x A B W hx sA sB hA hB)
  have K := Lib.hid (Blk.new w 121 (chL x A B).toArray)
  have sC := chL_size (x := x) sA sB
  have sC' := chL_size (x := y) sA' sB'
  have GA := Lib.hid gA
  have LA := Lib.hid lA
  have LB := Lib.hid lB
  have OA := Lib.hid oA
  have OB := Lib.hid oB
  have OC := Lib.hid oC
  clear hA hB gA lA lB oA oB oC
  obtain ⟨C, hC⟩ : ∃ C, (chL x A B).toArray = C := ⟨_, rfl⟩
  obtain ⟨C', hCn⟩ : ∃ C', (chL y A' B').toArray = C' := ⟨_, rfl⟩
  have hC' := Lib.hid hC
  have hCn' := Lib.hid hCn
  rw [hC] at HM K sC ⊢
  rw [hCn] at OC sC' ⊢
  clear hC hCn
  go_enter Tryz.func81, Tryz.ntmps81
  go_wp2_with (first | (refine wpList_load_row rfl 121 (.tmp 2) rfl w.heap.size rfl 121 C (0, 0) _ (K.out.alloc _) Tryz.underlying121 rfl (by rw [sC]; kernel_rfl) ?_))
  refine (HM.out _).mono ?_
  rintro e w1 ⟨rfl, hb1⟩
  have K1 := (K.out.alloc _).kept hb1
  have Z1 := Lib.hid ((Blk.new1 w (.cells C 121) 121 #[.int .i64 0, .int .i64 0, .int .i64 0, .int .i64 0, .int .i64 0, .int .i64 0, .int .i64 0, .int .i64 0, .int .i64 0, .int .i64 0, .int .i64 0, .int .i64 0, .int .i64 0, .int .i64 0, .int .i64 0, .int .i64 0, .int .i64 0, .int .i64 0, .int .i64 0, .int .i64 0, .int .i64 0, .int .i64 0, .int .i64 0, .int .i64 0, .int .i64 0, .int .i64 0, .int .i64 0, .int .i64 0, .int .i64 0, .int .i64 0, .int .i64 0, .int .i64 0, .int .i64 0]).kept hb1)
  have B1 := Lib.hid (below_then (B := w.heap.size) (w := w) (by go_grown) (by first | (simp; done) | (simp; omega)) hb1)
  have cx : w1.cell? ⟨w.heap.size, 0, none⟩ = some (.int .i64 x) := by rw [K1.cell, ← hC'.out]; rfl
  have K1' := Lib.hid K1
  clear hb1 K1
  go_wp2_with (first | (go_at_call 78; refine (sample_yes y _ hy).mono ?_; rintro e w' ⟨rfl, rfl⟩) | (refine wpList_load_mid_g (by rfl) 119 (.tmp 23) rfl w.heap.size 1 rfl A _ (chL_a (x := x) (B := B) (hC'.out ▸ K1'.out)) Tryz.underlying119 rfl (by rw [sA]; kernel_rfl) ?_))
  clear cx
  refine (GA.out _).mono ?_
  rintro e w2 ⟨rfl, hb2⟩
  have K2 := Lib.hid (K1'.out.kept hb2)
  have Z2 := Lib.hid (Z1.out.kept hb2)
  have B2 := Lib.hid (below_then B1.out B1.out.size hb2)
  clear hb2
  go_wp2_with (refine wpList_load_mid_g (by rfl) 119 (.tmp 29) rfl w.heap.size 17 rfl B _ (chL_b (x := x) (A := A) (hC'.out ▸ K2.out) sA) Tryz.underlying119 rfl (by rw [sB]; kernel_rfl) ?_)
  refine (LB.out _).mono ?_
  rintro e w3 ⟨rfl, hb3⟩
  have K3 := Lib.hid (K2.out.kept hb3)
  have Z3 := Lib.hid (Z2.out.kept hb3)
  have B3 := Lib.hid (below_then B2.out B2.out.size hb3)
  clear hb3
  have K4 := Lib.hid (chL_setB (B' := B') (hC'.out ▸ K3.out) sA sB sB')
  have Z4 := Lib.hid (Blk.farCells (b := w.heap.size) (by omega) B'.toList 17 _ Z3.out)
  have B4 := Lib.hid (below_setCells (g := w.heap.size) (Nat.le_refl _) B'.toList 17 _ B3.out)
  obtain ⟨w4, hw4⟩ : ∃ w4, w4 = w3.setCells w.heap.size 17 B'.toList := ⟨_, rfl⟩
  rw [← hw4] at K4 Z4 B4
  have Hw4 := Lib.hid hw4
  clear hw4
  go_wp2_with (first | (refine wpList_store_mid rfl 119 (.tmp 37) (.tmp 35) rfl w.heap.size 17 B' rfl rfl (by rw [sB']; exact chL_thereB (hC'.out ▸ K3.out) sA sB) (by rw [sB']; kernel_rfl) OB.out ?_; rw [← Hw4.out]) | (refine wpList_load_mid_g (by rfl) 119 (.tmp 39) rfl w.heap.size 1 rfl A _ (chL_a (x := x) (B := B') K4.out) Tryz.underlying119 rfl (by rw [sA]; kernel_rfl) ?_))
  refine (LA.out _).mono ?_
  rintro e w5 ⟨rfl, hb5⟩
  have K5 := Lib.hid (K4.out.kept hb5)
  have Z5 := Lib.hid (Z4.out.kept hb5)
  have B5 := Lib.hid (below_then B4.out B4.out.size hb5)
  clear hb5
  have K6 := Lib.hid (chL_setA (A' := A') K5.out sA sA')
  have Z6 := Lib.hid (Blk.farCells (b := w.heap.size) (by omega) A'.toList 1 _ Z5.out)
  have B6 := Lib.hid (below_setCells (g := w.heap.size) (Nat.le_refl _) A'.toList 1 _ B5.out)
  obtain ⟨w6, hw6⟩ : ∃ w6, w6 = w5.setCells w.heap.size 1 A'.toList := ⟨_, rfl⟩
  rw [← hw6] at K6 Z6 B6
  have Hw6 := Lib.hid hw6
  have c6 : w6.cell? ⟨w.heap.size, 0, none⟩ = some (.int .i64 x) := by rw [K6.out.cell]; rfl
  have f6 := K6.out.frozen 0
  have l6 := K6.out.lt
  have K7 := Lib.hid (chL_setX (y := y) K6.out)
  have Z7 := Lib.hid (Z6.out.far (p := ⟨w.heap.size, 0, none⟩) (by show w.heap.size + 1 ≠ w.heap.size; omega) (.int .i64 y))
  have B7 := Lib.hid (B6.out.setCell (p := ⟨w.heap.size, 0, none⟩) (Nat.le_refl _) (.int .i64 y))
  rw [hCn'.out] at K7
  have TZ := Lib.hid Z7.out.there
  clear hw6
  go_wp2_with (first | (refine wpList_store_mid rfl 119 (.tmp 45) (.tmp 43) rfl w.heap.size 1 A' rfl rfl (by rw [sA']; exact chL_thereA K5.out sA) (by rw [sA']; kernel_rfl) OA.out ?_; rw [← Hw6.out]) | (refine wpList_load_row rfl 121 (.tmp 2) rfl w.heap.size rfl 121 C' (0, 0) _ K7.out Tryz.underlying121 rfl (by rw [sC']; kernel_rfl) ?_) | (refine wpList_store_mid rfl 121 (.tmp 4) (.tmp 48) rfl (w.heap.size + 1) 0 C' rfl rfl (by rw [sC']; exact TZ.out) (by rw [sC']; kernel_rfl) OC.out ?_))
  have KF := Z7.out.setAll C'.toList (by rw [Array.length_toList, sC']; rfl)
  simp only [Array.toArray_toList] at KF
  refine bodyPost_ret (res_cell_tmp (by rfl) _ _ _ 121 C' _ (by rfl) KF Tryz.underlying121 rfl (by rw [sC']; kernel_rfl)) rfl ⟨?_, below_setCells (by omega) _ _ _ B7.out⟩
  rfl
/-! The same in the chain's own words. -/
theorem lcells_one (l : Lms) : l.cells.all (·.oneCell') = true := by rw [Lms.cells, iv, iv, ← List.map_append]; exact ones_all_cells _ _
theorem ccells_one (c : Chain) : c.cells.all (·.oneCell') = true := by
  have e : c.cells = (([c.last] ++ (c.a.ws ++ c.a.hs ++ (c.b.ws ++ c.b.hs))).map (Value.int .i64)).toArray := by simp [Chain.cells, chL, Lms.cells, iv]
  rw [e]; exact ones_all_cells _ _
theorem guessC_any (c : Chain) (w : World) (h : c.Ok) : Calls Tryz.prog 80 #[.agg c.cells] w fun e w' => e = .returned (.tuple #[.int .i64 c.guess, .int .i64 0]) ∧ Below w.heap.size w w' :=
  guessH_any c.last c.a.cells c.b.cells c.a.guess c.b.guess w h.last (Lms.cells_size h.a) (Lms.cells_size h.b) (guess_bd _) (guess_bd _) (fun W => mayL_any c.a W h.a) (fun W => mayL_any c.b W h.b) (fun W => guessL_any c.a W h.a) (fun W => guessL_any c.b W h.b)
theorem learnC_any (c : Chain) (y : Int) (w : World) (h : c.Ok) (hy : -131072 ≤ y ∧ y ≤ 131072) : Calls Tryz.prog 81 #[.agg c.cells, .int .i64 y] w fun e w' => e = .returned (.tuple #[.agg (c.learn y).cells, .int .i64 0]) ∧ Below w.heap.size w w' := by
  have ok := Chain.learn_ok h hy
  have g := guess_bd c.a
  have hl := h.last
  exact learnH_any c.last y c.a.cells c.b.cells (c.learn y).a.cells (c.learn y).b.cells c.a.guess w h.last hy (Lms.cells_size h.a) (Lms.cells_size h.b) (Lms.cells_size ok.a) (Lms.cells_size ok.b) (lcells_one _) (lcells_one _) (guess_bd _) (fun W => mayL_any c.a W h.a) (fun W => mayL_any c.b W h.b) (fun W => guessL_any c.a W h.a)
    (fun W => learnL_any c.a _ W h.a (by omega) (by omega)) (fun W => learnL_any c.b _ W h.b (by omega) (by omega)) (ccells_one (c.learn y))
end Dsc
end
section
/- The walks of package line: Put. -/
set_option linter.unusedVariables false
set_option linter.unusedSimpArgs false
namespace Dsc
open Go Go.RowKit
open Go.Proofs

/-- append(v, y) as one operation of a region that draws its order. -/
theorem wpOp_appInt {ops : Array Oper} {o : Oper} {a : Act} {Q : Exit → Act → World → Prop} {K : Act → World → Prop} {k : Nat} {W : World} (base : Nat) (hk : ops[k]? = some o) (hgd : o.guard = none) (s x : Operand)
    (ho : o.op = .call { callee := .builtin .append, args := #[s, x], argTypes := #[39, 39] })
    (v : Value) (xs : List Int) (y : Int) (hs : a.eval s = v) (hx : a.eval x = .slice (some ⟨W.heap.size, 0, none⟩) 1 1)
    (HO : OI W base v xs) (hbase : base ≤ W.heap.size) (hl : xs.length + 1 ≤ 17592186044416)
    (h : ∀ v1 w1, OI w1 base v1 (xs ++ [y]) → W.grownBy w1 v.ownBlock → Below base W w1 → K (a.put o.dst v1) w1) :
    wpOp Tryz.prog ops Q k K a (W.alloc (.cells #[.int .i64 y] 3)) := by
  obtain ⟨i0, hi, hzz⟩ := Option.map_eq_some_iff.1 info_int
  simp only [Prod.mk.injEq] at hzz
  obtain ⟨hz0, hz1, hz2⟩ := hzz
  have hw : Region.wanted o (yielded ops a.tmps) = true := by simp [Region.wanted, hgd]
  unfold wpOp
  rw [hk]
  simp only [hw, if_true]
  refine .inl ?_
  obtain ⟨v', w', hr, h2, h3, h4, h5⟩ := run_append_own_at (P := Tryz.prog) (W.alloc (.cells #[.int .i64 y] 3)) base 39 o.type 3 i0 (.int .i64 0) 1 8 Tryz.underlying39 hi hz0 hz1 hz2 rfl (by omega) v xs.length (iv xs) (World.ownsRow.alloc HO _) ⟨W.heap.size, 0, none⟩ 1 1 [.int .i64 y] rfl
    (World.news_of_block (cs := #[.int .i64 y]) (t := 3) (fr := (0, 0)) (heap_alloc_new W _)) (by simp [Value.oneCell']) (by unfold maxLen; omega) (by omega) (by simp; omega)
  unfold Oper.wp execOp
  simp only [ho, resolve, invoke, builtin, Sem.run_bind, Sem.run_pure, Result.andThen_ok, List.map_toArray, List.map_cons, List.map_nil, hs, hx, hr]
  have hg' : W.grownBy w' v.ownBlock := World.grownBy.trans (World.grownBy_alloc W _ _) h3
  refine h v' w' (by unfold OI; simpa [iv] using h2) hg' ?_
  exact ⟨hg'.os, hg'.tape, hg'.output, hg'.size, fun k hk => hg'.block k (by omega) (fun e => by have := HO.own_base k e.symm; omega)⟩
theorem Blk.rangeArr {w : World} {g : Nat} {t : TypeId} {C : Array Value} (h : Blk w g t C) : w.rangeAt g 0 C.toList := fun j v hv => by
  rw [Nat.zero_add, h.cell, ← Array.getElem?_toList, hv]
theorem putL1_any (x q : Int) (w : World) (hx : -131072 ≤ x ∧ x ≤ 131072) (hq : -2228224 ≤ q ∧ q ≤ 2228224) : Calls Tryz.prog 60 #[.int .i64 x, .int .i64 q] w fun e w' => e = .returned (.tuple #[.int .i64 (x - q), .int .i64 x]) ∧ w = w' := by
  go_enter Tryz.func60, Tryz.ntmps60
  go_wp2
  go_ret2
  exact ⟨rfl, rfl⟩
theorem foldNum_any (x : Int) (w : World) (hx : -131072 ≤ x ∧ x ≤ 131072) : Calls Tryz.prog 82 #[.int .i64 x] w fun e w' => e = .returned (.bool true) ∧ w = w' := by
  go_enter Tryz.func82, Tryz.ntmps82
  go_wp2
  all_goals go_ret
  all_goals first | exact ⟨rfl, rfl⟩ | (refine ⟨?_, rfl⟩; simp; omega)
set_option maxRecDepth 10000 in
set_option maxHeartbeats 1000000 in
theorem turnP_any (A : Option Addr) (ca : Nat) (xs : List Int) (w : World) (hR : RI w A xs) (hl : xs.length ≤ 128) (hx : ∀ x ∈ xs, -131072 ≤ x ∧ x ≤ 131072) :
    Calls Tryz.prog 59 #[.slice A xs.length ca, .func (.func 60) #[] #[]] w fun e w' => ∃ v rs, e = .returned (.tuple #[v, .int .i64 0]) ∧ lput zeroC xs = some rs ∧ OI w' w.heap.size v rs ∧ Below w.heap.size w w' := by
  obtain ⟨fin, hfin⟩ : ∃ fin, lput zeroC xs = fin := ⟨_, rfl⟩
  rw [hfin]
  have Hfin := Lib.hid hfin
  have HR := Lib.hid hR
  have Hx := Lib.hid hx
  clear hfin hR hx
  go_enter Tryz.func59, Tryz.ntmps59
  go_wp2_with fail
  have zc : zeroC.cells = #[.int .i64 0, .int .i64 0, .int .i64 0, .int .i64 0, .int .i64 0, .int .i64 0, .int .i64 0, .int .i64 0, .int .i64 0, .int .i64 0, .int .i64 0, .int .i64 0, .int .i64 0, .int .i64 0, .int .i64 0, .int .i64 0, .int .i64 0, .int .i64 0, .int .i64 0, .int .i64 0, .int .i64 0, .int .i64 0, .int .i64 0, .int .i64 0, .int .i64 0, .int .i64 0, .int .i64 0, .int .i64 0, .int .i64 0, .int .i64 0, .int .i64 0, .int .i64 0, .int .i64 0] := by kernel_rfl
  have B0 := Lib.hid (show Blk (w.alloc (.cells #[.int .i64 0, .int .i64 0, .int .i64 0, .int .i64 0, .int .i64 0, .int .i64 0, .int .i64 0, .int .i64 0, .int .i64 0, .int .i64 0, .int .i64 0, .int .i64 0, .int .i64 0, .int .i64 0, .int .i64 0, .int .i64 0, .int .i64 0, .int .i64 0, .int .i64 0, .int .i64 0, .int .i64 0, .int .i64 0, .int .i64 0, .int .i64 0, .int .i64 0, .int .i64 0, .int .i64 0, .int .i64 0, .int .i64 0, .int .i64 0, .int .i64 0, .int .i64 0, .int .i64 0] 121)) w.heap.size 121 zeroC.cells by rw [zc]; exact Blk.new _ _ _)
  clear zc
  go_loopg [7, 21] xs.length (fun k a b wr => ∃ (j : Nat) (c : Chain) (ys : List Int), j ≤ xs.length ∧ k = xs.length - j ∧ b = .int .i64 j ∧ c.Ok ∧ ys.length = j ∧ fin = (lput c (xs.drop j)).map (ys ++ ·) ∧ OI wr (w.heap.size + 1) a ys ∧ Blk wr w.heap.size 121 c.cells ∧ Below w.heap.size w wr)
  case atStart => exact ⟨0, zeroC, [], by omega, by omega, rfl, zeroC_ok, rfl, by rw [List.drop_zero, Hfin.out]; simp, OI.nil _ _, B0.out, by go_grown⟩
  case round =>
    obtain ⟨j, c, ys, hj, hk, rfl, hc, hys, hf, hO, hB, hb⟩ := hrel
    have hk' := Lib.hid hk
    have hc' := Lib.hid hc
    have hf' := Lib.hid hf
    have hO' := Lib.hid hO
    have hB' := Lib.hid hB
    have hb' := Lib.hid hb
    have hy' := Lib.hid hys
    clear hk hc hf hO hB hb hys
    by_cases hlt : j < xs.length
    · have q0 : (0 : Int) ≤ j := by omega
      have q1 : (j : Int) < xs.length := by omega
      obtain ⟨ad, hA, hcell⟩ := (HR.out.kept hb'.out).at_ hlt
      obtain ⟨x, hx⟩ : ∃ x, xs.getD j 0 = x := ⟨_, rfl⟩
      rw [hx] at hcell
      have bx : -131072 ≤ x ∧ x ≤ 131072 := Hx.out x (hx ▸ getD_mem hlt)
      have gb := Chain.guess_bd hc'.out
      have sz : c.cells.size = 33 := chL_size (Lms.cells_size hc'.out.a) (Lms.cells_size hc'.out.b)
      obtain ⟨C, hC⟩ : ∃ C, c.cells = C := ⟨_, rfl⟩
      obtain ⟨C', hCn⟩ : ∃ C', (c.learn x).cells = C' := ⟨_, rfl⟩
      have sz' : C'.size = 33 := by rw [← hCn]; exact chL_size (Lms.cells_size (Chain.learn_ok hc'.out bx).a) (Lms.cells_size (Chain.learn_ok hc'.out bx).b)
      have one' : C'.all (·.oneCell') = true := hCn ▸ ccells_one _
      have HG := Lib.hid (fun W => hC ▸ guessC_any c W hc'.out)
      have HL := Lib.hid (fun W => hCn ▸ hC ▸ learnC_any c x W hc'.out bx)
      obtain ⟨q, hq⟩ : ∃ q, c.guess = q := ⟨_, rfl⟩
      rw [hq] at HG gb
      have hq' := Lib.hid hq
      have hx' := Lib.hid hx
      have hCn' := Lib.hid hCn
      have O1 := Lib.hid one'
      rw [hC] at hB' sz
      clear hx hq hCn hC one'
      subst hA
      go_wp2_with (first | (refine wpList_load_row rfl 121 (.tmp 6) rfl w.heap.size rfl 121 C (0, 0) _ hB'.out Tryz.underlying121 rfl (by rw [sz]; kernel_rfl) ?_))
      refine (HG.out _).mono ?_
      rintro e w1 ⟨rfl, hb1⟩
      have K1 := Lib.hid (hB'.out.kept hb1)
      have P1 := Lib.hid (hO'.out.kept hb1)
      have B1 := Lib.hid (below_then hb'.out hb'.out.size hb1)
      clear hb1 hcell
      go_wp2_with (first | (go_at_call 60; refine (putL1_any x q _ bx gb).mono ?_; rintro e w' ⟨rfl, rfl⟩) | (refine wpList_load_row rfl 121 (.tmp 6) rfl w.heap.size rfl 121 C (0, 0) _ K1.out Tryz.underlying121 rfl (by rw [sz]; kernel_rfl) ?_))
      refine (HL.out _).mono ?_
      rintro e w2 ⟨rfl, hb2⟩
      have K2 := Lib.hid (K1.out.kept hb2)
      have P2 := Lib.hid (P1.out.kept hb2)
      have B2 := Lib.hid (below_then B1.out B1.out.size hb2)
      clear hb2
      obtain ⟨w3, hw3⟩ : ∃ w3, w3 = (w2.alloc (.cells #[.int .i64 0, .int .i64 0, .int .i64 0, .int .i64 0, .int .i64 0, .int .i64 0, .int .i64 0, .int .i64 0, .int .i64 0, .int .i64 0, .int .i64 0, .int .i64 0, .int .i64 0, .int .i64 0, .int .i64 0, .int .i64 0, .int .i64 0, .int .i64 0, .int .i64 0, .int .i64 0, .int .i64 0, .int .i64 0, .int .i64 0, .int .i64 0, .int .i64 0, .int .i64 0, .int .i64 0, .int .i64 0, .int .i64 0, .int .i64 0, .int .i64 0, .int .i64 0, .int .i64 0] 121)).setCells w2.heap.size 0 C'.toList := ⟨_, rfl⟩
      have hb3 : Below w2.heap.size w2 w3 := by rw [hw3]; exact below_setCells (g := w2.heap.size) (Nat.le_refl _) _ _ _ ((Below.refl _ _).alloc (Nat.le_refl _) _)
      have N3 := Lib.hid (show Blk w3 w2.heap.size 121 C' by
        have := (Blk.new w2 121 #[.int .i64 0, .int .i64 0, .int .i64 0, .int .i64 0, .int .i64 0, .int .i64 0, .int .i64 0, .int .i64 0, .int .i64 0, .int .i64 0, .int .i64 0, .int .i64 0, .int .i64 0, .int .i64 0, .int .i64 0, .int .i64 0, .int .i64 0, .int .i64 0, .int .i64 0, .int .i64 0, .int .i64 0, .int .i64 0, .int .i64 0, .int .i64 0, .int .i64 0, .int .i64 0, .int .i64 0, .int .i64 0, .int .i64 0, .int .i64 0, .int .i64 0, .int .i64 0, .int .i64 0]).setAll C'.toList (by rw [Array.length_toList, sz']; rfl)
        rw [hw3]; simpa using this)
      have K3 := Lib.hid (K2.out.kept hb3)
      have P3 := Lib.hid (P2.out.kept hb3)
      have B3 := Lib.hid (below_then B2.out B2.out.size hb3)
      have g3 : w.heap.size < w2.heap.size := K2.out.lt
      have Hw3 := Lib.hid hw3
      clear hw3 hb3
      go_wp2_with (first | (go_at_call 82; refine (foldNum_any x _ bx).mono ?_; rintro e w' ⟨rfl, rfl⟩) | (refine wpList_store_mid rfl 121 (.tmp 14) (.tmp 41) rfl w2.heap.size 0 C' rfl rfl (by rw [sz']; exact (Blk.new w2 121 #[.int .i64 0, .int .i64 0, .int .i64 0, .int .i64 0, .int .i64 0, .int .i64 0, .int .i64 0, .int .i64 0, .int .i64 0, .int .i64 0, .int .i64 0, .int .i64 0, .int .i64 0, .int .i64 0, .int .i64 0, .int .i64 0, .int .i64 0, .int .i64 0, .int .i64 0, .int .i64 0, .int .i64 0, .int .i64 0, .int .i64 0, .int .i64 0, .int .i64 0, .int .i64 0, .int .i64 0, .int .i64 0, .int .i64 0, .int .i64 0, .int .i64 0, .int .i64 0, .int .i64 0]).there) (by rw [sz']; kernel_rfl) O1.out ?_; rw [← Hw3.out]))
      refine wp_region_any_drew (by kernel_rfl) ?_
      refine wpAny_take (i := 1) (v := u7) rfl (by decide +kernel) (by decide +kernel) (by decide +kernel) (fun _ _ _ h => h) (Or.inl ⟨by rfl, fun w => by rfl⟩) ?_
      try simp only [Act.put, Array.toArray_toList, List.getElem_toArray, List.getElem_cons_zero, List.getElem_cons_succ, List.setIfInBounds_toArray, List.set_cons_zero, List.set_cons_succ]
      refine wpAny_take (i := 2) (v := .int .i64 (x - q)) rfl (by decide +kernel) (by decide +kernel) (by decide +kernel) (fun _ _ _ h => h) (Or.inl ⟨by rfl, fun w => by rfl⟩) ?_
      try simp only [Act.put, Array.toArray_toList, List.getElem_toArray, List.getElem_cons_zero, List.getElem_cons_succ, List.setIfInBounds_toArray, List.set_cons_zero, List.set_cons_succ]
      refine wpAny_all (rs := [0, 3]) (by decide +kernel) (by simp) ?_
      intro i hi
      have hi2 : i = 0 ∨ i = 3 := by simpa using hi
      clear hi
      rcases hi2 with rfl | rfl
      refine wpOp_load 121 (.tmp 14) rfl (by rfl) rfl w2.heap.size 0 (by rfl) C'.toList _ (N3.out.rangeArr) Tryz.underlying121 rfl (by rw [Array.length_toList, sz']; kernel_rfl) ?_
      try simp only [Act.put, Array.toArray_toList, List.getElem_toArray, List.getElem_cons_zero, List.getElem_cons_succ, List.setIfInBounds_toArray, List.set_cons_zero, List.set_cons_succ]
      refine wpAny_all (rs := [3]) (by decide +kernel) (by simp) ?_
      intro i hi
      obtain rfl : i = 3 := by simpa using hi
      refine wpOp_value (w' := w3.drew.alloc (.cells #[.int .i64 (x - q)] 3)) (v := .slice (some ⟨w3.drew.heap.size, 0, none⟩) 1 1) rfl (by rfl) (by go_simp) ?_
      try simp only [Act.put, Array.toArray_toList, List.getElem_toArray, List.getElem_cons_zero, List.getElem_cons_succ, List.setIfInBounds_toArray, List.set_cons_zero, List.set_cons_succ]
      refine wpAny_all (rs := [4]) (by decide +kernel) (by simp) ?_
      intro i hi
      obtain rfl : i = 4 := by simpa using hi
      refine wpOp_appInt (W := w3.drew) (w.heap.size + 1) rfl rfl (.tmp 51) (.tmp 53) rfl u7 ys (x - q) (by rfl) (by rfl) P3.out.drew (by have := B3.out.size; have := K3.out.lt; show w.heap.size + 1 ≤ w3.heap.size; omega) (by have := hy'.out; omega) ?_
      intro v1 w4 O4 hg4 hb4
      try simp only [Act.put, Array.toArray_toList, List.getElem_toArray, List.getElem_cons_zero, List.getElem_cons_succ, List.setIfInBounds_toArray, List.set_cons_zero, List.set_cons_succ]
      rotate_left 1
      refine wpOp_value (w' := w3.drew.alloc (.cells #[.int .i64 (x - q)] 3)) (v := .slice (some ⟨w3.drew.heap.size, 0, none⟩) 1 1) rfl (by rfl) (by go_simp) ?_
      try simp only [Act.put, Array.toArray_toList, List.getElem_toArray, List.getElem_cons_zero, List.getElem_cons_succ, List.setIfInBounds_toArray, List.set_cons_zero, List.set_cons_succ]
      refine wpAny_all (rs := [0, 4]) (by decide +kernel) (by simp) ?_
      intro i hi
      have hi2 : i = 0 ∨ i = 4 := by simpa using hi
      clear hi
      rcases hi2 with rfl | rfl
      refine wpOp_load 121 (.tmp 14) rfl (by rfl) rfl w2.heap.size 0 (by rfl) C'.toList _ ((N3.out.drew.alloc _).rangeArr) Tryz.underlying121 rfl (by rw [Array.length_toList, sz']; kernel_rfl) ?_
      try simp only [Act.put, Array.toArray_toList, List.getElem_toArray, List.getElem_cons_zero, List.getElem_cons_succ, List.setIfInBounds_toArray, List.set_cons_zero, List.set_cons_succ]
      refine wpAny_all (rs := [4]) (by decide +kernel) (by simp) ?_
      intro i hi
      obtain rfl : i = 4 := by simpa using hi
      refine wpOp_appInt (W := w3.drew) (w.heap.size + 1) rfl rfl (.tmp 51) (.tmp 53) rfl u7 ys (x - q) (by rfl) (by rfl) P3.out.drew (by have := B3.out.size; have := K3.out.lt; show w.heap.size + 1 ≤ w3.heap.size; omega) (by have := hy'.out; omega) ?_
      intro v1 w4 O4 hg4 hb4
      try simp only [Act.put, Array.toArray_toList, List.getElem_toArray, List.getElem_cons_zero, List.getElem_cons_succ, List.setIfInBounds_toArray, List.set_cons_zero, List.set_cons_succ]
      rotate_left 1
      refine wpOp_appInt (W := w3.drew) (w.heap.size + 1) rfl rfl (.tmp 51) (.tmp 53) rfl u7 ys (x - q) (by rfl) (by rfl) P3.out.drew (by have := B3.out.size; have := K3.out.lt; show w.heap.size + 1 ≤ w3.heap.size; omega) (by have := hy'.out; omega) ?_
      intro v1 w4 O4 hg4 hb4
      try simp only [Act.put, Array.toArray_toList, List.getElem_toArray, List.getElem_cons_zero, List.getElem_cons_succ, List.setIfInBounds_toArray, List.set_cons_zero, List.set_cons_succ]
      refine wpAny_all (rs := [0]) (by decide +kernel) (by simp) ?_
      intro i hi
      obtain rfl : i = 0 := by simpa using hi
      refine wpOp_load 121 (.tmp 14) rfl (by rfl) rfl w2.heap.size 0 (by rfl) C'.toList _ ((Blk.grown N3.out.drew hg4 (fun e => by have := P2.out.own_lt _ e.symm; omega)).rangeArr) Tryz.underlying121 rfl (by rw [Array.length_toList, sz']; kernel_rfl) ?_
      try simp only [Act.put, Array.toArray_toList, List.getElem_toArray, List.getElem_cons_zero, List.getElem_cons_succ, List.setIfInBounds_toArray, List.set_cons_zero, List.set_cons_succ]
      all_goals
        have K4 : Blk w4 w.heap.size 121 C := K3.out.drew.below hb4 (by omega)
        have S3 : w3.heap.size ≤ w4.heap.size := hb4.size
        refine wpAny_all (rs := [5]) (by decide +kernel) (by simp) ?_
        intro i hi
        obtain rfl : i = 5 := by simpa using hi
        refine wpOp_store 121 (.tmp 6) (.tmp 50) rfl (by rfl) rfl w.heap.size 0 C' (by first | rfl | (simp [Act.eval])) (by first | rfl | (simp [Act.eval])) (by have := K4.there; rwa [sz, ← sz'] at this) (by rw [sz']; kernel_rfl) O1.out ?_
        try simp only [Act.put, Array.toArray_toList, List.getElem_toArray, List.getElem_cons_zero, List.getElem_cons_succ, List.setIfInBounds_toArray, List.set_cons_zero, List.set_cons_succ]
        refine wpAny_take (i := 6) (v := v1) rfl (by decide +kernel) (by decide +kernel) (by decide +kernel) (fun _ _ _ h => h) (Or.inl ⟨by rfl, fun w => by rfl⟩) ?_
        try simp only [Act.put, Array.toArray_toList, List.getElem_toArray, List.getElem_cons_zero, List.getElem_cons_succ, List.setIfInBounds_toArray, List.set_cons_zero, List.set_cons_succ]
        refine wpAny_done (by decide +kernel) ?_ _
        have K5 := K4.setAll C'.toList (by rw [Array.length_toList, sz, sz'])
        simp only [Array.toArray_toList] at K5
        have O5 : OI (w4.setCells w.heap.size 0 C'.toList) (w.heap.size + 1) v1 (ys ++ [x - q]) := OI.setRow (by omega) _ _ O4
        have B5 : Below w.heap.size w (w4.setCells w.heap.size 0 C'.toList) := below_setCells (g := w.heap.size) (Nat.le_refl _) _ _ _ (B3.out.trans ⟨hb4.os, hb4.tape, hb4.output, hb4.size, fun k hk => hb4.block k (by omega)⟩)
        have K5' := Lib.hid K5
        have O5' := Lib.hid O5
        have B5' := Lib.hid B5
        clear K4 K5 O5 B5 O4 hg4 hb4 hi
        go_wp2
        go_roundg (xs.length - (j + 1))
        case measure => have := hk'.out; omega
        case rel =>
          refine ⟨j + 1, c.learn x, ys ++ [x - q], by omega, rfl, by go_num, Chain.learn_ok hc'.out bx, by simp [hy'.out], ?_, O5'.out, hCn'.out ▸ K5'.out, B5'.out⟩
          rw [hf'.out, drop_cons hlt, hx'.out]
          simp only [lput, if_pos bx, hq'.out, Option.map_map]
          congr 1
          funext zs
          simp
    · obtain rfl : j = xs.length := by omega
      go_wp2
      go_ret2
      have e : fin = some ys := by rw [hf'.out, List.drop_length]; simp [lput]
      first | exact ⟨_, ys, rfl, e, hO'.out.mono (Nat.le_succ _), hb'.out⟩ | exact ⟨_, rfl, ys, e, hO'.out.mono (Nat.le_succ _), hb'.out⟩
theorem putL_any (A : Option Addr) (ca : Nat) (xs : List Int) (w : World) (hR : RI w A xs) (hl : xs.length ≤ 128) (hx : ∀ x ∈ xs, -131072 ≤ x ∧ x ≤ 131072) :
    Calls Tryz.prog 40 #[.slice A xs.length ca] w fun e w' => ∃ v rs, e = .returned (.tuple #[v, .int .i64 0]) ∧ lput zeroC xs = some rs ∧ OI w' w.heap.size v rs ∧ Below w.heap.size w w' := by
  have H := Lib.hid (turnP_any A ca xs w hR hl hx)
  clear hR hx
  go_enter Tryz.func40, Tryz.ntmps40
  go_wp2_with fail
  refine H.out.mono ?_
  rintro e w1 ⟨v, rs, rfl, h1, h2, h3⟩
  have h1' := Lib.hid h1
  have h2' := Lib.hid h2
  have h3' := Lib.hid h3
  clear h1 h2 h3
  go_wp2
  go_ret2
  first | exact ⟨_, rs, rfl, h1'.out, h2'.out, h3'.out⟩ | exact ⟨_, rfl, rs, h1'.out, h2'.out, h3'.out⟩
end Dsc
end
section
/- The walks of slices.Clone at ints, of math/bits.TrailingZeros, of the tests of samples. -/
set_option linter.unusedVariables false
set_option linter.unusedSimpArgs false
namespace Dsc
open Go Go.RowKit
open Go.Proofs

section
variable {ops : Array Oper} {rest : List Oper} {o : Oper} {a : Act} {Q : Exit → Act → World → Prop}
/-- append(v, ys...). -/
theorem app_ints {W : World} (base : Nat) (hgd : o.guard = none) (s x : Operand)
    (ho : o.op = .call { callee := .builtin .append, args := #[s, x], argTypes := #[39, 39] })
    (v : Value) (xs ys : List Int) (ad : Addr) (c2 : Nat) (hs : a.eval s = v) (hx : a.eval x = .slice (some ad) ys.length c2)
    (hc : ∀ j, j < ys.length → W.cell? (ad.add j) = some (.int .i64 (ys.getD j 0)))
    (HO : OI W base v xs) (hbase : base ≤ W.heap.size) (hl : xs.length + ys.length ≤ 17592186044416)
    (h : ∀ v1 w1, OI w1 base v1 (xs ++ ys) → W.grownBy w1 v.ownBlock → Below base W w1 → wpList Tryz.prog ops Q rest (a.put o.dst v1) w1) :
    wpList Tryz.prog ops Q (o :: rest) a W := by
  obtain ⟨i0, hi, hzz⟩ := Option.map_eq_some_iff.1 info_int
  simp only [Prod.mk.injEq] at hzz
  obtain ⟨hz0, hz1, hz2⟩ := hzz
  refine wpList_append_own_at W hgd s x 39 ho base 3 i0 (.int .i64 0) 1 8 Tryz.underlying39 hi hz0 hz1 hz2 rfl (by omega) v xs.length (iv xs) hs HO ad ys.length c2 (iv ys) hx (by simp [iv])
    (fun j u hj => ?_) (by simp [iv, Value.oneCell']) (by unfold maxLen; omega) (by omega) hbase ?_
  · have hl2 : j < ys.length := by have := (List.getElem?_eq_some_iff.1 hj).1; simpa [iv] using this
    rw [hc j hl2]
    rw [← hj]
    exact (iv_getD ys j hl2).symm
  · intro v1 w1 hown hg _ _
    refine h v1 w1 ?_ hg ?_
    · unfold OI
      simpa [iv] using hown
    · exact ⟨hg.os, hg.tape, hg.output, hg.size, fun k hk => hg.block k (by omega) (fun e => by have := HO.own_base k e.symm; omega)⟩
end
theorem OI.empty (w : World) : OI (w.alloc (.cells #[] 3)) w.heap.size (.slice (some ⟨w.heap.size, 0, none⟩) 0 0) [] :=
  ⟨rfl, .inr ⟨w.heap.size, 0, #[], by simp, Nat.le_refl _, heap_alloc_new w _, by simp, by unfold maxLen; omega, by simp [iv], by simp [iv]⟩⟩
set_option maxRecDepth 10000 in
theorem clone_any (A : Option Addr) (c : Nat) (xs : List Int) (w : World) (hR : RI w A xs) (hl : xs.length ≤ 1000000) :
    Calls Tryz.prog 57 #[.slice A xs.length c] w fun e w' => ∃ v, e = .returned v ∧ OI w' w.heap.size v xs ∧ Below w.heap.size w w' := by
  rcases A with _ | ad
  · have h0 : xs.length = 0 := by
      rcases Nat.eq_zero_or_pos xs.length with h | h
      · exact h
      · obtain ⟨_, e, _⟩ := hR h; cases e
    obtain rfl := List.eq_nil_of_length_eq_zero h0
    clear hR hl h0
    have he : ∀ W : World, (binOp .eql 39 (.slice none 0 c) (.slice none 0 0)).run Tryz.prog W = .ok (.bool true) W := fun W => Lib.run_eql_slice_nil W _ _ _ _ _ _ _ Tryz.underlying39
    go_enter Tryz.func57, Tryz.ntmps57
    go_wp2
    go_ret
    exact ⟨_, rfl, OI.nil _ _, Below.refl _ _⟩
  · have HR := Lib.hid (show ∀ j, j < xs.length → (w.alloc (.cells #[] 3)).cell? (ad.add j) = some (.int .i64 (xs.getD j 0)) from fun j hj => by
      obtain ⟨_, e, hc⟩ := hR (by omega)
      cases e
      exact cell_later ((Below.refl _ _).alloc (Nat.le_refl _) _) (hc j hj))
    clear hR
    have he : ∀ W : World, (binOp .eql 39 (.slice (some ad) xs.length c) (.slice none 0 0)).run Tryz.prog W = .ok (.bool false) W := fun W => Lib.run_eql_slice_nil W _ _ _ _ _ _ _ Tryz.underlying39
    go_enter Tryz.func57, Tryz.ntmps57
    go_wp2_with (refine app_ints w.heap.size rfl (.tmp 5) (.tmp 6) rfl (.slice (some ⟨w.heap.size, 0, none⟩) 0 0) [] xs ad c rfl rfl HR.out (OI.empty w) (by simp) (by simp; omega) ?_; intro v1 w1 hO hg hb)
    go_ret
    refine ⟨_, rfl, hO, ?_⟩
    exact ((Below.refl _ _).alloc (Nat.le_refl _) _).trans hb
/-! TrailingZeros -/
def TzW (w : World) : Prop := TabAt 2 Lib.deBruijn64tab w
set_option maxHeartbeats 1000000 in
theorem tz64_core (x k idx : Nat) (w : World) (hx0 : ((x : Int) == 0) = false)
    (key : IntKind.u64.wrap (bits BinOp.and IntKind.u64 (x : Int) (IntKind.u64.wrap (-(x : Int))) * 285870213051353865) / 288230376151711744 = (idx : Int))
    (hi : idx < 64) (hk : k < 64) (hcell : w.cell? ⟨2, idx, none⟩ = some (.int .u8 k)) :
    Calls Tryz.prog 96 #[.int .u64 x] w fun e w' => e = .returned (.int .i64 k) ∧ w = w' := by
  go_enter Tryz.func96, Tryz.ntmps96
  go_wp2_with (simp only [key])
  go_ret
  exact ⟨rfl, rfl⟩
theorem tz64_zero (w : World) : Calls Tryz.prog 96 #[.int .u64 0] w fun e w' => e = .returned (.int .i64 64) ∧ w = w' := by
  go_enter Tryz.func96, Tryz.ntmps96
  go_wp2
  go_ret
  exact ⟨rfl, rfl⟩
theorem tz_any (x : Nat) (hx : x < 18446744073709551616) (w : World) (hT : TzW w) :
    Calls Tryz.prog 76 #[.int .u64 x] w fun e w' => e = .returned (.int .i64 (Lib.ctz 64 x)) ∧ w = w' := by
  have c64 : ∀ W, TzW W → Calls Tryz.prog 96 #[.int .u64 x] W fun e w' => e = .returned (.int .i64 (Lib.ctz 64 x)) ∧ W = w' := fun W hT => by
    by_cases hx0 : x = 0
    · subst hx0
      exact tz64_zero W
    · obtain ⟨hlow, hk⟩ := Lib.lowest_bit 64 x hx0 hx
      obtain ⟨hi, htab⟩ := Lib.deBruijn64_at _ hk
      have hcell := hT _ hi
      rw [htab] at hcell
      exact tz64_core x _ _ W (by simp; omega) (tz64_key x _ hx hx0 hlow) hi hk hcell
  have H := Lib.hid (c64 w hT)
  clear c64 hT
  have x0 : (0 : Int) ≤ x := by omega
  have hw : IntKind.u64.wrap (x : Int) = (x : Int) := by rw [IntKind.wrap_u64]; omega
  clear hx
  go_enter Tryz.func76, Tryz.ntmps76
  go_wp2_with (go_at_call 96; refine H.out.mono ?_; rintro e w' ⟨rfl, rfl⟩)
  go_ret
  exact ⟨rfl, rfl⟩
/-! tests of samples -/
def oddB (x : Int) : Bool := !(decide (-131072 ≤ x) && decide (x ≤ 131072))
theorem oddB_false {x : Int} : oddB x = false ↔ -131072 ≤ x ∧ x ≤ 131072 := by unfold oddB; simp
theorem sampleB_any (x : Int) (w : World) : Calls Tryz.prog 78 #[.int .i64 x] w fun e w' => e = .returned (.bool (!oddB x)) ∧ w = w' := by
  by_cases h0 : -131072 ≤ x
  · by_cases h1 : x ≤ 131072
    · have e : oddB x = false := oddB_false.2 ⟨h0, h1⟩
      rw [e]
      exact sample_yes x w ⟨h0, h1⟩
    · have e : oddB x = true := by unfold oddB; simp; omega
      rw [e]
      clear e
      go_enter Tryz.func78, Tryz.ntmps78
      go_wp2
      go_ret
      exact ⟨by simp, rfl⟩
  · have e : oddB x = true := by unfold oddB; simp; omega
    rw [e]
    clear e
    go_enter Tryz.func78, Tryz.ntmps78
    go_wp2
    go_ret
    exact ⟨by simp <;> omega, rfl⟩
theorem shOddB_any (x : Int) (w : World) : Calls Tryz.prog 77 #[.int .i64 x] w fun e w' => e = .returned (.bool (oddB x)) ∧ w = w' := by
  have H := Lib.hid (sampleB_any x w)
  go_enter Tryz.func77, Tryz.ntmps77
  go_wp2_with (go_at_call 78; refine H.out.mono ?_; rintro e w' ⟨rfl, rfl⟩)
  go_ret
  exact ⟨by simp, rfl⟩
theorem sdOddB_any (x : Int) (w : World) : Calls Tryz.prog 97 #[.int .i64 x] w fun e w' => e = .returned (.bool (oddB x)) ∧ w = w' := by
  have H := Lib.hid (sampleB_any x w)
  go_enter Tryz.func97, Tryz.ntmps97
  go_wp2_with (go_at_call 78; refine H.out.mono ?_; rintro e w' ⟨rfl, rfl⟩)
  go_ret
  exact ⟨by simp, rfl⟩
theorem wsOdd_any (x : Int) (w : World) : Calls Tryz.prog 54 #[.int .i64 x] w fun e w' => e = .returned (.bool (x != 0)) ∧ w = w' := by
  go_enter Tryz.func54, Tryz.ntmps54
  go_wp2
  go_ret
  exact ⟨rfl, rfl⟩
/-- May samples be, and a number of bits? -/
def mayB (xs : List Int) (k : Int) : Bool := decide (0 ≤ k) && decide (k ≤ 15) && !xs.any oddB
set_option maxRecDepth 10000 in
theorem shMayB_any (A : Option Addr) (ca : Nat) (xs : List Int) (k : Int) (w : World) (hR : RI w A xs) (hl : xs.length ≤ 1000000) :
    Calls Tryz.prog 56 #[.slice A xs.length ca, .int .i64 k] w fun e w' => e = .returned (.bool (mayB xs k)) ∧ ∃ n, w.drewN n = w' := by
  have H := Lib.hid (cont_any A ca xs 77 oddB w hR (by omega) (fun _ _ => rfl) (fun x h W => shOddB_any x W))
  obtain ⟨z, hz⟩ : ∃ z, xs.any oddB = z := ⟨_, rfl⟩
  have em : mayB xs k = (decide (0 ≤ k) && decide (k ≤ 15) && !z) := by unfold mayB; rw [hz]
  rw [hz] at H
  rw [em]
  clear hR hz em
  by_cases h0 : 0 ≤ k
  · by_cases h1 : k ≤ 15
    · have e0 : (decide (0 ≤ k) && decide (k ≤ 15) && !z) = !z := by simp [h0, h1]
      rw [e0]
      clear e0
      go_enter Tryz.func56, Tryz.ntmps56
      go_wp2_with (go_at_call 53; refine H.out.mono ?_; rintro e w' ⟨rfl, n, rfl⟩)
      go_ret
      exact ⟨rfl, n, rfl⟩
    · have e0 : (decide (0 ≤ k) && decide (k ≤ 15) && !z) = false := by simp [h1]
      rw [e0]
      clear e0
      have hd : decide (k ≤ 15) = false := by simpa using h1
      go_enter Tryz.func56, Tryz.ntmps56
      go_wp2
      go_ret
      exact ⟨rfl, 0, rfl⟩
  · have e0 : (decide (0 ≤ k) && decide (k ≤ 15) && !z) = false := by simp [h0]
    rw [e0]
    clear e0
    have hd : decide (0 ≤ k) = false := by simpa using h0
    go_enter Tryz.func56, Tryz.ntmps56
    go_wp2
    go_ret
    exact ⟨rfl, 0, rfl⟩
end Dsc
end
section
/- Bits that are not used, in plain Lean. -/
set_option linter.unusedVariables false
namespace Dsc
open Go

/-- An int's 64 bits, as a number. -/
def n64 (x : Int) : Nat := (BitVec.ofInt 64 x).toNat
def orAll (xs : List Int) : Nat := xs.foldl (fun a x => a ||| n64 x) 0
theorem n64_lt (x : Int) : n64 x < 18446744073709551616 := (BitVec.ofInt 64 x).isLt
theorem n64_eq (x : Int) : (n64 x : Int) = x % 18446744073709551616 := by
  unfold n64
  rw [BitVec.toNat_ofInt]
  have : ((2 ^ 64 : Nat) : Int) = 18446744073709551616 := by decide
  rw [this]
  omega
theorem or_foldl (xs : List Int) : ∀ a, xs.foldl (fun a x => a ||| n64 x) a = a ||| orAll xs := by
  unfold orAll
  induction xs with
  | nil => intro a; simp
  | cons x xs ih => intro a; simp only [List.foldl_cons]; rw [ih, ih (0 ||| n64 x), Nat.zero_or, Nat.or_assoc]
theorem orAll_cons (x : Int) (xs : List Int) : orAll (x :: xs) = n64 x ||| orAll xs := by
  show (x :: xs).foldl _ 0 = _
  rw [List.foldl_cons, or_foldl, Nat.zero_or]
theorem orAll_snoc (xs : List Int) (x : Int) : orAll (xs ++ [x]) = orAll xs ||| n64 x := by
  unfold orAll; rw [List.foldl_append]; rfl
theorem orAll_lt : ∀ xs : List Int, orAll xs < 18446744073709551616
  | [] => by decide
  | x :: xs => by rw [orAll_cons]; exact Nat.or_lt_two_pow (n := 64) (n64_lt x) (orAll_lt xs)
theorem or_dvd (a b k : Nat) : 2 ^ k ∣ a ||| b ↔ 2 ^ k ∣ a ∧ 2 ^ k ∣ b := by
  rw [Nat.dvd_iff_mod_eq_zero, Nat.dvd_iff_mod_eq_zero, Nat.dvd_iff_mod_eq_zero, Nat.or_mod_two_pow]
  exact Nat.or_eq_zero_iff
theorem orAll_dvd (k : Nat) : ∀ xs : List Int, 2 ^ k ∣ orAll xs ↔ ∀ x ∈ xs, 2 ^ k ∣ n64 x
  | [] => by simp [orAll]
  | x :: xs => by rw [orAll_cons, or_dvd, orAll_dvd k xs]; simp
theorem pow_dvd_64 {k : Nat} (hk : k ≤ 64) : (2 : Int) ^ k ∣ 18446744073709551616 := by
  refine ⟨2 ^ (64 - k), ?_⟩
  rw [← Int.pow_add, show k + (64 - k) = 64 by omega]
  decide
theorem n64_dvd {k : Nat} (hk : k ≤ 64) (x : Int) : 2 ^ k ∣ n64 x ↔ (2 : Int) ^ k ∣ x := by
  have h1 : (2 ^ k ∣ n64 x) ↔ ((2 : Int) ^ k ∣ (n64 x : Int)) := by
    rw [show (2 : Int) ^ k = ((2 ^ k : Nat) : Int) by simp, Int.natCast_dvd_natCast]
  rw [h1, n64_eq]
  obtain ⟨m, hm⟩ := pow_dvd_64 hk
  constructor
  · rintro ⟨q, hq⟩
    refine ⟨q + m * (x / 18446744073709551616), ?_⟩
    rw [Int.mul_add, ← Int.mul_assoc, ← hm, ← hq]
    omega
  · rintro ⟨q, hq⟩
    refine ⟨q - m * (x / 18446744073709551616), ?_⟩
    rw [Int.mul_sub, ← Int.mul_assoc, ← hm, ← hq]
    omega
theorem n64_zero {x : Int} (h : -131072 ≤ x ∧ x ≤ 131072) : n64 x = 0 ↔ x = 0 := by
  have := n64_eq x
  omega
theorem orAll_zero : ∀ xs : List Int, (∀ x ∈ xs, -131072 ≤ x ∧ x ≤ 131072) → (orAll xs = 0 ↔ ∀ x ∈ xs, x = 0)
  | [], _ => by simp [orAll]
  | x :: xs, h => by
    rw [orAll_cons, Nat.or_eq_zero_iff, n64_zero (h x (by simp)), orAll_zero xs (fun y hy => h y (by simp [hy]))]
    simp
/-- How many bits of samples are not used. -/
def wasteOf (xs : List Int) : Nat := if orAll xs = 0 then 0 else min (Lib.ctz 64 (orAll xs)) 15
theorem wasteOf_le (xs : List Int) : wasteOf xs ≤ 15 := by unfold wasteOf; split <;> omega
theorem ctz_dvd {n : Nat} (h0 : n ≠ 0) (hn : n < 18446744073709551616) (k : Nat) : 2 ^ k ∣ n ↔ k ≤ Lib.ctz 64 n := by
  have e : Lib.ctz 64 n = Lib.ctzFrom 64 n := by unfold Lib.ctz; rw [if_neg h0]
  obtain ⟨m, hm, hc⟩ := Lib.ctzFrom_spec 64 n (by omega) hn
  rw [e]
  generalize Lib.ctzFrom 64 n = c at *
  constructor
  · intro hd
    rcases Nat.lt_or_ge c k with hlt | hge
    · exfalso
      obtain ⟨q, hq⟩ := hd
      rw [show k = c + 1 + (k - c - 1) by omega, Nat.pow_add, Nat.pow_succ] at hq
      rw [hq] at hm
      have h2 : 2 ^ c * (2 * (2 ^ (k - c - 1) * q)) = 2 ^ c * (2 * m + 1) := by rw [← hm]; simp only [Nat.mul_assoc]
      have := Nat.eq_of_mul_eq_mul_left (Nat.pow_pos (by decide)) h2
      omega
    · exact hge
  · intro hle
    rw [hm]
    exact Nat.dvd_trans (Nat.pow_dvd_pow 2 hle) (Nat.dvd_mul_right _ _)
theorem waste_dvd {xs : List Int} {k : Nat} (hk : k ≤ wasteOf xs) : ∀ x ∈ xs, (2 : Int) ^ k ∣ x := by
  have h15 := wasteOf_le xs
  have : 2 ^ k ∣ orAll xs := by
    unfold wasteOf at hk
    split at hk
    · rename_i h0; rw [h0]; exact Nat.dvd_zero _
    · rename_i h0
      exact (ctz_dvd h0 (orAll_lt xs) k).2 (by omega)
  intro x hx
  exact (n64_dvd (by omega) x).1 ((orAll_dvd k xs).1 this x hx)
theorem waste_most {xs : List Int} (hs : ∀ x ∈ xs, -131072 ≤ x ∧ x ≤ 131072) (hne : ∃ x ∈ xs, x ≠ 0) {k : Nat} (hk : k ≤ 15) (hd : ∀ x ∈ xs, (2 : Int) ^ k ∣ x) : k ≤ wasteOf xs := by
  have h0 : orAll xs ≠ 0 := fun e => by
    obtain ⟨x, hx, hx0⟩ := hne
    exact hx0 ((orAll_zero xs hs).1 e x hx)
  have : 2 ^ k ∣ orAll xs := (orAll_dvd k xs).2 fun x hx => (n64_dvd (by omega) x).2 (hd x hx)
  have := (ctz_dvd h0 (orAll_lt xs) k).1 this
  unfold wasteOf
  rw [if_neg h0]
  omega
/-- In all channels that are not all 0. -/
def wasteAll (xss : List (List Int)) : Nat := xss.foldl (fun a xs => if xs.any (· != 0) then min a (wasteOf xs) else a) 15
theorem wasteAll_from (xss : List (List Int)) : ∀ a, xss.foldl (fun a xs => if xs.any (· != 0) then min a (wasteOf xs) else a) a ≤ a ∧ ∀ xs ∈ xss, xs.any (· != 0) = true → xss.foldl (fun a xs => if xs.any (· != 0) then min a (wasteOf xs) else a) a ≤ wasteOf xs := by
  induction xss with
  | nil => intro a; simp
  | cons ys xss ih =>
    intro a
    simp only [List.foldl_cons]
    obtain ⟨h1, h2⟩ := ih (if ys.any (· != 0) then min a (wasteOf ys) else a)
    refine ⟨?_, ?_⟩
    · refine Nat.le_trans h1 ?_
      split <;> omega
    · intro xs hxs hz
      rcases List.mem_cons.1 hxs with rfl | hm
      · refine Nat.le_trans h1 ?_
        rw [if_pos hz]; omega
      · exact h2 xs hm hz
theorem wasteAll_le (xss : List (List Int)) : wasteAll xss ≤ 15 := (wasteAll_from xss 15).1
theorem wasteAll_dvd {xss : List (List Int)} : ∀ xs ∈ xss, ∀ x ∈ xs, (2 : Int) ^ wasteAll xss ∣ x := by
  intro xs hxs x hx
  by_cases h0 : x = 0
  · subst h0; exact Int.dvd_zero _
  · exact waste_dvd ((wasteAll_from xss 15).2 xs hxs (by rw [List.any_eq_true]; exact ⟨x, hx, by simpa using h0⟩)) x hx
theorem wasteAll_most {xss : List (List Int)} (hs : ∀ xs ∈ xss, ∀ x ∈ xs, -131072 ≤ x ∧ x ≤ 131072) {k : Nat} (hk : k ≤ 15) (hd : ∀ xs ∈ xss, ∀ x ∈ xs, (2 : Int) ^ k ∣ x) : k ≤ wasteAll xss := by
  have key : ∀ (yss : List (List Int)) a, k ≤ a → (∀ xs ∈ yss, xs ∈ xss) → k ≤ yss.foldl (fun a xs => if xs.any (· != 0) then min a (wasteOf xs) else a) a := by
    intro yss
    induction yss with
    | nil => intro a ha _; exact ha
    | cons ys yss ih =>
      intro a ha hm
      simp only [List.foldl_cons]
      refine ih _ ?_ (fun xs hxs => hm xs (by simp [hxs]))
      split
      · rename_i hz
        have hy := hm ys (by simp)
        rw [List.any_eq_true] at hz
        obtain ⟨x, hx, hx0⟩ := hz
        have := waste_most (hs ys hy) ⟨x, hx, by simpa using hx0⟩ hk (hd ys hy)
        exact Nat.le_min.2 ⟨ha, this⟩
      · exact ha
  exact key xss 15 hk (fun _ h => h)
end Dsc
end
section
/- The walks of side.May, shift.Wasted, segment.wasted. -/
set_option linter.unusedVariables false
set_option linter.unusedSimpArgs false
namespace Dsc
open Go Go.RowKit
open Go.Proofs

/-- A slice of slices of ints that is read. -/
def RS (w : World) (A : Option Addr) (xss : List (List Int)) : Prop := ∀ j, j < xss.length → ∃ ad A' c', A = some ad ∧ w.cell? (ad.add j) = some (.slice A' (xss.getD j []).length c') ∧ RI w A' (xss.getD j [])
theorem RS.kept {w w' : World} {A : Option Addr} {xss : List (List Int)} (h : RS w A xss) (hb : Below w.heap.size w w') : RS w' A xss := fun j hj => by
  obtain ⟨ad, A', c', e, hc, hr⟩ := h j hj
  exact ⟨ad, A', c', e, cell_later hb hc, hr.kept hb⟩
theorem RS.drewN {w : World} {A : Option Addr} {xss : List (List Int)} (h : RS w A xss) (n : Nat) : RS (w.drewN n) A xss := h
def evenS (xss : List (List Int)) : List Int → Bool := fun xs => decide (xs.length = (xss.getD 0 []).length) && !xs.any oddB
def mayS (xss : List (List Int)) : Bool := xss.all (evenS xss) && (decide (xss.length = 1) || decide (xss.length = 2))
theorem getD_memL {xss : List (List Int)} {k : Nat} (hk : k < xss.length) : xss.getD k [] ∈ xss := by
  rw [List.getD_eq_getElem?_getD, List.getElem?_eq_getElem hk]; exact List.getElem_mem hk
theorem drop_consL {xss : List (List Int)} {k : Nat} (hk : k < xss.length) : xss.drop k = xss.getD k [] :: xss.drop (k + 1) := by
  rw [List.getD_eq_getElem?_getD, List.getElem?_eq_getElem hk, List.drop_eq_getElem_cons hk]; rfl
set_option maxRecDepth 10000 in
set_option maxHeartbeats 1000000 in
theorem sideMay_any (A : Option Addr) (ca : Nat) (xss : List (List Int)) (w : World) (hR : RS w A xss) (hl : xss.length ≤ 1000000) (hx : ∀ xs ∈ xss, xs.length ≤ 1000000) :
    Calls Tryz.prog 79 #[.slice A xss.length ca] w fun e w' => e = .returned (.bool (mayS xss)) ∧ ∃ n, w.drewN n = w' := by
  have HR := Lib.hid hR
  have HX := Lib.hid hx
  clear hR hx
  go_enter Tryz.func79, Tryz.ntmps79
  go_wp2_with fail
  go_loopg [7] xss.length (fun g a wr => ∃ k : Nat, k ≤ xss.length ∧ g = xss.length - k ∧ a = .int .i64 k ∧ xss.all (evenS xss) = (xss.drop k).all (evenS xss) ∧ ∃ n, w.drewN n = wr)
  case atStart => exact ⟨0, by omega, by omega, rfl, by simp, 0, rfl⟩
  case round =>
    obtain ⟨j, hj, hk, rfl, hx, nd, rfl⟩ := hrel
    have hk' := Lib.hid hk
    have hx' := Lib.hid hx
    clear hk hx
    by_cases hlt : j < xss.length
    · have q0 : (0 : Int) ≤ j := by omega
      have q1 : (j : Int) < xss.length := by omega
      have q2 : (0 : Int) < xss.length := by omega
      have q3 : 0 < xss.length := by omega
      obtain ⟨ad, A', c', hA, hc, hr⟩ := HR.out j hlt
      obtain ⟨ad0, A0, c0, hA0, hc0, -⟩ := HR.out 0 q3
      subst hA
      cases hA0
      have ad00 : ad.add 0 = ad := by simp [Addr.add]
      rw [ad00] at hc0
      have AD := Lib.hid ad00
      clear ad00
      have hd := drop_consL hlt
      obtain ⟨xs, hxs⟩ : ∃ xs, xss.getD j [] = xs := ⟨_, rfl⟩
      obtain ⟨ys, hys⟩ : ∃ ys, xss.getD 0 [] = ys := ⟨_, rfl⟩
      have hlx : xs.length ≤ 1000000 := hxs ▸ HX.out _ (getD_memL hlt)
      have hly : ys.length ≤ 1000000 := hys ▸ HX.out _ (getD_memL q3)
      rw [hxs] at hc hr hd
      rw [hys] at hc0
      have hall : (xss.drop j).all (evenS xss) = (evenS xss xs && (xss.drop (j + 1)).all (evenS xss)) := by rw [hd]; rfl
      have hev : evenS xss xs = (decide (xs.length = ys.length) && !xs.any oddB) := by unfold evenS; rw [hys]
      have HALL := Lib.hid hall
      have HEV := Lib.hid hev
      have HC := Lib.hid (cont_any A' c' xs 97 oddB (w.drewN nd) (hr.drewN nd) (by omega) (fun _ _ => rfl) (fun x h W => sdOddB_any x W))
      obtain ⟨z, hz⟩ : ∃ z, xs.any oddB = z := ⟨_, rfl⟩
      rw [hz] at HC HEV
      clear hz hall hev hd hxs hys hr
      by_cases hle : xs.length = ys.length
      · have le2 : ((xs.length : Int) != ys.length) = false := by rw [bne_eq_false_iff_eq]; omega
        have le3 : (xs.length != ys.length) = false := by rw [bne_eq_false_iff_eq]; exact hle
        have LE := Lib.hid hle
        clear hle
        cases z
        · go_wp2_with (go_at_call 53; refine HC.out.mono ?_; rintro e w' ⟨rfl, n2, rfl⟩)
          go_roundg (xss.length - (j + 1))
          case measure => have := hk'.out; omega
          case rel =>
            refine ⟨j + 1, by omega, rfl, by go_num, ?_, nd + n2, rfl⟩
            rw [hx'.out, HALL.out, HEV.out]
            simp [LE.out]
        · go_wp2_with (go_at_call 53; refine HC.out.mono ?_; rintro e w' ⟨rfl, n2, rfl⟩)
          go_ret
          refine ⟨?_, nd + n2, rfl⟩
          have : mayS xss = false := by unfold mayS; rw [hx'.out, HALL.out, HEV.out]; simp
          rw [this]
          rfl
      · have le2 : ((xs.length : Int) != ys.length) = true := by rw [bne_iff_ne]; omega
        have le3 : (xs.length != ys.length) = true := by rw [bne_iff_ne]; exact hle
        have LE := Lib.hid hle
        clear hle
        go_wp2
        go_ret
        refine ⟨?_, nd, rfl⟩
        have : mayS xss = false := by unfold mayS; rw [hx'.out, HALL.out, HEV.out]; simp [LE.out]
        rw [this]
        rfl
    · obtain rfl : j = xss.length := by omega
      have e0 : xss.all (evenS xss) = true := by rw [hx'.out, List.drop_length]; rfl
      have E0 := Lib.hid e0
      clear e0
      by_cases h1 : xss.length = 1
      · have b1 : ((xss.length : Int) == 1) = true := by rw [beq_iff_eq]; omega
        have b2 : (xss.length == 1) = true := by rw [beq_iff_eq]; omega
        have H1 := Lib.hid h1
        clear h1
        go_wp2
        go_ret
        refine ⟨?_, nd, rfl⟩
        have : mayS xss = true := by unfold mayS; rw [E0.out, H1.out]; rfl
        rw [this]
        rfl
      · have b1 : ((xss.length : Int) == 1) = false := by rw [beq_eq_false_iff_ne]; omega
        have b2 : (xss.length == 1) = false := by rw [beq_eq_false_iff_ne]; omega
        have H1 := Lib.hid h1
        clear h1
        go_wp2
        go_ret
        refine ⟨?_, nd, rfl⟩
        have : mayS xss = ((xss.length : Int) == 2) := by
          unfold mayS; rw [E0.out]
          have h2 : decide (xss.length = 1) = false := by simpa using H1.out
          rw [h2, Bool.eq_iff_iff]; simp; omega
        rw [this]
        rfl
/-- Of 64 bits, the int. -/
def s64 (n : Nat) : Int := IntKind.i64.wrap (n : Int)
theorem ofInt_s64 (n : Nat) (h : n < 18446744073709551616) : (BitVec.ofInt 64 (s64 n)).toNat = n := by
  rw [BitVec.toNat_ofInt]
  have e : ((2 ^ 64 : Nat) : Int) = 18446744073709551616 := by decide
  rw [e]
  unfold s64
  rw [IntKind.wrap_i64]
  omega
theorem or_s64 (n : Nat) (x : Int) (h : n < 18446744073709551616) : bits .or .i64 (s64 n) x = s64 (n ||| n64 x) := by
  show IntKind.i64.wrap ((BitVec.ofInt 64 (s64 n) ||| BitVec.ofInt 64 x).toNat : Int) = _
  rw [BitVec.toNat_or, ofInt_s64 n h]
  rfl
theorem s64_bd (n : Nat) : -9223372036854775808 ≤ s64 n ∧ s64 n ≤ 9223372036854775807 := by
  unfold s64; rw [IntKind.wrap_i64]; omega
theorem u64_s64 (n : Nat) (h : n < 18446744073709551616) : IntKind.u64.wrap (s64 n) = (n : Int) := by
  unfold s64; rw [IntKind.wrap_i64, IntKind.wrap_u64]; omega
theorem s64_zero (n : Nat) (h : n < 18446744073709551616) : s64 n = 0 ↔ n = 0 := by
  unfold s64; rw [IntKind.wrap_i64]; omega
theorem take_succ_getD {xs : List Int} {j : Nat} (h : j < xs.length) : xs.take (j + 1) = xs.take j ++ [xs.getD j 0] := by
  rw [List.take_succ_eq_append_getElem h, List.getD_eq_getElem?_getD, List.getElem?_eq_getElem h]; rfl
set_option maxRecDepth 10000 in
set_option maxHeartbeats 1000000 in
theorem wasted_any (A : Option Addr) (ca : Nat) (xs : List Int) (w : World) (hR : RI w A xs) (hl : xs.length ≤ 1000000) (hT : TzW w) (hx : ∀ x ∈ xs, -131072 ≤ x ∧ x ≤ 131072) :
    Calls Tryz.prog 55 #[.slice A xs.length ca] w fun e w' => e = .returned (.tuple #[.int .i64 (wasteOf xs), .int .i64 0]) ∧ ∃ n, w.drewN n = w' := by
  have em : mayB xs 0 = true := by
    unfold mayB
    have : xs.any oddB = false := by rw [List.any_eq_false]; intro x h; rw [oddB_false.2 (hx x h)]; decide
    rw [this]; rfl
  have HM := Lib.hid (shMayB_any A ca xs 0 w hR hl)
  rw [em] at HM
  have HR := Lib.hid hR
  have HT := Lib.hid hT
  clear hR hT em hx
  go_enter Tryz.func55, Tryz.ntmps55
  go_wp2_with (go_at_call 56; refine HM.out.mono ?_; rintro e w' ⟨rfl, nd, rfl⟩)
  go_loopg [4, 12] xs.length (fun g a b wr => ∃ k : Nat, k ≤ xs.length ∧ g = xs.length - k ∧ a = .int .i64 (s64 (orAll (xs.take k))) ∧ b = .int .i64 k ∧ wr = w.drewN nd)
  case atStart => exact ⟨0, by omega, by omega, rfl, rfl, rfl⟩
  case round =>
    obtain ⟨j, hj, hk, rfl, rfl, rfl⟩ := hrel
    have hk' := Lib.hid hk
    clear hk
    have hb := s64_bd (orAll (xs.take j))
    have ho := orAll_lt (xs.take j)
    obtain ⟨n, hn⟩ : ∃ n, orAll (xs.take j) = n := ⟨_, rfl⟩
    rw [hn] at hb ho ⊢
    have hn' := Lib.hid hn
    clear hn
    by_cases hlt : j < xs.length
    · have q0 : (0 : Int) ≤ j := by omega
      have q1 : (j : Int) < xs.length := by omega
      obtain ⟨ad, rfl, hc⟩ := (HR.out.drewN nd).at_ hlt
      obtain ⟨x, hx⟩ : ∃ x, xs.getD j 0 = x := ⟨_, rfl⟩
      rw [hx] at hc
      have hx' := Lib.hid hx
      have eo := or_s64 n x ho
      have EO := Lib.hid eo
      clear hx eo ho hb
      go_wp2
      go_roundg (xs.length - (j + 1))
      case measure => have := hk'.out; omega
      case rel => exact ⟨j + 1, by omega, rfl, by rw [take_succ_getD hlt, orAll_snoc, hn'.out, hx'.out, ← EO.out], by go_num, rfl⟩
    · obtain rfl : j = xs.length := by omega
      rw [List.take_length] at hn'
      by_cases h0 : n = 0
      · subst h0
        have b1 : (s64 0 == 0) = true := rfl
        go_wp2
        go_ret2
        refine ⟨?_, nd, rfl⟩
        have : wasteOf xs = 0 := by unfold wasteOf; rw [if_pos hn'.out]
        rw [this]
        rfl
      · have b1 : (s64 n == 0) = false := by rw [beq_eq_false_iff_ne]; exact fun e => h0 ((s64_zero n ho).1 e)
        have eu := u64_s64 n ho
        have HZ := Lib.hid (fun W hT => tz_any n ho W hT)
        have ew : wasteOf xs = min (Lib.ctz 64 n) 15 := by unfold wasteOf; rw [if_neg (by rw [hn'.out]; exact h0), hn'.out]
        obtain ⟨c, hc⟩ : ∃ c, Lib.ctz 64 n = c := ⟨_, rfl⟩
        rw [hc] at HZ ew
        have EW := Lib.hid ew
        clear hc ew ho hb h0
        have c0 : (0 : Int) ≤ c := by omega
        go_wp2_with (go_at_call 76; refine (HZ.out (w.drewN nd) HT.out).mono ?_; rintro e w' ⟨rfl, rfl⟩)
        all_goals
          go_ret2
          refine ⟨ret_int2 ?_ rfl, nd, rfl⟩
          rw [EW.out]
          try simp
          try omega
theorem take_succ_getDL {xss : List (List Int)} {j : Nat} (h : j < xss.length) : xss.take (j + 1) = xss.take j ++ [xss.getD j []] := by
  rw [List.take_succ_eq_append_getElem h, List.getD_eq_getElem?_getD, List.getElem?_eq_getElem h]; rfl
theorem wasteAll_snoc (xss : List (List Int)) (xs : List Int) : wasteAll (xss ++ [xs]) = if xs.any (· != 0) then min (wasteAll xss) (wasteOf xs) else wasteAll xss := by
  unfold wasteAll; rw [List.foldl_append]; rfl
set_option maxRecDepth 10000 in
set_option maxHeartbeats 1000000 in
theorem wastedAll_any (A : Option Addr) (ca : Nat) (xss : List (List Int)) (w : World) (hR : RS w A xss) (hl : xss.length ≤ 1000000) (hT : TzW w) (hx : ∀ xs ∈ xss, xs.length ≤ 1000000) (hs : ∀ xs ∈ xss, ∀ x ∈ xs, -131072 ≤ x ∧ x ≤ 131072) :
    Calls Tryz.prog 37 #[.slice A xss.length ca] w fun e w' => e = .returned (.int .i64 (wasteAll xss)) ∧ ∃ n, w.drewN n = w' := by
  have HR := Lib.hid hR
  have HX := Lib.hid hx
  have HS := Lib.hid hs
  have HT := Lib.hid hT
  clear hR hx hs hT
  go_enter Tryz.func37, Tryz.ntmps37
  go_wp2_with fail
  go_loopg [3, 10] xss.length (fun g a b wr => ∃ k : Nat, k ≤ xss.length ∧ g = xss.length - k ∧ a = .int .i64 (wasteAll (xss.take k)) ∧ b = .int .i64 k ∧ ∃ n, w.drewN n = wr)
  case atStart => exact ⟨0, by omega, by omega, rfl, rfl, 0, rfl⟩
  case round =>
    obtain ⟨j, hj, hk, rfl, rfl, nd, rfl⟩ := hrel
    have hk' := Lib.hid hk
    clear hk
    obtain ⟨n, hn⟩ : ∃ n, wasteAll (xss.take j) = n := ⟨_, rfl⟩
    have n15 : n ≤ 15 := hn ▸ wasteAll_le _
    have n0 : (0 : Int) ≤ n := by omega
    rw [hn]
    have hn' := Lib.hid hn
    clear hn
    by_cases hlt : j < xss.length
    · have q0 : (0 : Int) ≤ j := by omega
      have q1 : (j : Int) < xss.length := by omega
      obtain ⟨ad, A', c', hA, hc, hr⟩ := HR.out j hlt
      subst hA
      obtain ⟨xs, hxs⟩ : ∃ xs, xss.getD j [] = xs := ⟨_, rfl⟩
      have hlx : xs.length ≤ 1000000 := hxs ▸ HX.out _ (getD_memL hlt)
      have hsx : ∀ x ∈ xs, -131072 ≤ x ∧ x ≤ 131072 := hxs ▸ HS.out _ (getD_memL hlt)
      rw [hxs] at hc hr
      have es : wasteAll (xss.take (j + 1)) = if xs.any (· != 0) then min n (wasteOf xs) else n := by rw [take_succ_getDL hlt, wasteAll_snoc, hn'.out, hxs]
      have HC := Lib.hid (cont_any A' c' xs 54 (· != 0) (w.drewN nd) (hr.drewN nd) (by omega) (fun _ _ => rfl) (fun x h W => wsOdd_any x W))
      obtain ⟨z, hz⟩ : ∃ z, xs.any (· != 0) = z := ⟨_, rfl⟩
      rw [hz] at HC es
      have HW := Lib.hid (fun m => wasted_any A' c' xs (w.drewN m) (hr.drewN m) hlx HT.out hsx)
      obtain ⟨c, hcc⟩ : ∃ c, wasteOf xs = c := ⟨_, rfl⟩
      rw [hcc] at HW es
      have ES := Lib.hid es
      have c0 : (0 : Int) ≤ c := by omega
      clear hz hxs hr es hsx hcc
      cases z
      · go_wp2_with (go_at_call 53; refine HC.out.mono ?_; rintro e w' ⟨rfl, n2, rfl⟩)
        go_roundg (xss.length - (j + 1))
        case measure => have := hk'.out; omega
        case rel => exact ⟨j + 1, by omega, rfl, by rw [ES.out]; rfl, by go_num, nd + n2, rfl⟩
      · go_wp2_with (first | (go_at_call 53; refine HC.out.mono ?_; rintro e w' ⟨rfl, n2, rfl⟩) | (go_at_call 55; refine (HW.out _).mono ?_; rintro e w' ⟨rfl, n3, rfl⟩))
        all_goals
          go_roundg (xss.length - (j + 1))
          case measure => have := hk'.out; omega
          case rel =>
            refine ⟨j + 1, by omega, rfl, ?_, by go_num, nd + n2 + n3, rfl⟩
            rw [ES.out, if_pos trivial]
            show Value.int .i64 _ = Value.int .i64 _
            congr 1
            omega
    · obtain rfl : j = xss.length := by omega
      rw [List.take_length] at hn'
      go_wp2
      go_ret
      exact ⟨by rw [hn'.out]; rfl, nd, rfl⟩
end Dsc
end
section
/- The walk of shift.Down. -/
set_option linter.unusedVariables false
set_option linter.unusedSimpArgs false
namespace Dsc
open Go Go.RowKit
open Go.Proofs

/-- The first j divided. -/
def downF (k j : Nat) (xs : List Int) : List Int := (xs.take j).map (· / 2 ^ k) ++ xs.drop j
theorem downF_length (k j : Nat) (xs : List Int) : (downF k j xs).length = xs.length := by unfold downF; simp; omega
theorem downF_at {k j : Nat} {xs : List Int} (h : j < xs.length) : (downF k j xs).getD j 0 = xs.getD j 0 := by
  unfold downF
  rw [List.getD_eq_getElem?_getD, List.getD_eq_getElem?_getD, List.getElem?_append_right (by simp; omega)]
  congr 1
  rw [List.getElem?_drop]
  congr 1
  simp; omega
theorem downF_set {k j : Nat} {xs : List Int} (h : j < xs.length) : (downF k j xs).set j (xs.getD j 0 / 2 ^ k) = downF k (j + 1) xs := by
  unfold downF
  rw [take_succ_getD h, List.map_append, List.append_assoc]
  have hl : ((xs.take j).map (· / 2 ^ k)).length = j := by simp; omega
  rw [List.set_append_right _ _ (by omega), hl, Nat.sub_self, drop_cons h]
  rfl
/-- A row of the call's own that is not empty: its block, its cells, a store. -/
theorem OI.open_ {w : World} {base : Nat} {v : Value} {xs : List Int} (h : OI w base v xs) (h0 : 0 < xs.length) : ∃ g c, v = .slice (some ⟨g, 0, none⟩) xs.length c ∧ base ≤ g ∧ g < w.heap.size := by
  rcases h.2 with ⟨rfl, e⟩ | ⟨g, cap, cur, e, hb, hh, r⟩
  · omega
  · exact ⟨g, cap, e, hb, (Array.getElem?_eq_some_iff.1 hh).1⟩
theorem below_undrawn {w w' : World} {n : Nat} (h : Below (w.drewN n).heap.size (w.drewN n) w') : Below w.heap.size w w' := ⟨h.os, h.tape, h.output, h.size, h.block⟩
theorem OI.facts {w : World} {base g n c : Nat} {xs : List Int} (h : OI w base (.slice (some ⟨g, 0, none⟩) n c) xs) (j : Nat) (hj : j < xs.length) : w.cell? ⟨g, j, none⟩ = some (.int .i64 (xs.getD j 0)) ∧ w.frozen? ⟨g, j, none⟩ = false := by
  refine ⟨?_, ?_⟩
  · have := World.ownsRow.cells (g := g) h rfl j (.int .i64 (xs.getD j 0)) (iv_getD xs j hj)
    rwa [show (⟨g, 0, none⟩ : Addr).add j = ⟨g, j, none⟩ by unfold Addr.add; split <;> simp_all] at this
  · rcases h.2 with ⟨e, _⟩ | ⟨g', cap, cur, e, hb, hh, r⟩
    · cases e
    · cases e; simp [World.frozen?, hh]
theorem OI.set {w : World} {base g n c : Nat} {xs : List Int} (h : OI w base (.slice (some ⟨g, 0, none⟩) n c) xs) (j : Nat) (x : Int) (hj : j < xs.length) : OI (w.setCell ⟨g, j, none⟩ (.int .i64 x)) base (.slice (some ⟨g, 0, none⟩) n c) (xs.set j x) := by
  obtain ⟨h1, h2⟩ := h
  refine ⟨by simp [iv], ?_⟩
  rcases h2 with ⟨e, _⟩ | ⟨g', cap, cur, e, hb, hh, hc, hm, hs, ht⟩
  · cases e
  · cases e
    have hlen : (iv xs).length = xs.length := by simp [iv]
    have hjc : j < cur.size := by
      have h3 : cur.toList.take xs.length = iv xs := by simpa using ht
      have := congrArg List.length h3
      simp [iv] at this
      omega
    refine .inr ⟨g, c, cur.setIfInBounds j (.int .i64 x), by simp, hb, ?_, by simpa using hc, hm, by simpa using hs, ?_⟩
    · simp [World.setCell, Array.getElem?_modify, hh]
    · have h3 : cur.toList.take xs.length = iv xs := by simpa using ht
      simp only [List.length_set, Nat.mul_one, Array.toList_setIfInBounds]
      rw [List.take_set, h3]
      simp [iv]
set_option maxRecDepth 10000 in
set_option maxHeartbeats 1000000 in
theorem down_any (A : Option Addr) (ca : Nat) (xs : List Int) (k : Nat) (w : World) (hR : RI w A xs) (hl : xs.length ≤ 1000000) (hk : k ≤ 15) (hx : ∀ x ∈ xs, -131072 ≤ x ∧ x ≤ 131072) (hd : ∀ x ∈ xs, (2 : Int) ^ k ∣ x) :
    Calls Tryz.prog 38 #[.slice A xs.length ca, .int .i64 k] w fun e w' => ∃ v, e = .returned (.tuple #[v, .int .i64 0]) ∧ OI w' w.heap.size v (xs.map (· / 2 ^ k)) ∧ Below w.heap.size w w' := by
  have em : mayB xs k = true := by
    unfold mayB
    have : xs.any oddB = false := by rw [List.any_eq_false]; intro x h; rw [oddB_false.2 (hx x h)]; decide
    rw [this]; simp; omega
  have HM := Lib.hid (shMayB_any A ca xs k w hR hl)
  rw [em] at HM
  have HR := Lib.hid hR
  have HX := Lib.hid hx
  have HD := Lib.hid hd
  have HC := Lib.hid (fun m => clone_any A ca xs (w.drewN m) (hR.drewN m) hl)
  have k0 : (0 : Int) ≤ k := by omega
  have k1 : (k : Int) ≤ 15 := by omega
  clear hR em hx hd
  go_enter Tryz.func38, Tryz.ntmps38
  go_wp2_with (first | (go_at_call 56; refine HM.out.mono ?_; rintro e w' ⟨rfl, nd, rfl⟩))
  refine (HC.out _).mono ?_
  rintro e w1 ⟨v, rfl, hO, hb⟩
  rcases Nat.eq_zero_or_pos xs.length with hz | hz
  · obtain rfl := List.eq_nil_of_length_eq_zero hz
    obtain ⟨A1, c1, rfl, hR1, -⟩ := hO.slice
    have HO := Lib.hid hO
    have HB := Lib.hid hb
    clear hO hb hR1 hz
    go_wp2_with fail
    go_loopg [17] 0 (fun g a wr => a = .int .i64 0 ∧ wr = w1)
    case atStart => exact ⟨rfl, rfl⟩
    case round =>
      obtain ⟨rfl, rfl⟩ := hrel
      go_wp2
      go_ret2
      exact ⟨_, rfl, HO.out, below_undrawn HB.out⟩
  · obtain ⟨g, c1, rfl, hg, -⟩ := hO.open_ hz
    have HO := Lib.hid hO
    have HB := Lib.hid hb
    clear hO hb
    go_wp2_with fail
    go_loopg [17] xs.length (fun q a wr => ∃ j : Nat, j ≤ xs.length ∧ q = xs.length - j ∧ a = .int .i64 j ∧ OI wr w.heap.size (.slice (some ⟨g, 0, none⟩) xs.length c1) (downF k j xs) ∧ Below w.heap.size w wr)
    case atStart => exact ⟨0, by omega, by omega, rfl, by simpa [downF] using HO.out, below_undrawn HB.out⟩
    case round =>
      obtain ⟨j, hj, hk, rfl, hO, hB⟩ := hrel
      have hk' := Lib.hid hk
      have hO' := Lib.hid hO
      have hB' := Lib.hid hB
      clear hk hO hB
      by_cases hlt : j < xs.length
      · have q0 : (0 : Int) ≤ j := by omega
        have q1 : (j : Int) < xs.length := by omega
        obtain ⟨c2, f2⟩ := hO'.out.facts j (by rw [downF_length]; exact hlt)
        rw [downF_at hlt] at c2
        obtain ⟨x, hx⟩ : ∃ x, xs.getD j 0 = x := ⟨_, rfl⟩
        rw [hx] at c2
        have bx : -131072 ≤ x ∧ x ≤ 131072 := HX.out x (hx ▸ getD_mem hlt)
        have hne : (wrap64 (x / 2 ^ k * 2 ^ k) != x) = false := by
          obtain ⟨y, hy⟩ := HD.out x (hx ▸ getD_mem hlt)
          rw [bne_eq_false_iff_eq, Int.ediv_mul_cancel ⟨y, hy⟩]
          unfold wrap64; omega
        have hx' := Lib.hid hx
        clear hx
        go_wp2
        go_roundg (xs.length - (j + 1))
        case measure => have := hk'.out; omega
        case rel =>
          refine ⟨j + 1, by omega, rfl, by go_num, ?_, ?_⟩
          · have := hO'.out.set j (x / 2 ^ k) (by rw [downF_length]; exact hlt)
            have e2 := downF_set (k := k) hlt
            rw [hx'.out] at e2
            rwa [e2] at this
          · exact hB'.out.setCell (p := ⟨g, j, none⟩) (by exact hg) _
      · obtain rfl : j = xs.length := by omega
        have e1 : downF k xs.length xs = xs.map (· / 2 ^ k) := by unfold downF; simp
        rw [e1] at hO'
        go_wp2
        go_ret2
        exact ⟨_, rfl, hO'.out, hB'.out⟩
end Dsc
end
section
/- The walk of package residual's state: next; of its writer: bit. -/
set_option linter.unusedVariables false
set_option linter.unusedSimpArgs false
namespace Dsc
open Go Go.RowKit
open Go.Proofs

set_option maxRecDepth 10000 in
set_option maxHeartbeats 1000000 in
theorem nextS_any (w0 : World) (base g : Nat) (t : TypeId) (m : Model) (before : Int) (bits : List Int) (rest : List Value) (w : World) (hS : StI w0 base w g t m before bits rest) (hl : bits.length ≤ 1000) :
    Calls Tryz.prog 87 #[.pointer (some ⟨g, 0, none⟩)] w fun e w' => e = .returned (.tuple #[]) ∧ StN w0 w' g t m (ones bits) rest ∧ Fr g w.heap.size w w' := by
  obtain ⟨A, c, ho, hr, hk⟩ := hS.own
  have hz := m.cells_size hS.ok
  have c0 := stL_at hk hS.ok 0
  have c1 := stL_at hk hS.ok 1
  have f0 := hk.frozen 195
  have f1 := hk.frozen 196
  simp at c0 c1
  have gl := hk.lt
  have HS := Lib.hid hS
  have HR := Lib.hid hr
  have HK := Lib.hid hk
  clear hS ho hr hk
  go_enter Tryz.func87, Tryz.ntmps87
  go_wp2_with fail
  refine (ones_any A c bits w HR.out (by omega)).mono ?_
  rintro e w' ⟨rfl, rfl⟩
  go_wp2
  go_end0
  have K1 := stL_before (b' := (ones bits : Int)) HK.out HS.out.ok
  have K2 := stL_bits (A' := none) (n' := 0) (c' := 0) K1 HS.out.ok
  have F := ((Fr.refl g w.heap.size w).setCell 195 (.int .i64 (ones bits))).setCell 196 (.slice none 0 0)
  exact ⟨rfl, ⟨HS.out.ok, HS.out.tab, HS.out.hg, HS.out.below.trans (F.below HS.out.hg gl), K2⟩, F⟩
set_option maxRecDepth 10000 in
set_option maxHeartbeats 1000000 in
theorem bitW_any (w0 : World) (base g : Nat) (t : TypeId) (m : Model) (before : Int) (bits : List Int) (c : Coder) (b : Int) (w : World) (hS : StI w0 base w g t m before bits [.int .i64 c.low, .int .i64 c.high, .string (bs c.out)])
    (hc : c.Ok) (h5 : c.out.length ≤ 65532) (hb : b = 0 ∨ b = 1) (hbit : ∀ b ∈ bits, b = 0 ∨ b = 1) (hl : bits.length ≤ 60) (h0 : 0 ≤ before) (h1 : before ≤ 63) :
    Calls Tryz.prog 86 #[.pointer (some ⟨g, 0, none⟩), .int .i64 b] w fun e w' => e = .returned (.int .i64 0) ∧
      StI w0 base w' g t (learnM m before bits b) before (bits ++ [b]) [.int .i64 (bitC c b (chanceM m before bits)).low, .int .i64 (bitC c b (chanceM m before bits)).high, .string (bs (bitC c b (chanceM m before bits)).out)] ∧ Fr g base w w' := by
  obtain ⟨A, cc, ho, hr, hk⟩ := hS.own
  have hz := m.cells_size hS.ok
  obtain ⟨q, hq⟩ : ∃ q, chanceM m before bits = q := ⟨_, rfl⟩
  have q12 : 1 ≤ q ∧ q ≤ 4095 := hq ▸ Model.P_bd m _
  obtain ⟨n0, n1, n2, hx, k0, k1, k2⟩ : ∃ n0 n1 n2 : Nat, ctxOf before bits = ⟨n0, n1, n2⟩ ∧ n0 < 64 ∧ n1 < 64 ∧ n2 < 64 := by
    obtain ⟨a0, a1, a2⟩ := ctxOf_ok bits h0
    refine ⟨(ctxOf before bits).x0.toNat, (ctxOf before bits).x1.toNat, (ctxOf before bits).x2.toNat, ?_, by omega, by omega, by omega⟩
    rw [Int.toNat_of_nonneg a0.1, Int.toNat_of_nonneg a1.1, Int.toNat_of_nonneg a2.1]
  have HC := Lib.hid (show Calls Tryz.prog 103 #[.pointer (some ⟨g, 0, none⟩)] w fun e w' => e = .returned (.tuple #[.int .i64 q, .agg #[.int .i64 n0, .int .i64 n1, .int .i64 n2]]) ∧ Below w.heap.size w w' from by
    have := chanceS_any g t m before A cc bits _ w hS.ok hS.tabw h0 h1 (by omega) hbit hr hk
    rw [hq, hx] at this
    exact this)
  have el : learnM m before bits b = m.learn ⟨n0, n1, n2⟩ b := by unfold learnM; rw [hx]
  rw [hq, el]
  clear hx el hq
  obtain ⟨c', hc'⟩ : ∃ c', bitC c b q = c' := ⟨_, rfl⟩
  have HB := Lib.hid (fun W => hc' ▸ bitC_any c.low c.high c.out b q W hc hb q12.1 q12.2 h5)
  rw [hc']
  clear hc'
  obtain ⟨cl, ch, co⟩ := c
  obtain ⟨cl', ch', co'⟩ := c'
  have HS := Lib.hid hS
  have HR := Lib.hid hr
  have HO := Lib.hid ho
  have HK := Lib.hid hk
  have Hbit := Lib.hid hbit
  have Hb := Lib.hid hb
  have gl := hk.lt
  have hgb := hS.hb
  clear hS ho hr hk hbit hb hc q12
  simp only [] at HB HS HK ⊢
  go_enter Tryz.func86, Tryz.ntmps86
  go_wp2_with fail
  refine HC.out.mono ?_
  rintro e w1 ⟨rfl, hb1⟩
  have K1 := HK.out.kept hb1
  have c2 := stL_at K1 HS.out.ok 2
  have c3 := stL_at K1 HS.out.ok 3
  have c4 := stL_at K1 HS.out.ok 4
  simp at c2 c3 c4
  have gl1 := K1.lt
  have K1' := Lib.hid K1
  have HB1 := Lib.hid hb1
  clear K1 hb1
  go_wp2_with fail
  clear c2 c3 c4
  refine (HB.out _).mono ?_
  rintro e w2 ⟨rfl, hb2⟩
  have K2 := (K1'.out.alloc (.cells #[.int .i64 n0, .int .i64 n1, .int .i64 n2] 95)).kept hb2
  have X2 := (Blk.new w1 95 #[.int .i64 n0, .int .i64 n1, .int .i64 n2]).kept hb2
  have F2 : Fr g base w w2 := Fr.of_below (below_then (below_then HB1.out HB1.out.size ((Below.refl _ _).alloc (Nat.le_refl _) _)) (by have := HB1.out.size; simp; omega) hb2) HS.out.base_le
  have c2 := stL_at K2 HS.out.ok 2
  have c3 := stL_at K2 HS.out.ok 3
  have c4 := stL_at K2 HS.out.ok 4
  simp at c2 c3 c4
  have f2 := K2.frozen 197
  have f3 := K2.frozen 198
  have f4 := K2.frozen 199
  have gl2 := K2.lt
  have xl2 := X2.lt
  obtain ⟨x0, x1, x2, -, -, -, -⟩ := X2.facts3
  have K2' := Lib.hid K2
  have X2' := Lib.hid X2
  have F2' := Lib.hid F2
  have gx : g ≠ w1.heap.size := by omega
  have O2' := Lib.hid ((((HO.out.kept HB1.out).kept ((Below.refl w1.heap.size w1).alloc (Nat.le_refl _) (.cells #[.int .i64 n0, .int .i64 n1, .int .i64 n2] 95))).kept hb2))
  clear K2 X2 F2 hb2
  go_wp2_with fail
  obtain ⟨W, hW⟩ : ∃ W, W = ((((w2.setCell ⟨g, 197, none⟩ (.int .i64 cl')).setCell ⟨g, 198, none⟩ (.int .i64 ch')).setCell ⟨g, 199, none⟩ (.string (bs co'))).alloc (.cells #[.int .i64 cl', .int .i64 ch', .string (bs co')] 102)) := ⟨_, rfl⟩
  rw [← hW]
  have KW : Blk W g t (stL m before A bits.length cc [.int .i64 cl', .int .i64 ch', .string (bs co')]).toArray := by
    rw [hW]; exact (stL_rest (rest' := [.int .i64 cl', .int .i64 ch', .string (bs co')]) K2'.out HS.out.ok rfl).alloc _
  have FW : Fr g base w W := by
    rw [hW]
    exact (((F2'.out.setCell _ _).setCell _ _).setCell _ _).trans (Fr.of_below ((Below.refl _ _).alloc (Nat.le_refl _) _) (by have := F2'.out.size; have := HS.out.base_le; simp; omega))
  have XW : Blk W w1.heap.size 95 #[.int .i64 n0, .int .i64 n1, .int .i64 n2] := by
    rw [hW]; exact (((X2'.out.far (p := ⟨g, 197, none⟩) (by show w1.heap.size ≠ g; omega) _).far (p := ⟨g, 198, none⟩) (by show w1.heap.size ≠ g; omega) _).far (p := ⟨g, 199, none⟩) (by show w1.heap.size ≠ g; omega) _).alloc _
  have OW : OI W base (.slice A bits.length cc) bits := by
    rw [hW]; exact (((O2'.out.setCellFar hgb).setCellFar hgb).setCellFar hgb).kept ((Below.refl _ _).alloc (Nat.le_refl _) _)
  have SW : StI w0 base W g t m before bits [.int .i64 cl', .int .i64 ch', .string (bs co')] := ⟨HS.out.ok, HS.out.tab, HS.out.hg, hgb, HS.out.below.trans (FW.below HS.out.hg hgb), by have := FW.size; have := HS.out.base_le; omega, A, cc, OW, OW.ri, KW⟩
  obtain ⟨y0, y1, y2, -, -, -, -⟩ := XW.facts3
  have SW' := Lib.hid SW
  have FW' := Lib.hid FW
  clear hW KW FW XW OW SW x0 x1 x2 c2 c3 c4 f2 f3 f4 gl gl1 gl2 xl2 gx
  refine wp_region_any_drew (by kernel_rfl) ?_
  refine wpAny_take (i := 0) (v := .pointer (some ⟨g, 0, none⟩)) rfl (by decide +kernel) (by decide +kernel) (by decide +kernel) (fun _ _ _ h => h) (Or.inl ⟨by rfl, fun w => by rfl⟩) ?_
  try simp only [Act.put, Array.toArray_toList, List.getElem_toArray, List.getElem_cons_zero, List.getElem_cons_succ, List.setIfInBounds_toArray, List.set_cons_zero, List.set_cons_succ]
  refine wpAny_take (i := 1) (v := .pointer (some ⟨g, 0, none⟩)) rfl (by decide +kernel) (by decide +kernel) (by decide +kernel) (fun _ _ _ h => h) (Or.inl ⟨by rfl, fun w => by rfl⟩) ?_
  try simp only [Act.put, Array.toArray_toList, List.getElem_toArray, List.getElem_cons_zero, List.getElem_cons_succ, List.setIfInBounds_toArray, List.set_cons_zero, List.set_cons_succ]
  refine wpAny_take (i := 2) (v := .pointer (some ⟨g, 0, none⟩)) rfl (by decide +kernel) (by decide +kernel) (by decide +kernel) (fun _ _ _ h => h) (Or.inl ⟨by rfl, fun w => by go_simp⟩) ?_
  try simp only [Act.put, Array.toArray_toList, List.getElem_toArray, List.getElem_cons_zero, List.getElem_cons_succ, List.setIfInBounds_toArray, List.set_cons_zero, List.set_cons_succ]
  refine wpAny_take (i := 4) (v := .int .i64 b) rfl (by decide +kernel) (by decide +kernel) (by decide +kernel) (fun _ _ _ h => h) (Or.inl ⟨by rfl, fun w => by rfl⟩) ?_
  try simp only [Act.put, Array.toArray_toList, List.getElem_toArray, List.getElem_cons_zero, List.getElem_cons_succ, List.setIfInBounds_toArray, List.set_cons_zero, List.set_cons_succ]
  refine wpAny_all (rs := [3]) (by decide +kernel) (by simp) ?_
  intro i hi
  obtain rfl : i = 3 := by simpa using hi
  refine wpOp_value (w' := W.drew) (v := .agg #[.int .i64 n0, .int .i64 n1, .int .i64 n2]) rfl (by rfl) (by go_simp) ?_
  try simp only [Act.put, Array.toArray_toList, List.getElem_toArray, List.getElem_cons_zero, List.getElem_cons_succ, List.setIfInBounds_toArray, List.set_cons_zero, List.set_cons_succ]
  refine wpAny_all (rs := [5]) (by decide +kernel) (by simp) ?_
  intro i hi
  obtain rfl : i = 5 := by simpa using hi
  refine wpOp_gen rfl (by rfl) ?_
  intro K' hK'
  go_simp
  refine (learnS_any w0 base g t m before bits _ n0 n1 n2 b W.drew SW'.out.drew Hb.out k0 k1 k2 (by omega)).mono ?_
  rintro e w3 ⟨rfl, hS3, hF3⟩
  refine hK' _ _ ?_
  clear hK'
  try simp only [Act.put, Array.toArray_toList, List.getElem_toArray, List.getElem_cons_zero, List.getElem_cons_succ, List.setIfInBounds_toArray, List.set_cons_zero, List.set_cons_succ]
  refine wpAny_done (by decide +kernel) ?_ _
  have HS3 := Lib.hid hS3
  have HF3 := Lib.hid hF3
  clear hS3 hF3
  go_wp2
  go_ret
  exact ⟨rfl, HS3.out, FW'.out.trans HF3.out.undrew⟩
end Dsc
end
section
/- The walks of package residual's writer: number; of residual.Put. -/
set_option linter.unusedVariables false
set_option linter.unusedSimpArgs false
namespace Dsc
open Go Go.RowKit
open Go.Proofs

/-- A coder's cells. -/
def ccells (c : Coder) : List Value := [.int .i64 c.low, .int .i64 c.high, .string (bs c.out)]
set_option maxRecDepth 10000 in
set_option maxHeartbeats 1000000 in
theorem numW_any (w0 : World) (g : Nat) (t : TypeId) (m : Model) (before x : Int) (c : Coder) (w : World) (hS : StN w0 w g t m before (ccells c))
    (hc : c.Ok) (h5 : c.out.length ≤ 65000) (h0 : 0 ≤ before) (h1 : before ≤ 63) (hx0 : -16777216 ≤ x) (hx1 : x ≤ 16777216) :
    Calls Tryz.prog 63 #[.pointer (some ⟨g, 0, none⟩), .int .i64 x] w fun e w' => e = .returned (.bool true) ∧
      StN w0 w' g t (putBits chanceM learnM before c m [] (gbits (fput x))).2 (ones (gbits (fput x))) (ccells (putBits chanceM learnM before c m [] (gbits (fput x))).1) ∧ Fr g w.heap.size w w' := by
  obtain ⟨u, hu⟩ : ∃ u, fput x = u := ⟨_, rfl⟩
  have u0 : 0 ≤ u ∧ u ≤ 33554432 := by rw [← hu]; unfold fput; split <;> omega
  have HF := Lib.hid (fun W => hu ▸ foldPut_any x W hx0 hx1)
  rw [hu]
  clear hu
  obtain ⟨G, hG⟩ : ∃ G, gbits u = G := ⟨_, rfl⟩
  have HG := Lib.hid (fun W => hG ▸ bits_any u W u0.1 u0.2)
  have lG : G.length ≤ 51 := by
    rw [← hG, gbits_length]
    have := width_le (v := u + 1) (k := 26) (by omega) (by decide)
    omega
  have bG : ∀ b ∈ G, b = 0 ∨ b = 1 := hG ▸ gbits_bit u
  rw [hG]
  clear hG
  obtain ⟨fin, hfin⟩ : ∃ fin, putBits chanceM learnM before c m [] G = fin := ⟨_, rfl⟩
  rw [hfin]
  have Hfin := Lib.hid hfin
  clear hfin
  have gl := hS.blk.lt
  have HS := Lib.hid hS
  have HB := Lib.hid bG
  have Hc := Lib.hid hc
  clear hS bG hc
  go_enter Tryz.func63, Tryz.ntmps63
  go_wp2_with fail
  refine (HF.out _).mono ?_
  rintro e w' ⟨rfl, rfl⟩
  go_wp2_with fail
  refine (HG.out _).mono ?_
  rintro e w1 ⟨v, rfl, hO, hb1⟩
  obtain ⟨A, ca, rfl, hR, -⟩ := hO.slice
  have HO := Lib.hid hO
  have S1 := Lib.hid (HS.out.kept hb1)
  have HB1 := Lib.hid hb1
  have gl1 : g < w1.heap.size := by have := hb1.size; omega
  clear hO hR hb1
  go_wp2_with fail
  go_loopg [25] G.length (fun k a wr => ∃ (j : Nat) (cj : Coder) (mj : Model), j ≤ G.length ∧ k = G.length - j ∧ a = .int .i64 j ∧ putBits chanceM learnM before cj mj (G.take j) (G.drop j) = fin ∧ cj.Ok ∧ cj.out.length ≤ c.out.length + 4 * j ∧ StI w0 w1.heap.size wr g t mj before (G.take j) (ccells cj) ∧ Fr g w1.heap.size w1 wr)
  case atStart => exact ⟨0, c, m, by omega, by omega, rfl, by simpa using Hfin.out, Hc.out, by omega, S1.out.st gl1 (Nat.le_refl _), Fr.refl _ _ _⟩
  case round =>
    obtain ⟨j, cj, mj, hj, hk, rfl, hp, hcj, hlj, hS, hF⟩ := hrel
    have hk' := Lib.hid hk
    have hp' := Lib.hid hp
    have hc' := Lib.hid hcj
    have hS' := Lib.hid hS
    have hF' := Lib.hid hF
    clear hk hp hcj hS hF
    by_cases hlt : j < G.length
    · have q0 : (0 : Int) ≤ j := by omega
      have q1 : (j : Int) < G.length := by omega
      have RW := ((HO.out.fr hF'.out (Nat.le_refl _) gl)).ri
      obtain ⟨ad, hA, hcell⟩ := RW.at_ hlt
      obtain ⟨x, hx⟩ : ∃ x, G.getD j 0 = x := ⟨_, rfl⟩
      rw [hx] at hcell
      have bx : x = 0 ∨ x = 1 := HB.out x (hx ▸ getD_mem hlt)
      have hx' := Lib.hid hx
      have HA := Lib.hid hA
      have Bx := Lib.hid bx
      clear hx RW bx
      subst hA
      go_wp2_with fail
      refine (bitW_any w0 w1.heap.size g t mj before (G.take j) cj x wr hS'.out hc'.out (by omega) Bx.out (fun b hb => HB.out b (List.mem_of_mem_take hb)) (by simp; omega) h0 h1).mono ?_
      rintro e w3 ⟨rfl, hS3, hF3⟩
      have hS3' := Lib.hid hS3
      have hF3' := Lib.hid hF3
      clear hS3 hF3
      go_wp2
      go_roundg (G.length - (j + 1))
      case measure => have := hk'.out; omega
      case rel =>
        have ed : G.drop j = x :: G.drop (j + 1) := by rw [drop_cons hlt, hx'.out]
        have et : G.take (j + 1) = G.take j ++ [x] := by
          rw [List.take_add_one, List.getElem?_eq_getElem hlt]
          have := hx'.out
          rw [List.getD_eq_getElem?_getD, List.getElem?_eq_getElem hlt] at this
          simp at this
          simp [this]
        have q12 := Model.P_bd mj (ctxOf before (G.take j))
        obtain ⟨o1, o2, -⟩ := bitC_ok (b := x) hc'.out q12.1 q12.2
        refine ⟨j + 1, _, _, by omega, rfl, by go_num, ?_, o1, ?_, et ▸ hS3'.out, hF'.out.trans hF3'.out⟩
        · rw [et]
          have := hp'.out
          rw [ed] at this
          exact this
        · have : (bitC cj x (chanceM mj before (G.take j))).out.length ≤ cj.out.length + 4 := o2
          show (bitC cj x (chanceM mj before (G.take j))).out.length ≤ _
          omega
    · obtain rfl : j = G.length := by omega
      have eT : G.take G.length = G := List.take_length
      have eD : G.drop G.length = [] := List.drop_length
      go_wp2_with fail
      refine (nextS_any w0 w1.heap.size g t mj before (G.take G.length) (ccells cj) wr hS'.out (by simp; omega)).mono ?_
      rintro e w3 ⟨rfl, hS3, hF3⟩
      have hS3' := Lib.hid hS3
      have hF3' := Lib.hid hF3
      clear hS3 hF3
      go_wp2
      go_ret
      have e1 := hp'.out
      rw [eD] at e1
      simp only [putBits] at e1
      have e2 := hS3'.out
      rw [eT] at e2
      rw [← e1]
      exact ⟨rfl, e2, (Fr.of_below HB1.out (Nat.le_refl _)).trans (Fr.trans ⟨hF'.out.os, hF'.out.tape, hF'.out.output, hF'.out.size, fun k a b => hF'.out.block k (by have := HB1.out.size; omega) b⟩ ⟨hF3'.out.os, hF3'.out.tape, hF3'.out.output, hF3'.out.size, fun k a b => hF3'.out.block k (by have := HB1.out.size; have := hF'.out.size; omega) b⟩)⟩
end Dsc
end
section
/- The walk of residual.Put. -/
set_option linter.unusedVariables false
set_option linter.unusedSimpArgs false
namespace Dsc
open Go Go.RowKit
open Go.Proofs

theorem wpList_built {P : Program} {ops : Array Oper} {rest : List Oper} {o : Oper} {a : Act} {w : World} {Q : Exit → Act → World → Prop} (hg : o.guard = none) (t : TypeId) (parts : Array (Nat × Operand)) (ho : o.op = .build t parts)
    (l : List (Nat × Value)) (cells : Array Value) (hl : (parts.map fun (i, x) => (i, a.eval x)).toList = l) (hb : P.built t l = some cells)
    (h : wpList P ops Q rest (a.put o.dst (.agg cells)) w) : wpList P ops Q (o :: rest) a w := by
  subst hl
  refine wpList_build hg t parts ho (by rw [hb]; rfl) ?_
  rw [hb]
  exact h
theorem built1 : Program.built Tryz.prog 100 [(0, .agg newM.cells)] = some (stL newM 0 none 0 0 []).toArray := by kernel_rfl
theorem built2 : Program.built Tryz.prog 105 [(0, .agg (stL newM 0 none 0 0 []).toArray), (1, .agg #[.int .i64 0, .int .i64 4294967295, .string ⟨#[]⟩])] = some (stL newM 0 none 0 0 (ccells newC)).toArray := by kernel_rfl
set_option maxRecDepth 10000 in
set_option maxHeartbeats 400000 in
theorem resPut_any (A : Option Addr) (ca : Nat) (rs : List Int) (w : World) (hT : TabW w) (hR : RI w A rs) (hl : rs.length ≤ 128) (hr : ∀ r ∈ rs, -16777216 ≤ r ∧ r ≤ 16777216) :
    Calls Tryz.prog 41 #[.slice A rs.length ca] w fun e w' => e = .returned (.tuple #[.string (bs (rput rs)), .int .i64 0]) ∧ Below w.heap.size w w' := by
  have HT := Lib.hid hT
  have HR := Lib.hid hR
  have Hr := Lib.hid hr
  clear hT hR hr
  obtain ⟨N0, N1, N2, H0, H1, H2, hN2⟩ : ∃ N0 N1 N2 : Array Value, Hid (∀ W, Calls Tryz.prog 61 #[] W fun e w' => e = .returned (.agg N0) ∧ Below W.heap.size W w') ∧ Hid (Program.built Tryz.prog 100 [(0, .agg N0)] = some N1) ∧ Hid (Program.built Tryz.prog 105 [(0, .agg N1), (1, .agg #[.int .i64 0, .int .i64 4294967295, .string ⟨#[]⟩])] = some N2) ∧ Hid (N2 = (stL newM 0 none 0 0 (ccells newC)).toArray) :=
    ⟨newM.cells, (stL newM 0 none 0 0 []).toArray, (stL newM 0 none 0 0 (ccells newC)).toArray, Lib.hid newM_any, Lib.hid built1, Lib.hid built2, Lib.hid rfl⟩
  go_enter Tryz.func41, Tryz.ntmps41
  go_wp2_with fail
  refine (H0.out w).mono ?_
  rintro e w1 ⟨rfl, hb1⟩
  have HB1 := Lib.hid hb1
  clear hb1
  go_wp2_with (first | (refine wpList_built rfl 100 #[(0, .tmp 13)] rfl [(0, .agg N0)] N1 (by simp [Act.eval]) H1.out ?_))
  refine (newC_any _).mono ?_
  rintro e w2 ⟨rfl, hb2⟩
  have HB2 := Lib.hid hb2
  clear hb2
  go_wp2_with (first | (refine wpList_built rfl 105 #[(0, .tmp 14), (1, .tmp 15)] rfl [(0, .agg N1), (1, .agg #[.int .i64 0, .int .i64 4294967295, .string ⟨#[]⟩])] N2 (by simp [Act.eval]) H2.out ?_))
  have gg : w.heap.size ≤ w2.heap.size := by have := HB1.out.size; have := HB2.out.size; omega
  have S0 : StN w (w2.alloc (.cells N2 105)) w2.heap.size 105 newM 0 (ccells newC) :=
    ⟨newM_ok, HT.out, gg, (below_then HB1.out HB1.out.size HB2.out).alloc gg _, by rw [← hN2.out]; exact Blk.new _ _ _⟩
  obtain ⟨g, hg⟩ : ∃ g, g = w2.heap.size := ⟨_, rfl⟩
  have gw : w.heap.size ≤ g := by omega
  obtain ⟨W0, hW⟩ : ∃ W0, W0 = w2.alloc (.cells N2 105) := ⟨_, rfl⟩
  rw [← hg, ← hW] at S0
  rw [← hg, ← hW]
  have S0' := Lib.hid S0
  have gl0 : g < W0.heap.size := S0.blk.lt
  clear S0 hW hg gg
  obtain ⟨fin, hfin⟩ : ∃ fin, putAll chanceM learnM newC newM 0 rs = fin := ⟨_, rfl⟩
  have Hfin := Lib.hid hfin
  clear hfin
  go_loopg [22] rs.length (fun k a wr => ∃ (j : Nat) (cj : Coder) (mj : Model) (bj : Int), j ≤ rs.length ∧ k = rs.length - j ∧ a = .int .i64 j ∧ putAll chanceM learnM cj mj bj (rs.drop j) = fin ∧ cj.Ok ∧ cj.out.length ≤ 204 * j ∧ 0 ≤ bj ∧ bj ≤ 63 ∧ StN w wr g 105 mj bj (ccells cj))
  case atStart => exact ⟨0, newC, newM, 0, by omega, by omega, rfl, by simpa using Hfin.out, by unfold Coder.Ok Ends newC; simp, by simp [newC], by omega, by omega, S0'.out⟩
  case round =>
    obtain ⟨j, cj, mj, bj, hj, hk, rfl, hp, hcj, hlj, hb0, hb1, hS⟩ := hrel
    have hk' := Lib.hid hk
    have hp' := Lib.hid hp
    have hc' := Lib.hid hcj
    have hS' := Lib.hid hS
    have gl := hS.blk.lt
    clear hk hp hcj hS
    by_cases hlt : j < rs.length
    · have q0 : (0 : Int) ≤ j := by omega
      have q1 : (j : Int) < rs.length := by omega
      obtain ⟨ad, hA, hcell⟩ := (HR.out.kept hS'.out.below).at_ hlt
      obtain ⟨x, hx⟩ : ∃ x, rs.getD j 0 = x := ⟨_, rfl⟩
      rw [hx] at hcell
      have bx : -16777216 ≤ x ∧ x ≤ 16777216 := Hr.out x (hx ▸ getD_mem hlt)
      have hx' := Lib.hid hx
      have Bx := Lib.hid bx
      clear hx bx
      subst hA
      go_wp2_with fail
      refine (numW_any w g 105 mj bj x cj wr hS'.out hc'.out (by omega) hb0 hb1 Bx.out.1 Bx.out.2).mono ?_
      rintro e w3 ⟨rfl, hS3, hF3⟩
      have hS3' := Lib.hid hS3
      clear hS3 hF3
      go_wp2
      go_roundg (rs.length - (j + 1))
      case measure => have := hk'.out; omega
      case rel =>
        have ed : rs.drop j = x :: rs.drop (j + 1) := by rw [drop_cons hlt, hx'.out]
        have u0 : 0 ≤ fput x ∧ fput x ≤ 33554432 := by have := Bx.out; unfold fput; split <;> omega
        have wd := width_le (v := fput x + 1) (k := 26) (by omega) (by decide)
        obtain ⟨o1, -, o2, -⟩ := putBits_ok chanceM learnM fairM (before := bj) ⟨hb0, hb1⟩ (gbits (fput x)) [] cj mj hc'.out hS'.out.ok (by simpa using gbits_bit _) (by rw [gbits_length]; simp; omega)
        rw [gbits_length] at o2
        refine ⟨j + 1, _, _, _, by omega, rfl, by go_num, ?_, o1, by omega, by omega, by rw [ones_gbits]; omega, hS3'.out⟩
        have := hp'.out
        rw [ed] at this
        exact this
    · obtain rfl : j = rs.length := by omega
      have eD : rs.drop rs.length = [] := List.drop_length
      have ef := hp'.out
      rw [eD] at ef
      simp only [putAll] at ef
      have Hef := Lib.hid ef
      clear ef eD
      have c2 := stL_at hS'.out.blk hS'.out.ok 2
      have c3 := stL_at hS'.out.blk hS'.out.ok 3
      have c4 := stL_at hS'.out.blk hS'.out.ok 4
      simp [ccells] at c2 c3 c4
      go_wp2_with fail
      refine (endC_any cj.low cj.high cj.out wr hc'.out (by omega)).mono ?_
      rintro e w3 ⟨rfl, hb3⟩
      have HB3 := Lib.hid hb3
      clear hb3 c2 c3 c4
      go_wp2
      go_ret2
      refine ⟨?_, below_then hS'.out.below hS'.out.below.size HB3.out⟩
      have e1 : rput rs = endC cj := by unfold rput; rw [Hfin.out, ← Hef.out]
      rw [e1]
      rfl
end Dsc
end
section
/- The contracts of this session in the printed texts' shape: what the printed texts of the encoder call. -/
set_option linter.unusedVariables false
set_option linter.unusedSimpArgs false
namespace Go.Proofs.YtbapmfghipcebaaGreatDoor.S
open Go Go.RowKit Go.Proofs Go.Proofs.YtbapmfghipcebaaGreatDoorW.PrintWords

theorem ri_of {w : World} {A : Option Addr} {l : List Int} (h : Kd.C (Kd.int .i64) w A l.length l) : Dsc.RI w A l := fun h0 => by
  obtain ⟨ad, e, hc⟩ := h.2.2 h0
  refine ⟨ad, e, fun j hj => ?_⟩
  obtain ⟨c, hs, hr, hcell⟩ := hc j (l.getD j 0) (by rw [List.getD_eq_getElem?_getD, List.getElem?_eq_getElem hj]; rfl)
  have hr' : c = [Value.int .i64 (l.getD j 0)] := hr
  have := hcell 0 (.int .i64 (l.getD j 0)) (by rw [hr']; rfl)
  have e1 : j * (Kd.int IntKind.i64).sz + 0 = j := by show j * 1 + 0 = j; omega
  rwa [e1] at this
theorem rs_of {w : World} {A : Option Addr} {l : List (List Int)} (h : Kd.C (Kd.slice 3 (Kd.int .i64)) w A l.length l) : Dsc.RS w A l := fun j hj => by
  obtain ⟨ad, e, hc⟩ := h.2.2 (by omega)
  obtain ⟨c, hs, ⟨A', c', hr, _, hC⟩, hcell⟩ := hc j (l.getD j []) (by rw [List.getD_eq_getElem?_getD, List.getElem?_eq_getElem hj]; rfl)
  have := hcell 0 _ (by rw [hr]; rfl)
  have e1 : j * (Kd.slice 3 (Kd.int IntKind.i64)).sz + 0 = j := by show j * 1 + 0 = j; omega
  rw [e1] at this
  exact ⟨ad, A', c', e, this, ri_of hC⟩
theorem r_of_oi {w : World} {base : Nat} {v : Value} {l : List Int} (h : Dsc.OI w base v l) : Kd.R (Kd.int .i64) 3 w base (fun _ => True) v l := by
  refine ⟨fun _ _ => trivial, Dsc.iv l, h, ?_, ?_⟩
  · show (Dsc.iv l).length = l.length * 1
    simp [Dsc.iv]
  · intro j p hp
    show ((Dsc.iv l).drop (j * 1)).take 1 = [Value.int .i64 p]
    obtain ⟨hj, hp'⟩ := List.getElem?_eq_some_iff.1 hp
    rw [Nat.mul_one, Dsc.iv, ← List.map_drop, ← List.map_take, List.drop_eq_getElem_cons hj, hp']
    rfl
/-- The tables' variables. -/
structure TW (w : World) : Prop where
  tab : Dsc.TabW w
  tz : Dsc.TzW w
theorem TW.of_ {w w' : World} (h : TW w) (hb : Below w.heap.size w w') : TW w' :=
  ⟨h.tab.of_ hb, fun j hj => (hb.cell (World.block_lt_of_cell? w _ (h.tz j hj))).trans (h.tz j hj)⟩

def crc_Sum.f (a0 : ByteArray) : Option Int := if a0.size ≤ 140737488351232 then some (Dsc.crc a0.data.toList) else none
theorem crc_Sum.calls (a0 : ByteArray) (r : Int) (w : World) (h : crc_Sum.f a0 = some r) :
    Calls Tryz.prog 29 #[.string a0] w fun e w' => e = .returned (.int .i64 r) ∧ Below w.heap.size w w' := by
  unfold crc_Sum.f at h
  split at h
  · cases h; exact Dsc.sum_any a0 w ‹_›
  · cases h
def descantref1_Crc.f (a0 : ByteArray) : Option Int := if a0.size ≤ 140737488351232 then some (Dsc.crc a0.data.toList) else none
theorem descantref1_Crc.calls (a0 : ByteArray) (r : Int) (w : World) (h : descantref1_Crc.f a0 = some r) :
    Calls Tryz.prog 16 #[.string a0] w fun e w' => e = .returned (.int .i64 r) ∧ Below w.heap.size w w' := by
  unfold descantref1_Crc.f at h
  split at h
  · cases h
    refine (Dsc.rsum_any a0 w ‹_›).mono ?_
    rintro e w' ⟨rfl, rfl⟩
    exact ⟨rfl, Below.refl _ _⟩
  · cases h
def slices_Clone_int_int.f (l : List Int) : Option (List Int) := if l.length ≤ 1000000 then some l else none
theorem slices_Clone_int_int.calls (A0 : Option Addr) (c0 : Nat) (l0 : List Int) (r : List Int) (w : World) (hr0 : Kd.C (Kd.int .i64) w A0 l0.length l0) (hc0 : l0.length ≤ c0) (h : slices_Clone_int_int.f l0 = some r) :
    Calls Tryz.prog 57 #[.slice A0 l0.length c0] w fun e w' => ∃ v0_ : Value, e = .returned v0_ ∧ Kd.R (Kd.int .i64) 3 w' w.heap.size (fun _ => True) v0_ r ∧ Below w.heap.size w w' := by
  unfold slices_Clone_int_int.f at h
  split at h
  · cases h
    refine (Dsc.clone_any A0 c0 l0 w (ri_of hr0) ‹_›).mono ?_
    rintro e w' ⟨v, rfl, ho, hb⟩
    exact ⟨v, rfl, r_of_oi ho, hb⟩
  · cases h
def strings_Repeat.f (s : ByteArray) (c : Int) : Option ByteArray := if 0 ≤ c ∧ c ≤ 9223372036854775807 ∧ s.size * c.toNat ≤ 140737488355328 then some ⟨(Lib.repeatL s.data.toList c.toNat).toArray⟩ else none
theorem strings_Repeat.calls (a0 : ByteArray) (a1 : Int) (r : ByteArray) (w : World) (h : strings_Repeat.f a0 a1 = some r) :
    Calls Tryz.prog 35 #[.string a0, .int .i64 a1] w fun e w' => e = .returned (.string r) ∧ Below w.heap.size w w' := by
  unfold strings_Repeat.f at h
  split at h
  · rename_i hc
    cases h
    have := Tryz.strings_Repeat a0 a1.toNat w (by omega) hc.2.2
    rwa [Int.toNat_of_nonneg hc.1] at this
  · cases h
def inS (l : List Int) : Bool := l.all fun x => decide (-131072 ≤ x) && decide (x ≤ 131072)
theorem inS_iff {l : List Int} : inS l = true ↔ ∀ x ∈ l, -131072 ≤ x ∧ x ≤ 131072 := by simp [inS]
def shift_may.f (l : List Int) (k : Int) : Option Bool := if l.length ≤ 1000000 then some (Dsc.mayB l k) else none
theorem shift_may.calls (A0 : Option Addr) (c0 : Nat) (l0 : List Int) (a1 : Int) (r : Bool) (w : World) (hr0 : Kd.C (Kd.int .i64) w A0 l0.length l0) (hc0 : l0.length ≤ c0) (h : shift_may.f l0 a1 = some r) :
    Calls Tryz.prog 56 #[.slice A0 l0.length c0, .int .i64 a1] w fun e w' => e = .returned (.bool r) ∧ Below w.heap.size w w' := by
  unfold shift_may.f at h
  split at h
  · cases h
    refine (Dsc.shMayB_any A0 c0 l0 a1 w (ri_of hr0) ‹_›).mono ?_
    rintro e w' ⟨rfl, n, rfl⟩
    exact ⟨rfl, Dsc.below_drewN (Below.refl _ _) n⟩
  · cases h
def shift_Down.f (l : List Int) (k : Int) : Option (List Int × Int) := if l.length ≤ 1000000 ∧ (0 ≤ k ∧ k ≤ 15) ∧ inS l = true ∧ (l.all fun x => decide ((2 : Int) ^ k.toNat ∣ x)) = true then some (l.map (· / 2 ^ k.toNat), 0) else none
theorem shift_Down.calls (A0 : Option Addr) (c0 : Nat) (l0 : List Int) (a1 : Int) (r1 : List Int) (r2 : Int) (w : World) (hr0 : Kd.C (Kd.int .i64) w A0 l0.length l0) (hc0 : l0.length ≤ c0) (h : shift_Down.f l0 a1 = some (r1, r2)) :
    Calls Tryz.prog 38 #[.slice A0 l0.length c0, .int .i64 a1] w fun e w' => ∃ v0_ : Value, e = .returned (.tuple #[v0_, .int .i64 r2]) ∧ Kd.R (Kd.int .i64) 3 w' w.heap.size (fun _ => True) v0_ r1 ∧ Below w.heap.size w w' := by
  unfold shift_Down.f at h
  split at h
  · rename_i hc
    cases h
    have := Dsc.down_any A0 c0 l0 a1.toNat w (ri_of hr0) hc.1 (by omega) (inS_iff.1 hc.2.2.1) (by simpa using hc.2.2.2)
    rw [Int.toNat_of_nonneg hc.2.1.1] at this
    refine this.mono ?_
    rintro e w' ⟨v, rfl, ho, hb⟩
    exact ⟨v, rfl, r_of_oi ho, hb⟩
  · cases h
def side_May.f (l : List (List Int)) : Option Bool := if l.length ≤ 1000000 ∧ (l.all fun x => decide (x.length ≤ 1000000)) = true then some (Dsc.mayS l) else none
theorem side_May.calls (A0 : Option Addr) (c0 : Nat) (l0 : List (List Int)) (r : Bool) (w : World) (hr0 : Kd.C (Kd.slice 3 (Kd.int .i64)) w A0 l0.length l0) (hc0 : l0.length ≤ c0) (h : side_May.f l0 = some r) :
    Calls Tryz.prog 79 #[.slice A0 l0.length c0] w fun e w' => e = .returned (.bool r) ∧ Below w.heap.size w w' := by
  unfold side_May.f at h
  split at h
  · rename_i hc
    cases h
    refine (Dsc.sideMay_any A0 c0 l0 w (rs_of hr0) hc.1 (by simpa using hc.2)).mono ?_
    rintro e w' ⟨rfl, n, rfl⟩
    exact ⟨rfl, Dsc.below_drewN (Below.refl _ _) n⟩
  · cases h
def segment_wasted.f (l : List (List Int)) : Option Int := if l.length ≤ 1000000 ∧ (l.all fun x => decide (x.length ≤ 1000000)) = true ∧ l.all inS = true then some (Dsc.wasteAll l : Int) else none
theorem segment_wasted.calls (A0 : Option Addr) (c0 : Nat) (l0 : List (List Int)) (r : Int) (w : World) (hr0 : Kd.C (Kd.slice 3 (Kd.int .i64)) w A0 l0.length l0) (hc0 : l0.length ≤ c0) (h : segment_wasted.f l0 = some r) (htw : TW w) :
    Calls Tryz.prog 37 #[.slice A0 l0.length c0] w fun e w' => e = .returned (.int .i64 r) ∧ Below w.heap.size w w' := by
  unfold segment_wasted.f at h
  split at h
  · rename_i hc
    cases h
    refine (Dsc.wastedAll_any A0 c0 l0 w (rs_of hr0) hc.1 htw.tz (by simpa using hc.2.1) (fun xs hx => inS_iff.1 (List.all_eq_true.1 hc.2.2 xs hx))).mono ?_
    rintro e w' ⟨rfl, n, rfl⟩
    exact ⟨rfl, Dsc.below_drewN (Below.refl _ _) n⟩
  · cases h
def line_Put.f (l : List Int) : Option (List Int × Int) := if l.length ≤ 128 ∧ inS l = true then (Dsc.lput Dsc.zeroC l).map (·, 0) else none
theorem line_Put.calls (A0 : Option Addr) (c0 : Nat) (l0 : List Int) (r1 : List Int) (r2 : Int) (w : World) (hr0 : Kd.C (Kd.int .i64) w A0 l0.length l0) (hc0 : l0.length ≤ c0) (h : line_Put.f l0 = some (r1, r2)) :
    Calls Tryz.prog 40 #[.slice A0 l0.length c0] w fun e w' => ∃ v0_ : Value, e = .returned (.tuple #[v0_, .int .i64 r2]) ∧ Kd.R (Kd.int .i64) 3 w' w.heap.size (fun _ => True) v0_ r1 ∧ Below w.heap.size w w' := by
  unfold line_Put.f at h
  split at h
  · rename_i hc
    obtain ⟨rs, hrs, e⟩ := Option.map_eq_some_iff.1 h
    cases e
    refine (Dsc.putL_any A0 c0 l0 w (ri_of hr0) hc.1 (inS_iff.1 hc.2)).mono ?_
    rintro e w' ⟨v, rs, rfl, h1, ho, hb⟩
    rw [hrs] at h1
    cases h1
    exact ⟨v, rfl, r_of_oi ho, hb⟩
  · cases h
def inR (l : List Int) : Bool := l.all fun x => decide (-16777216 ≤ x) && decide (x ≤ 16777216)
theorem inR_iff {l : List Int} : inR l = true ↔ ∀ x ∈ l, -16777216 ≤ x ∧ x ≤ 16777216 := by simp [inR]
def residual_Put.f (l : List Int) : Option (ByteArray × Int) := if l.length ≤ 128 ∧ inR l = true then some (Dsc.bs (Dsc.rput l), 0) else none
theorem residual_Put.calls (A0 : Option Addr) (c0 : Nat) (l0 : List Int) (r1 : ByteArray) (r2 : Int) (w : World) (hr0 : Kd.C (Kd.int .i64) w A0 l0.length l0) (hc0 : l0.length ≤ c0) (h : residual_Put.f l0 = some (r1, r2)) (htw : TW w) :
    Calls Tryz.prog 41 #[.slice A0 l0.length c0] w fun e w' => e = .returned (.tuple #[.string r1, .int .i64 r2]) ∧ Below w.heap.size w w' := by
  unfold residual_Put.f at h
  split at h
  · rename_i hc
    cases h
    exact Dsc.resPut_any A0 c0 l0 w htw.tab (ri_of hr0) hc.1 (inR_iff.1 hc.2)
  · cases h
end Go.Proofs.YtbapmfghipcebaaGreatDoor.S
end
section
namespace Go.Proofs.YtbapmfghipcebaaGreatDoor.S
open Go.RowKit Go.Proofs.YtbapmfghipcebaaGreatDoorW.PrintWords Go.Proofs.YtbapmfghipcebaaGreatDoorW.PrintLast Go.Proofs.YtbapmfghipcebaaGreatDoorW.PrintMore
attribute [local go_sem] max2_int min2_int max_two min_two max_three min_three max_four min_four   -- for this text's walks alone
set_option linter.unusedVariables false
set_option linter.unusedSimpArgs false



def errW : Option Int → Value
  | none => .nilIface
  | some c => .iface 0 (.int .i64 c)
theorem errW_none : errW none = .nilIface := rfl
theorem errW_some (c : Int) : errW (some c) = .iface 0 (.int .i64 c) := rfl

theorem info3 : (Tryz.prog.info? 3).map (fun i => (i.zero, i.size, i.bytes)) = some (some (.int .i64 0), 1, 8) := by kernel_rfl
theorem info5 : (Tryz.prog.info? 5).map (fun i => (i.zero, i.size, i.bytes)) = some (some (.int .u8 0), 1, 1) := by kernel_rfl
theorem info39 : (Tryz.prog.info? 39).map (fun i => (i.zero, i.size, i.bytes)) = some (some (.slice none 0 0), 1, 24) := by kernel_rfl
-- the values' own types
def rd_L1 (xs : List (List Int)) (i : Int) : (List Int) := xs.getD i.toNat ([] : List Int)
theorem at_L1 {w : World} {A : Option Addr} {n : Nat} {xs : List (List Int)} (h : Kd.C (Kd.slice 3 (Kd.int .i64)) w A n xs) (i : Int) (h0 : 0 ≤ i) (h1 : i < n) : ∃ ad A0 c0, A = some ad ∧ w.cell? (ad.add i.toNat) = some (.slice A0 (rd_L1 xs i).length c0) ∧ (rd_L1 xs i).length ≤ c0 ∧ (Kd.int .i64).C w A0 (rd_L1 xs i).length (rd_L1 xs i) := by
  obtain ⟨ad, c, e, _, hK, hc0⟩ := Kd.C_get h ([] : List Int) i h0 h1
  have hc : ∀ j u, c[j]? = some u → w.cell? (ad.add (i.toNat * 1 + j)) = some u := hc0
  obtain ⟨A0, c0, rfl, l0, g0⟩ := hK
  exact ⟨ad, A0, c0, e, by have hq := hc 0 _ rfl; rwa [Nat.mul_one, Nat.add_zero] at hq, l0, g0⟩

def rd_L4 (xs : List (List (List Int))) (i : Int) : (List (List Int)) := xs.getD i.toNat ([] : List (List Int))
theorem at_L4 {w : World} {A : Option Addr} {n : Nat} {xs : List (List (List Int))} (h : Kd.C (Kd.slice 39 (Kd.slice 3 (Kd.int .i64))) w A n xs) (i : Int) (h0 : 0 ≤ i) (h1 : i < n) : ∃ ad A0 c0, A = some ad ∧ w.cell? (ad.add i.toNat) = some (.slice A0 (rd_L4 xs i).length c0) ∧ (rd_L4 xs i).length ≤ c0 ∧ (Kd.slice 3 (Kd.int .i64)).C w A0 (rd_L4 xs i).length (rd_L4 xs i) := by
  obtain ⟨ad, c, e, _, hK, hc0⟩ := Kd.C_get h ([] : List (List Int)) i h0 h1
  have hc : ∀ j u, c[j]? = some u → w.cell? (ad.add (i.toNat * 1 + j)) = some u := hc0
  obtain ⟨A0, c0, rfl, l0, g0⟩ := hK
  exact ⟨ad, A0, c0, e, by have hq := hc 0 _ rfl; rwa [Nat.mul_one, Nat.add_zero] at hq, l0, g0⟩

end Go.Proofs.YtbapmfghipcebaaGreatDoor.S
end
section
namespace Go.Proofs.YtbapmfghipcebaaGreatDoor.S
open Go.RowKit Go.Proofs.YtbapmfghipcebaaGreatDoorW.PrintWords Go.Proofs.YtbapmfghipcebaaGreatDoorW.PrintLast Go.Proofs.YtbapmfghipcebaaGreatDoorW.PrintMore
attribute [local go_sem] max2_int min2_int max_two min_two max_three min_three max_four min_four   -- for this text's walks alone
set_option linter.unusedVariables false
set_option linter.unusedSimpArgs false

/-! ### pcm_May: function 27 -/
def pcm_May.f (a0_0 : Int) (a0_1 : Int) : Option (Bool) := if a0_0 = 1 then (if a0_1 = 8 then (some true) else (some (a0_1 == 16))) else (if a0_0 = 2 then (if a0_1 = 8 then (some true) else (some (a0_1 == 16))) else (some false))
set_option maxHeartbeats 8000000 in
set_option maxRecDepth 100000 in
theorem pcm_May.calls (a0_0 : Int) (a0_1 : Int) (r : Bool) (w : World) (h : pcm_May.f a0_0 a0_1 = some r) :
    Calls Tryz.prog 27 #[.agg #[.int .i64 a0_0, .int .i64 a0_1]] w fun e w' => e = .returned (.bool r) ∧ Below w.heap.size w w' := by
  have hu23 := Tryz.underlying23
  have HB := Aside0.mk (Below.refl w.heap.size w)
  have H : (if a0_0 = 1 then (if a0_1 = 8 then (some true) else (some (a0_1 == 16))) else (if a0_0 = 2 then (if a0_1 = 8 then (some true) else (some (a0_1 == 16))) else (some false))) = some r := h
  clear h
  by_cases c2 : a0_0 = 1
  · rw [if_pos c2] at H
    have c2b0 : (a0_0 == 1) = true := beq_iff_eq.mpr c2
    have c2b1 : (a0_0 != 1) = false := bne_eq_false_iff_eq.mpr c2
    clear c2
    by_cases c3 : a0_1 = 8
    · rw [if_pos c3] at H
      have c3b0 : (a0_1 == 8) = true := beq_iff_eq.mpr c3
      have c3b1 : (a0_1 != 8) = false := bne_eq_false_iff_eq.mpr c3
      clear c3
      obtain rfl := Option.some.inj H
      go_enter Tryz.func27, Tryz.ntmps27
      go_wp2_with (first | ((with_reducible refine gate_dst (N := 1) rfl ?_); refine box_event ?hg (N := 1) ?hd (cs := #[.int .i64 a0_0, .int .i64 a0_1]) (t := 23) ?hr ?_; (case hd => rfl); (case hg => rfl); (case hr => first | (go_simp; done) | (go_simp; rfl)); intro gb101 hg w4 hbox hb; have n0_ := Aside0.mk (below_step (by repeat (first | (with_reducible first | exact HB.out | apply below_alloc | apply pw_below_drewN | apply below_drew1) | exact HB.out)) hb); have n1_ := Aside0.mk (hbox); have n2_ := Aside0.mk ((by rw [hg]; exact (below_size (by repeat (first | (with_reducible first | exact HB.out | apply below_alloc | apply pw_below_drewN | apply below_drew1) | exact HB.out))) : w.heap.size ≤ gb101)); have n3_ := Aside0.mk ((by rw [hg]; exact (below_size (by repeat (first | (with_reducible first | exact HB.out | apply below_alloc | apply pw_below_drewN | apply below_drew1) | exact HB.out))) : w.heap.size ≤ gb101)); clear HB; have HB := n0_; have BK101 := n1_; have GW101 := n2_; have GE101 := n3_; clear n0_ n1_ n2_ n3_; clear hb hbox hg; have hcz5_0 : w4.cell? ⟨gb101, 0, none⟩ = some (.int .i64 a0_0) := (blk_cell BK101.out 0).trans rfl; have hcz5_1 : w4.cell? ⟨gb101, 1, none⟩ = some (.int .i64 a0_1) := (blk_cell BK101.out 1).trans rfl; have hfz5_0 := blk_frozen BK101.out 0; have hfz5_1 := blk_frozen BK101.out 1))
      go_ret
      exact ⟨by first | rfl | (simp [errW_none, errW_some] <;> rfl) | (simp [*, errW_none, errW_some] <;> rfl), by repeat (first | (with_reducible first | exact HB.out | apply below_alloc | apply pw_below_drewN | apply below_drew1 | refine below_set ?_ GE101.out) | exact HB.out)⟩
    · rw [if_neg c3] at H
      have c3b0 : (a0_1 == 8) = false := beq_eq_false_iff_ne.mpr c3
      have c3b1 : (a0_1 != 8) = true := bne_iff_ne.mpr c3
      obtain rfl := Option.some.inj H
      go_enter Tryz.func27, Tryz.ntmps27
      go_wp2_with (first | ((with_reducible refine gate_dst (N := 1) rfl ?_); refine box_event ?hg (N := 1) ?hd (cs := #[.int .i64 a0_0, .int .i64 a0_1]) (t := 23) ?hr ?_; (case hd => rfl); (case hg => rfl); (case hr => first | (go_simp; done) | (go_simp; rfl)); intro gb101 hg w6 hbox hb; have n0_ := Aside0.mk (below_step (by repeat (first | (with_reducible first | exact HB.out | apply below_alloc | apply pw_below_drewN | apply below_drew1) | exact HB.out)) hb); have n1_ := Aside0.mk (hbox); have n2_ := Aside0.mk ((by rw [hg]; exact (below_size (by repeat (first | (with_reducible first | exact HB.out | apply below_alloc | apply pw_below_drewN | apply below_drew1) | exact HB.out))) : w.heap.size ≤ gb101)); have n3_ := Aside0.mk ((by rw [hg]; exact (below_size (by repeat (first | (with_reducible first | exact HB.out | apply below_alloc | apply pw_below_drewN | apply below_drew1) | exact HB.out))) : w.heap.size ≤ gb101)); clear HB; have HB := n0_; have BK101 := n1_; have GW101 := n2_; have GE101 := n3_; clear n0_ n1_ n2_ n3_; clear hb hbox hg; have hcz7_0 : w6.cell? ⟨gb101, 0, none⟩ = some (.int .i64 a0_0) := (blk_cell BK101.out 0).trans rfl; have hcz7_1 : w6.cell? ⟨gb101, 1, none⟩ = some (.int .i64 a0_1) := (blk_cell BK101.out 1).trans rfl; have hfz7_0 := blk_frozen BK101.out 0; have hfz7_1 := blk_frozen BK101.out 1))
      go_ret
      exact ⟨by first | rfl | (simp [errW_none, errW_some] <;> rfl) | (simp [*, errW_none, errW_some] <;> rfl), by repeat (first | (with_reducible first | exact HB.out | apply below_alloc | apply pw_below_drewN | apply below_drew1 | refine below_set ?_ GE101.out) | exact HB.out)⟩
  · rw [if_neg c2] at H
    have c2b0 : (a0_0 == 1) = false := beq_eq_false_iff_ne.mpr c2
    have c2b1 : (a0_0 != 1) = true := bne_iff_ne.mpr c2
    by_cases c8 : a0_0 = 2
    · rw [if_pos c8] at H
      have c8b0 : (a0_0 == 2) = true := beq_iff_eq.mpr c8
      have c8b1 : (a0_0 != 2) = false := bne_eq_false_iff_eq.mpr c8
      clear c8
      by_cases c9 : a0_1 = 8
      · rw [if_pos c9] at H
        have c9b0 : (a0_1 == 8) = true := beq_iff_eq.mpr c9
        have c9b1 : (a0_1 != 8) = false := bne_eq_false_iff_eq.mpr c9
        clear c9
        obtain rfl := Option.some.inj H
        go_enter Tryz.func27, Tryz.ntmps27
        go_wp2_with (first | ((with_reducible refine gate_dst (N := 1) rfl ?_); refine box_event ?hg (N := 1) ?hd (cs := #[.int .i64 a0_0, .int .i64 a0_1]) (t := 23) ?hr ?_; (case hd => rfl); (case hg => rfl); (case hr => first | (go_simp; done) | (go_simp; rfl)); intro gb101 hg w10 hbox hb; have n0_ := Aside0.mk (below_step (by repeat (first | (with_reducible first | exact HB.out | apply below_alloc | apply pw_below_drewN | apply below_drew1) | exact HB.out)) hb); have n1_ := Aside0.mk (hbox); have n2_ := Aside0.mk ((by rw [hg]; exact (below_size (by repeat (first | (with_reducible first | exact HB.out | apply below_alloc | apply pw_below_drewN | apply below_drew1) | exact HB.out))) : w.heap.size ≤ gb101)); have n3_ := Aside0.mk ((by rw [hg]; exact (below_size (by repeat (first | (with_reducible first | exact HB.out | apply below_alloc | apply pw_below_drewN | apply below_drew1) | exact HB.out))) : w.heap.size ≤ gb101)); clear HB; have HB := n0_; have BK101 := n1_; have GW101 := n2_; have GE101 := n3_; clear n0_ n1_ n2_ n3_; clear hb hbox hg; have hcz11_0 : w10.cell? ⟨gb101, 0, none⟩ = some (.int .i64 a0_0) := (blk_cell BK101.out 0).trans rfl; have hcz11_1 : w10.cell? ⟨gb101, 1, none⟩ = some (.int .i64 a0_1) := (blk_cell BK101.out 1).trans rfl; have hfz11_0 := blk_frozen BK101.out 0; have hfz11_1 := blk_frozen BK101.out 1))
        go_ret
        exact ⟨by first | rfl | (simp [errW_none, errW_some] <;> rfl) | (simp [*, errW_none, errW_some] <;> rfl), by repeat (first | (with_reducible first | exact HB.out | apply below_alloc | apply pw_below_drewN | apply below_drew1 | refine below_set ?_ GE101.out) | exact HB.out)⟩
      · rw [if_neg c9] at H
        have c9b0 : (a0_1 == 8) = false := beq_eq_false_iff_ne.mpr c9
        have c9b1 : (a0_1 != 8) = true := bne_iff_ne.mpr c9
        obtain rfl := Option.some.inj H
        go_enter Tryz.func27, Tryz.ntmps27
        go_wp2_with (first | ((with_reducible refine gate_dst (N := 1) rfl ?_); refine box_event ?hg (N := 1) ?hd (cs := #[.int .i64 a0_0, .int .i64 a0_1]) (t := 23) ?hr ?_; (case hd => rfl); (case hg => rfl); (case hr => first | (go_simp; done) | (go_simp; rfl)); intro gb101 hg w12 hbox hb; have n0_ := Aside0.mk (below_step (by repeat (first | (with_reducible first | exact HB.out | apply below_alloc | apply pw_below_drewN | apply below_drew1) | exact HB.out)) hb); have n1_ := Aside0.mk (hbox); have n2_ := Aside0.mk ((by rw [hg]; exact (below_size (by repeat (first | (with_reducible first | exact HB.out | apply below_alloc | apply pw_below_drewN | apply below_drew1) | exact HB.out))) : w.heap.size ≤ gb101)); have n3_ := Aside0.mk ((by rw [hg]; exact (below_size (by repeat (first | (with_reducible first | exact HB.out | apply below_alloc | apply pw_below_drewN | apply below_drew1) | exact HB.out))) : w.heap.size ≤ gb101)); clear HB; have HB := n0_; have BK101 := n1_; have GW101 := n2_; have GE101 := n3_; clear n0_ n1_ n2_ n3_; clear hb hbox hg; have hcz13_0 : w12.cell? ⟨gb101, 0, none⟩ = some (.int .i64 a0_0) := (blk_cell BK101.out 0).trans rfl; have hcz13_1 : w12.cell? ⟨gb101, 1, none⟩ = some (.int .i64 a0_1) := (blk_cell BK101.out 1).trans rfl; have hfz13_0 := blk_frozen BK101.out 0; have hfz13_1 := blk_frozen BK101.out 1))
        go_ret
        exact ⟨by first | rfl | (simp [errW_none, errW_some] <;> rfl) | (simp [*, errW_none, errW_some] <;> rfl), by repeat (first | (with_reducible first | exact HB.out | apply below_alloc | apply pw_below_drewN | apply below_drew1 | refine below_set ?_ GE101.out) | exact HB.out)⟩
    · rw [if_neg c8] at H
      have c8b0 : (a0_0 == 2) = false := beq_eq_false_iff_ne.mpr c8
      have c8b1 : (a0_0 != 2) = true := bne_iff_ne.mpr c8
      obtain rfl := Option.some.inj H
      go_enter Tryz.func27, Tryz.ntmps27
      go_wp2_with (first | ((with_reducible refine gate_dst (N := 1) rfl ?_); refine box_event ?hg (N := 1) ?hd (cs := #[.int .i64 a0_0, .int .i64 a0_1]) (t := 23) ?hr ?_; (case hd => rfl); (case hg => rfl); (case hr => first | (go_simp; done) | (go_simp; rfl)); intro gb101 hg w14 hbox hb; have n0_ := Aside0.mk (below_step (by repeat (first | (with_reducible first | exact HB.out | apply below_alloc | apply pw_below_drewN | apply below_drew1) | exact HB.out)) hb); have n1_ := Aside0.mk (hbox); have n2_ := Aside0.mk ((by rw [hg]; exact (below_size (by repeat (first | (with_reducible first | exact HB.out | apply below_alloc | apply pw_below_drewN | apply below_drew1) | exact HB.out))) : w.heap.size ≤ gb101)); have n3_ := Aside0.mk ((by rw [hg]; exact (below_size (by repeat (first | (with_reducible first | exact HB.out | apply below_alloc | apply pw_below_drewN | apply below_drew1) | exact HB.out))) : w.heap.size ≤ gb101)); clear HB; have HB := n0_; have BK101 := n1_; have GW101 := n2_; have GE101 := n3_; clear n0_ n1_ n2_ n3_; clear hb hbox hg; have hcz15_0 : w14.cell? ⟨gb101, 0, none⟩ = some (.int .i64 a0_0) := (blk_cell BK101.out 0).trans rfl; have hcz15_1 : w14.cell? ⟨gb101, 1, none⟩ = some (.int .i64 a0_1) := (blk_cell BK101.out 1).trans rfl; have hfz15_0 := blk_frozen BK101.out 0; have hfz15_1 := blk_frozen BK101.out 1))
      go_ret
      exact ⟨by first | rfl | (simp [errW_none, errW_some] <;> rfl) | (simp [*, errW_none, errW_some] <;> rfl), by repeat (first | (with_reducible first | exact HB.out | apply below_alloc | apply pw_below_drewN | apply below_drew1 | refine below_set ?_ GE101.out) | exact HB.out)⟩

/-! ### pcm_Frame: function 21 -/
def pcm_Frame.f (a0_0 : Int) (a0_1 : Int) : Option (Int) := some (wrap64 (Int.tdiv (wrap64 (a0_0 * a0_1)) 8))
set_option maxHeartbeats 8000000 in
set_option maxRecDepth 100000 in
theorem pcm_Frame.calls (a0_0 : Int) (a0_1 : Int) (r : Int) (w : World) (h : pcm_Frame.f a0_0 a0_1 = some r) :
    Calls Tryz.prog 21 #[.agg #[.int .i64 a0_0, .int .i64 a0_1]] w fun e w' => e = .returned (.int .i64 r) ∧ Below w.heap.size w w' := by
  have hu23 := Tryz.underlying23
  have HB := Aside0.mk (Below.refl w.heap.size w)
  have H : (some (wrap64 (Int.tdiv (wrap64 (a0_0 * a0_1)) 8))) = some r := h
  clear h
  obtain rfl := Option.some.inj H
  go_enter Tryz.func21, Tryz.ntmps21
  go_wp2_with (first | ((with_reducible refine gate_dst (N := 1) rfl ?_); refine box_event ?hg (N := 1) ?hd (cs := #[.int .i64 a0_0, .int .i64 a0_1]) (t := 23) ?hr ?_; (case hd => rfl); (case hg => rfl); (case hr => first | (go_simp; done) | (go_simp; rfl)); intro gb102 hg w2 hbox hb; have n0_ := Aside0.mk (below_step (by repeat (first | (with_reducible first | exact HB.out | apply below_alloc | apply pw_below_drewN | apply below_drew1) | exact HB.out)) hb); have n1_ := Aside0.mk (hbox); have n2_ := Aside0.mk ((by rw [hg]; exact (below_size (by repeat (first | (with_reducible first | exact HB.out | apply below_alloc | apply pw_below_drewN | apply below_drew1) | exact HB.out))) : w.heap.size ≤ gb102)); have n3_ := Aside0.mk ((by rw [hg]; exact (below_size (by repeat (first | (with_reducible first | exact HB.out | apply below_alloc | apply pw_below_drewN | apply below_drew1) | exact HB.out))) : w.heap.size ≤ gb102)); clear HB; have HB := n0_; have BK102 := n1_; have GW102 := n2_; have GE102 := n3_; clear n0_ n1_ n2_ n3_; clear hb hbox hg; have hcz3_0 : w2.cell? ⟨gb102, 0, none⟩ = some (.int .i64 a0_0) := (blk_cell BK102.out 0).trans rfl; have hcz3_1 : w2.cell? ⟨gb102, 1, none⟩ = some (.int .i64 a0_1) := (blk_cell BK102.out 1).trans rfl; have hfz3_0 := blk_frozen BK102.out 0; have hfz3_1 := blk_frozen BK102.out 1))
  go_ret
  exact ⟨by first | rfl | (simp [errW_none, errW_some] <;> rfl) | (simp [*, errW_none, errW_some] <;> rfl), by repeat (first | (with_reducible first | exact HB.out | apply below_alloc | apply pw_below_drewN | apply below_drew1 | refine below_set ?_ GE102.out) | exact HB.out)⟩

/-! ### pcm_Frames: function 33 -/
def pcm_Frames.f (a0 : ByteArray) (a1_0 : Int) (a1_1 : Int) : Option (Bool) := (pcm_Frame.f a1_0 a1_1).bind fun t104 => (if t104 = 0 then (none) else (some (((a0.size : Int) % t104) == 0)))
set_option maxHeartbeats 8000000 in
set_option maxRecDepth 100000 in
theorem pcm_Frames.calls (a0 : ByteArray) (a1_0 : Int) (a1_1 : Int) (r : Bool) (w : World) (h : pcm_Frames.f a0 a1_0 a1_1 = some r) :
    Calls Tryz.prog 33 #[.string a0, .agg #[.int .i64 a1_0, .int .i64 a1_1]] w fun e w' => e = .returned (.bool r) ∧ Below w.heap.size w w' := by
  have hu23 := Tryz.underlying23
  have HB := Aside0.mk (Below.refl w.heap.size w)
  have H : ((pcm_Frame.f a1_0 a1_1).bind fun t104 => (if t104 = 0 then (none) else (some (((a0.size : Int) % t104) == 0)))) = some r := h
  clear h
  replace H := Option.bind_eq_some_iff.mp H
  obtain ⟨t104, A30, H⟩ := H
  replace H : (if t104 = 0 then (none) else (some (((a0.size : Int) % t104) == 0))) = some r := H
  have A3 := Aside0.mk A30
  clear A30
  by_cases c4 : t104 = 0
  · rw [if_pos c4] at H
    exact absurd H (by simp)
  · rw [if_neg c4] at H
    have c4b0 : (t104 == 0) = false := beq_eq_false_iff_ne.mpr c4
    have c4b1 : (t104 != 0) = true := bne_iff_ne.mpr c4
    obtain rfl := Option.some.inj H
    go_enter Tryz.func33, Tryz.ntmps33
    go_wp2_with (first | ((with_reducible refine gate_dst (N := 3) rfl ?_); refine box_event ?hg (N := 3) ?hd (cs := #[.int .i64 a1_0, .int .i64 a1_1]) (t := 23) ?hr ?_; (case hd => rfl); (case hg => rfl); (case hr => first | (go_simp; done) | (go_simp; rfl)); intro gb103 hg w5 hbox hb; have n0_ := Aside0.mk (below_step (by repeat (first | (with_reducible first | exact HB.out | apply below_alloc | apply pw_below_drewN | apply below_drew1) | exact HB.out)) hb); have n1_ := Aside0.mk (hbox); have n2_ := Aside0.mk ((by rw [hg]; exact (below_size (by repeat (first | (with_reducible first | exact HB.out | apply below_alloc | apply pw_below_drewN | apply below_drew1) | exact HB.out))) : w.heap.size ≤ gb103)); have n3_ := Aside0.mk ((by rw [hg]; exact (below_size (by repeat (first | (with_reducible first | exact HB.out | apply below_alloc | apply pw_below_drewN | apply below_drew1) | exact HB.out))) : w.heap.size ≤ gb103)); clear HB; have HB := n0_; have BK103 := n1_; have GW103 := n2_; have GE103 := n3_; clear n0_ n1_ n2_ n3_; clear hb hbox hg; have hcz6_0 : w5.cell? ⟨gb103, 0, none⟩ = some (.int .i64 a1_0) := (blk_cell BK103.out 0).trans rfl; have hcz6_1 : w5.cell? ⟨gb103, 1, none⟩ = some (.int .i64 a1_1) := (blk_cell BK103.out 1).trans rfl; have hfz6_0 := blk_frozen BK103.out 0; have hfz6_1 := blk_frozen BK103.out 1) | ((with_reducible refine gate_callee (f := 21) rfl ?_); refine goesL_ (some 8) rfl rfl Tryz.func21 (by kernel_rfl) rfl #[.agg #[.int .i64 a1_0, .int .i64 a1_1]] rfl (by (try simp only [List.map_toArray, List.map_cons, List.map_nil]); first | done | rfl | (simp only [List.length_drop, List.length_take]; rfl)) ?_; (with_reducible refine (pcm_Frame.calls a1_0 a1_1 t104 _ A3.out).mono ?_); rintro e w7 ⟨rfl, hb⟩; refine ⟨_, rfl, ?_⟩; have n0_ := Aside0.mk (blk_below (g := gb103) (o := .cells #[.int .i64 a1_0, .int .i64 a1_1] 23 (0, 0)) (by (with_reducible repeat (first | refine blk_drewN ?_ _ | refine blk_drew ?_ | refine blk_alloc ?_ _)); exact BK103.out) hb); have n1_ := Aside0.mk (below_step (by repeat (first | (with_reducible first | exact HB.out | apply below_alloc | apply pw_below_drewN | apply below_drew1 | refine below_set ?_ GE103.out) | exact HB.out)) hb); clear BK103; clear HB; have BK103 := n0_; have HB := n1_; clear n0_ n1_; (try clear hb); (try clear hb2); (try clear hk); (try clear hi)))
    go_ret
    exact ⟨by first | rfl | (simp [errW_none, errW_some] <;> rfl) | (simp [*, errW_none, errW_some] <;> rfl), by repeat (first | (with_reducible first | exact HB.out | apply below_alloc | apply pw_below_drewN | apply below_drew1 | refine below_set ?_ GE103.out) | exact HB.out)⟩

/-! ### pcm_sample: function 34 -/
def pcm_sample.f (a0 : ByteArray) : Option (Int) := if (a0.size : Int) = 1 then (if 0 < (a0.size : Int) then (some (wrap64 ((wrap64 (bt a0 0)) - 128))) else (none)) else (if 0 < (a0.size : Int) then (if 1 < (a0.size : Int) then (some (wrap64 (IntKind.i16.wrap (Go.bits .or .u16 (IntKind.u16.wrap (bt a0 0)) (IntKind.u16.wrap ((IntKind.u16.wrap (bt a0 1)) * 256)))))) else (none)) else (none))
set_option maxHeartbeats 8000000 in
set_option maxRecDepth 100000 in
theorem pcm_sample.calls (a0 : ByteArray) (r : Int) (w : World) (h : pcm_sample.f a0 = some r) :
    Calls Tryz.prog 34 #[.string a0] w fun e w' => e = .returned (.int .i64 r) ∧ Drawn0 w w' := by
  have H : (if (a0.size : Int) = 1 then (if 0 < (a0.size : Int) then (some (wrap64 ((wrap64 (bt a0 0)) - 128))) else (none)) else (if 0 < (a0.size : Int) then (if 1 < (a0.size : Int) then (some (wrap64 (IntKind.i16.wrap (Go.bits .or .u16 (IntKind.u16.wrap (bt a0 0)) (IntKind.u16.wrap ((IntKind.u16.wrap (bt a0 1)) * 256)))))) else (none)) else (none))) = some r := h
  clear h
  by_cases c2 : (a0.size : Int) = 1
  · rw [if_pos c2] at H
    have c2b0 : ((a0.size : Int) == 1) = true := beq_iff_eq.mpr c2
    have c2b1 : ((a0.size : Int) != 1) = false := bne_eq_false_iff_eq.mpr c2
    clear c2
    by_cases c3 : 0 < (a0.size : Int)
    · rw [if_pos c3] at H
      have c3b0 : decide (0 < (a0.size : Int)) = true := decide_eq_true c3
      have c3b1 : decide (0 < a0.size) = true := decide_eq_true (by omega)
      clear c3
      obtain rfl := Option.some.inj H
      have p4 : 0 ≤ (0 : Int) := (by omega)
      have q4 : 0 < a0.size := (by have : (0 : Int) < (a0.size : Int) := of_decide_eq_true (by first | (with_reducible assumption) | assumption); omega)
      have hx4 : ∀ h : 0 < a0.size, ((a0[0]'h).toNat : Int) = bt a0 0 := bt_at a0 0
      clear p4
      have qi4 : (0 < (a0.size : Int)) = True := eq_true (of_decide_eq_true (by first | (with_reducible assumption) | assumption))
      replace q4 := eq_true q4
      go_enter Tryz.func34, Tryz.ntmps34
      go_wp2
      repeat (go_quiet (fail); try go_wp2)
      go_ret
      exact ⟨by first | rfl | (simp; done) | (simp [*]; done), by repeat (first | exact Drawn0.refl _ | apply Drawn0.step)⟩
    · rw [if_neg c3] at H
      exact absurd H (by simp)
  · rw [if_neg c2] at H
    have c2b0 : ((a0.size : Int) == 1) = false := beq_eq_false_iff_ne.mpr c2
    have c2b1 : ((a0.size : Int) != 1) = true := bne_iff_ne.mpr c2
    by_cases c5 : 0 < (a0.size : Int)
    · rw [if_pos c5] at H
      have c5b0 : decide (0 < (a0.size : Int)) = true := decide_eq_true c5
      have c5b1 : decide (0 < a0.size) = true := decide_eq_true (by omega)
      clear c5
      by_cases c7 : 1 < (a0.size : Int)
      · rw [if_pos c7] at H
        have c7b0 : decide (1 < (a0.size : Int)) = true := decide_eq_true c7
        have c7b1 : decide (1 < a0.size) = true := decide_eq_true (by omega)
        clear c7
        obtain rfl := Option.some.inj H
        have p6 : 0 ≤ (0 : Int) := (by omega)
        have q6 : 0 < a0.size := (by have : (0 : Int) < (a0.size : Int) := of_decide_eq_true (by first | (with_reducible assumption) | assumption); omega)
        have hx6 : ∀ h : 0 < a0.size, ((a0[0]'h).toNat : Int) = bt a0 0 := bt_at a0 0
        clear p6
        have qi6 : (0 < (a0.size : Int)) = True := eq_true (of_decide_eq_true (by first | (with_reducible assumption) | assumption))
        replace q6 := eq_true q6
        have p8 : 0 ≤ (1 : Int) := (by omega)
        have q8 : 1 < a0.size := (by have : (1 : Int) < (a0.size : Int) := of_decide_eq_true (by first | (with_reducible assumption) | assumption); omega)
        have hx8 : ∀ h : 1 < a0.size, ((a0[1]'h).toNat : Int) = bt a0 1 := bt_at a0 1
        clear p8
        have qi8 : (1 < (a0.size : Int)) = True := eq_true (of_decide_eq_true (by first | (with_reducible assumption) | assumption))
        replace q8 := eq_true q8
        go_enter Tryz.func34, Tryz.ntmps34
        go_wp2
        repeat (go_quiet (fail); try go_wp2)
        go_ret
        exact ⟨by first | rfl | (simp; done) | (simp [*]; done), by repeat (first | exact Drawn0.refl _ | apply Drawn0.step)⟩
      · rw [if_neg c7] at H
        exact absurd H (by simp)
    · rw [if_neg c5] at H
      exact absurd H (by simp)

/-! ### pcm_Get: function 20 -/
mutual
def pcm_Get.j0 : Nat → ByteArray → Bool → Int → Int → Option ((List (List Int)) × Int)
  | 0, _, _, _, _ => none
  | k + 1, x0, x23, x106000, x106001 => if x23 = true then (some (([] : List (List Int)), 1900)) else (if 0 ≤ x106000 then (if (x106000 : Int).toNat ≤ 11728124029610 then (pcm_Get.l0 k x0 (List.replicate (x106000 : Int).toNat []) (wrap64 (Int.tdiv x106001 8)) 0 x106000 x106001) else (none)) else (none))
def pcm_Get.l0 : Nat → ByteArray → List (List Int) → Int → Int → Int → Int → Option ((List (List Int)) × Int)
  | 0, _, _, _, _, _, _ => none
  | k + 1, x0, x6, x7, x8, x106000, x106001 => if (wrap64 (x8 * x7)) < (x0.size : Int) then (if x106000 = 0 then (none) else (if 0 ≤ (Int.tmod x8 x106000) then (if (Int.tmod x8 x106000) < (x6.length : Int) then (if 0 ≤ (wrap64 (x8 * x7)) then (if (wrap64 (x8 * x7)) ≤ (wrap64 ((wrap64 (x8 + 1)) * x7)) then (if (wrap64 ((wrap64 (x8 + 1)) * x7)) ≤ (x0.size : Int) then ((pcm_sample.f (x0.extract ((wrap64 (x8 * x7)) : Int).toNat ((wrap64 ((wrap64 (x8 + 1)) * x7)) : Int).toNat)).bind fun t112 => (if (rd_L1 x6 (Int.tmod x8 x106000)).length < 17592186044416 then (pcm_Get.l0 k x0 (x6.set ((Int.tmod x8 x106000) : Int).toNat ((rd_L1 x6 (Int.tmod x8 x106000)) ++ [t112])) x7 (wrap64 (x8 + 1)) x106000 x106001) else (none))) else (none)) else (none)) else (none)) else (none)) else (none))) else (some (x6, 0))
end
def pcm_Get.f (k : Nat) (a0 : ByteArray) (a1_0 : Int) (a1_1 : Int) : Option ((List (List Int)) × Int) := (pcm_May.f a1_0 a1_1).bind fun t106 => (if t106 = true then ((pcm_Frames.f a0 a1_0 a1_1).bind fun t107 => (if t107 = true then (pcm_Get.j0 k a0 (decide ((a0.size : Int) > 4096)) a1_0 a1_1) else (pcm_Get.j0 k a0 true a1_0 a1_1))) else (pcm_Get.j0 k a0 true a1_0 a1_1))
theorem pcm_Get.mono_l : ∀ k, (∀ y0 y1 y2 y3, LeO (pcm_Get.j0 k y0 y1 y2 y3) (pcm_Get.j0 (k + 1) y0 y1 y2 y3)) ∧ (∀ y0 y1 y2 y3 y4 y5, LeO (pcm_Get.l0 k y0 y1 y2 y3 y4 y5) (pcm_Get.l0 (k + 1) y0 y1 y2 y3 y4 y5))
  | 0 => ⟨fun _ _ _ _ r h => by simp [pcm_Get.j0] at h, fun _ _ _ _ _ _ r h => by simp [pcm_Get.l0] at h⟩
  | k + 1 => by
    obtain ⟨ih0, ih1⟩ := pcm_Get.mono_l k
    refine ⟨?_, ?_⟩
    · intro y0 y1 y2 y3
      unfold pcm_Get.j0
      repeat' first
      | (with_reducible exact ih0 _ _ _ _)
      | (with_reducible exact ih1 _ _ _ _ _ _)
      | (with_reducible exact LeO.refl _)
      | (with_reducible exact LeO.none _)
      | (with_reducible refine LeO.ite ?_ ?_)
      | (with_reducible refine LeO.bind ?_ (fun _ => ?_))
      | exact ih0 _ _ _ _
      | exact ih1 _ _ _ _ _ _
      | exact LeO.none _
      | refine LeO.ite ?_ ?_
      | refine LeO.bind ?_ (fun _ => ?_)
    · intro y0 y1 y2 y3 y4 y5
      unfold pcm_Get.l0
      repeat' first
      | (with_reducible exact ih0 _ _ _ _)
      | (with_reducible exact ih1 _ _ _ _ _ _)
      | (with_reducible exact LeO.refl _)
      | (with_reducible exact LeO.none _)
      | (with_reducible refine LeO.ite ?_ ?_)
      | (with_reducible refine LeO.bind ?_ (fun _ => ?_))
      | exact ih0 _ _ _ _
      | exact ih1 _ _ _ _ _ _
      | exact LeO.none _
      | refine LeO.ite ?_ ?_
      | refine LeO.bind ?_ (fun _ => ?_)
theorem pcm_Get.mono : ∀ a0 a1 a2 k, LeO (pcm_Get.f k a0 a1 a2) (pcm_Get.f (k + 1) a0 a1 a2) := by
  intro a0 a1 a2 k
  obtain ⟨ih0, ih1⟩ := pcm_Get.mono_l k
  unfold pcm_Get.f
  repeat' first
      | (with_reducible exact ih0 _ _ _ _)
      | (with_reducible exact ih1 _ _ _ _ _ _)
      | (with_reducible exact LeO.refl _)
      | (with_reducible exact LeO.none _)
      | (with_reducible refine LeO.ite ?_ ?_)
      | (with_reducible refine LeO.bind ?_ (fun _ => ?_))
      | exact ih0 _ _ _ _
      | exact ih1 _ _ _ _ _ _
      | exact LeO.none _
      | refine LeO.ite ?_ ?_
      | refine LeO.bind ?_ (fun _ => ?_)
def pcm_Get.T9 : Bool × List (List Nat × List Nat) := (true, [([], []), ([], []), ([], []), ([], []), ([2, 3], [2, 3]), ([4], [4]), ([], []), ([], []), ([], []), ([7, 8], [7, 8]), ([], []), ([10], [10]), ([], []), ([11, 12], [11, 12]), ([6, 9, 13], [6, 9, 13]), ([14], [14]), ([15], [15]), ([5, 16, 15], [5, 16]), ([0, 1, 0, 1, 2, 3, 4, 5, 6, 7, 8, 9, 10, 11, 12, 13, 14, 15, 16, 17], [0, 1]), ([18, 17, 17, 0, 1, 2, 3, 4, 5, 6, 7, 8, 9, 10, 11, 12, 13, 14, 15, 16, 17], [17, 18])])
def pcm_Get.B9 : List Nat := [0, 0, 0, 0, 12, 28, 0, 0, 0, 384, 0, 1024, 0, 7168, 16320, 32704, 65472, 131068, 262143, 524287]
theorem pcm_Get.tab9 : rtab .any (opsOf Tryz.f20 9) = pcm_Get.T9 := by kernel_rfl
theorem pcm_Get.bits9 : waitsOk pcm_Get.T9.2 pcm_Get.B9 = true := by kernel_rfl
set_option maxHeartbeats 8000000 in
set_option maxRecDepth 100000 in
theorem pcm_Get.calls (k : Nat) (a0 : ByteArray) (a1_0 : Int) (a1_1 : Int) (r1 : List (List Int)) (r2 : Int) (w : World) (h : pcm_Get.f k a0 a1_0 a1_1 = some (r1, r2)) :
    Calls Tryz.prog 20 #[.string a0, .agg #[.int .i64 a1_0, .int .i64 a1_1]] w fun e w' => ∃ v0_ : Value, e = .returned (.tuple #[v0_, .int .i64 r2]) ∧ Kd.S (Kd.slice 3 (Kd.int .i64)) 39 w' w.heap.size (fun _ => True) v0_ r1 ∧ Below w.heap.size w w' := by
  have hu23 := Tryz.underlying23
  have HB := Aside0.mk (Below.refl w.heap.size w)
  have H : ((pcm_May.f a1_0 a1_1).bind fun t106 => (if t106 = true then ((pcm_Frames.f a0 a1_0 a1_1).bind fun t107 => (if t107 = true then (pcm_Get.j0 k a0 (decide ((a0.size : Int) > 4096)) a1_0 a1_1) else (pcm_Get.j0 k a0 true a1_0 a1_1))) else (pcm_Get.j0 k a0 true a1_0 a1_1))) = some (r1, r2) := h
  clear h
  have HC3 := Aside0.mk H
  clear H
  go_enter Tryz.func20, Tryz.ntmps20
  go_upto_region 1 with (first | ((with_reducible refine gate_dst (N := 3) rfl ?_); (try (refine gate_guard (by rfl) ?_; dsimp only)); refine box_event ?hg (N := 3) ?hd (cs := #[.int .i64 a1_0, .int .i64 a1_1]) (t := 23) ?hr ?_; (case hd => rfl); (case hg => rfl); (case hr => first | (go_simp; done) | (go_simp; rfl)); intro gb105 hg w4 hbox hb; have n0_ := Aside0.mk (below_step (by repeat (first | (with_reducible first | exact HB.out | apply below_alloc | apply pw_below_drewN | apply below_drew1) | exact HB.out)) hb); have n1_ := Aside0.mk (hbox); have n2_ := Aside0.mk ((by rw [hg]; exact (below_size (by repeat (first | (with_reducible first | exact HB.out | apply below_alloc | apply pw_below_drewN | apply below_drew1) | exact HB.out))) : w.heap.size ≤ gb105)); have n3_ := Aside0.mk ((by rw [hg]; exact (below_size (by repeat (first | (with_reducible first | exact HB.out | apply below_alloc | apply pw_below_drewN | apply below_drew1) | exact HB.out))) : w.heap.size ≤ gb105)); clear HB; have HB := n0_; have BK105 := n1_; have GW105 := n2_; have GE105 := n3_; clear n0_ n1_ n2_ n3_; clear hb hbox hg))
  (try simp only [Act.put, List.setIfInBounds_toArray, List.set_cons_zero, List.set_cons_succ])
  go_cut [23] (fun v23 wc => ∃ (kq : Nat) (x23_2 : Bool), v23 = .bool x23_2 ∧ Aside0 (pcm_Get.j0 kq a0 x23_2 a1_0 a1_1 = some (r1, r2)) ∧ Aside0 (kq ≤ k) ∧ Aside0 (wc.heap[gb105]? = some (.cells #[.int .i64 a1_0, .int .i64 a1_1] 23 (0, 0))) ∧ Aside0 (Below w.heap.size w wc))
  case first =>
    have H := HC3.out
    clear HC3
    replace H := Option.bind_eq_some_iff.mp H
    obtain ⟨t106, A50, H⟩ := H
    replace H : (if t106 = true then ((pcm_Frames.f a0 a1_0 a1_1).bind fun t107 => (if t107 = true then (pcm_Get.j0 k a0 (decide ((a0.size : Int) > 4096)) a1_0 a1_1) else (pcm_Get.j0 k a0 true a1_0 a1_1))) else (pcm_Get.j0 k a0 true a1_0 a1_1)) = some (r1, r2) := H
    have A5 := Aside0.mk A50
    clear A50
    by_cases c6 : t106 = true
    · subst c6
      have H1 : ((pcm_Frames.f a0 a1_0 a1_1).bind fun t107 => (if t107 = true then (pcm_Get.j0 k a0 (decide ((a0.size : Int) > 4096)) a1_0 a1_1) else (pcm_Get.j0 k a0 true a1_0 a1_1))) = some (r1, r2) := by rw [if_pos rfl] at H; exact H
      clear H
      have H := H1
      clear H1
      replace H := Option.bind_eq_some_iff.mp H
      obtain ⟨t107, A70, H⟩ := H
      replace H : (if t107 = true then (pcm_Get.j0 k a0 (decide ((a0.size : Int) > 4096)) a1_0 a1_1) else (pcm_Get.j0 k a0 true a1_0 a1_1)) = some (r1, r2) := H
      have A7 := Aside0.mk A70
      clear A70
      by_cases c8 : t107 = true
      · subst c8
        have H1 : (pcm_Get.j0 k a0 (decide ((a0.size : Int) > 4096)) a1_0 a1_1) = some (r1, r2) := by rw [if_pos rfl] at H; exact H
        clear H
        have H := H1
        clear H1
        have H' := Aside0.mk H
        clear H
        have hcz9_0 : w4.cell? ⟨gb105, 0, none⟩ = some (.int .i64 a1_0) := (blk_cell BK105.out 0).trans rfl
        have hcz9_1 : w4.cell? ⟨gb105, 1, none⟩ = some (.int .i64 a1_1) := (blk_cell BK105.out 1).trans rfl
        have hfz9_0 := blk_frozen BK105.out 0
        have hfz9_1 := blk_frozen BK105.out 1
        go_wp2_with (first | ((with_reducible refine gate_callee (f := 27) rfl ?_); refine goesL_ (some 11) rfl rfl Tryz.func27 (by kernel_rfl) rfl #[.agg #[.int .i64 a1_0, .int .i64 a1_1]] rfl (by (try simp only [List.map_toArray, List.map_cons, List.map_nil]); first | done | rfl | (simp only [List.length_drop, List.length_take]; rfl)) ?_; (with_reducible refine (pcm_May.calls a1_0 a1_1 true _ A5.out).mono ?_); rintro e w10 ⟨rfl, hb⟩; refine ⟨_, rfl, ?_⟩; have n0_ := Aside0.mk (blk_below (g := gb105) (o := .cells #[.int .i64 a1_0, .int .i64 a1_1] 23 (0, 0)) (by (with_reducible repeat (first | refine blk_drewN ?_ _ | refine blk_drew ?_ | refine blk_alloc ?_ _)); exact BK105.out) hb); have n1_ := Aside0.mk (below_step (by repeat (first | (with_reducible first | exact HB.out | apply below_alloc | apply pw_below_drewN | apply below_drew1 | refine below_set ?_ GE105.out) | exact HB.out)) hb); clear BK105; clear HB; have BK105 := n0_; have HB := n1_; clear n0_ n1_; (try clear hb); (try clear hb2); (try clear hk); (try clear hi); have hcz11_0 : w10.cell? ⟨gb105, 0, none⟩ = some (.int .i64 a1_0) := (blk_cell BK105.out 0).trans rfl; have hcz11_1 : w10.cell? ⟨gb105, 1, none⟩ = some (.int .i64 a1_1) := (blk_cell BK105.out 1).trans rfl; have hfz11_0 := blk_frozen BK105.out 0; have hfz11_1 := blk_frozen BK105.out 1) | (go_at_call 33; (with_reducible refine (pcm_Frames.calls a0 a1_0 a1_1 true _ A7.out).mono ?_); rintro e w12 ⟨rfl, hb⟩; have n0_ := Aside0.mk (blk_below (g := gb105) (o := .cells #[.int .i64 a1_0, .int .i64 a1_1] 23 (0, 0)) (by (with_reducible repeat (first | refine blk_drewN ?_ _ | refine blk_drew ?_ | refine blk_alloc ?_ _)); exact BK105.out) hb); have n1_ := Aside0.mk (below_step (by repeat (first | (with_reducible first | exact HB.out | apply below_alloc | apply pw_below_drewN | apply below_drew1 | refine below_set ?_ GE105.out) | exact HB.out)) hb); clear BK105; clear HB; have BK105 := n0_; have HB := n1_; clear n0_ n1_; (try clear hb); (try clear hb2); (try clear hk); (try clear hi)))
        go_meet
        case rel => exact ⟨_, (decide ((a0.size : Int) > 4096)), (by first | rfl | (simp; done) | (simp [*]; done)), H', ⟨by first | omega | exact Nat.le_refl _⟩, ⟨by (with_reducible repeat (first | refine blk_drewN ?_ _ | refine blk_drew ?_ | refine blk_alloc ?_ _)); exact BK105.out⟩, ⟨by repeat (first | (with_reducible first | exact HB.out | apply below_alloc | apply pw_below_drewN | apply below_drew1 | refine below_set ?_ GE105.out) | exact HB.out)⟩⟩
      · replace c8 := Bool.eq_false_iff.mpr c8
        subst c8
        have H1 : (pcm_Get.j0 k a0 true a1_0 a1_1) = some (r1, r2) := by rw [if_neg (show ¬ (false = true) by decide)] at H; exact H
        clear H
        have H := H1
        clear H1
        have H' := Aside0.mk H
        clear H
        have hcz13_0 : w4.cell? ⟨gb105, 0, none⟩ = some (.int .i64 a1_0) := (blk_cell BK105.out 0).trans rfl
        have hcz13_1 : w4.cell? ⟨gb105, 1, none⟩ = some (.int .i64 a1_1) := (blk_cell BK105.out 1).trans rfl
        have hfz13_0 := blk_frozen BK105.out 0
        have hfz13_1 := blk_frozen BK105.out 1
        go_wp2_with (first | ((with_reducible refine gate_callee (f := 27) rfl ?_); refine goesL_ (some 11) rfl rfl Tryz.func27 (by kernel_rfl) rfl #[.agg #[.int .i64 a1_0, .int .i64 a1_1]] rfl (by (try simp only [List.map_toArray, List.map_cons, List.map_nil]); first | done | rfl | (simp only [List.length_drop, List.length_take]; rfl)) ?_; (with_reducible refine (pcm_May.calls a1_0 a1_1 true _ A5.out).mono ?_); rintro e w14 ⟨rfl, hb⟩; refine ⟨_, rfl, ?_⟩; have n0_ := Aside0.mk (blk_below (g := gb105) (o := .cells #[.int .i64 a1_0, .int .i64 a1_1] 23 (0, 0)) (by (with_reducible repeat (first | refine blk_drewN ?_ _ | refine blk_drew ?_ | refine blk_alloc ?_ _)); exact BK105.out) hb); have n1_ := Aside0.mk (below_step (by repeat (first | (with_reducible first | exact HB.out | apply below_alloc | apply pw_below_drewN | apply below_drew1 | refine below_set ?_ GE105.out) | exact HB.out)) hb); clear BK105; clear HB; have BK105 := n0_; have HB := n1_; clear n0_ n1_; (try clear hb); (try clear hb2); (try clear hk); (try clear hi); have hcz15_0 : w14.cell? ⟨gb105, 0, none⟩ = some (.int .i64 a1_0) := (blk_cell BK105.out 0).trans rfl; have hcz15_1 : w14.cell? ⟨gb105, 1, none⟩ = some (.int .i64 a1_1) := (blk_cell BK105.out 1).trans rfl; have hfz15_0 := blk_frozen BK105.out 0; have hfz15_1 := blk_frozen BK105.out 1) | (go_at_call 33; (with_reducible refine (pcm_Frames.calls a0 a1_0 a1_1 false _ A7.out).mono ?_); rintro e w16 ⟨rfl, hb⟩; have n0_ := Aside0.mk (blk_below (g := gb105) (o := .cells #[.int .i64 a1_0, .int .i64 a1_1] 23 (0, 0)) (by (with_reducible repeat (first | refine blk_drewN ?_ _ | refine blk_drew ?_ | refine blk_alloc ?_ _)); exact BK105.out) hb); have n1_ := Aside0.mk (below_step (by repeat (first | (with_reducible first | exact HB.out | apply below_alloc | apply pw_below_drewN | apply below_drew1 | refine below_set ?_ GE105.out) | exact HB.out)) hb); clear BK105; clear HB; have BK105 := n0_; have HB := n1_; clear n0_ n1_; (try clear hb); (try clear hb2); (try clear hk); (try clear hi)))
        go_meet
        case rel => exact ⟨_, (true), (by first | rfl | (simp; done) | (simp [*]; done)), H', ⟨by first | omega | exact Nat.le_refl _⟩, ⟨by (with_reducible repeat (first | refine blk_drewN ?_ _ | refine blk_drew ?_ | refine blk_alloc ?_ _)); exact BK105.out⟩, ⟨by repeat (first | (with_reducible first | exact HB.out | apply below_alloc | apply pw_below_drewN | apply below_drew1 | refine below_set ?_ GE105.out) | exact HB.out)⟩⟩
    · replace c6 := Bool.eq_false_iff.mpr c6
      subst c6
      have H1 : (pcm_Get.j0 k a0 true a1_0 a1_1) = some (r1, r2) := by rw [if_neg (show ¬ (false = true) by decide)] at H; exact H
      clear H
      have H := H1
      clear H1
      have H' := Aside0.mk H
      clear H
      have hcz17_0 : w4.cell? ⟨gb105, 0, none⟩ = some (.int .i64 a1_0) := (blk_cell BK105.out 0).trans rfl
      have hcz17_1 : w4.cell? ⟨gb105, 1, none⟩ = some (.int .i64 a1_1) := (blk_cell BK105.out 1).trans rfl
      have hfz17_0 := blk_frozen BK105.out 0
      have hfz17_1 := blk_frozen BK105.out 1
      go_wp2_with (first | ((with_reducible refine gate_callee (f := 27) rfl ?_); refine goesL_ (some 11) rfl rfl Tryz.func27 (by kernel_rfl) rfl #[.agg #[.int .i64 a1_0, .int .i64 a1_1]] rfl (by (try simp only [List.map_toArray, List.map_cons, List.map_nil]); first | done | rfl | (simp only [List.length_drop, List.length_take]; rfl)) ?_; (with_reducible refine (pcm_May.calls a1_0 a1_1 false _ A5.out).mono ?_); rintro e w18 ⟨rfl, hb⟩; refine ⟨_, rfl, ?_⟩; have n0_ := Aside0.mk (blk_below (g := gb105) (o := .cells #[.int .i64 a1_0, .int .i64 a1_1] 23 (0, 0)) (by (with_reducible repeat (first | refine blk_drewN ?_ _ | refine blk_drew ?_ | refine blk_alloc ?_ _)); exact BK105.out) hb); have n1_ := Aside0.mk (below_step (by repeat (first | (with_reducible first | exact HB.out | apply below_alloc | apply pw_below_drewN | apply below_drew1 | refine below_set ?_ GE105.out) | exact HB.out)) hb); clear BK105; clear HB; have BK105 := n0_; have HB := n1_; clear n0_ n1_; (try clear hb); (try clear hb2); (try clear hk); (try clear hi)))
      go_meet
      case rel => exact ⟨_, (true), (by first | rfl | (simp; done) | (simp [*]; done)), H', ⟨by first | omega | exact Nat.le_refl _⟩, ⟨by (with_reducible repeat (first | refine blk_drewN ?_ _ | refine blk_drew ?_ | refine blk_alloc ?_ _)); exact BK105.out⟩, ⟨by repeat (first | (with_reducible first | exact HB.out | apply below_alloc | apply pw_below_drewN | apply below_drew1 | refine below_set ?_ GE105.out) | exact HB.out)⟩⟩
  case rest =>
    clear HC3
    try clear c2
    try clear p2
    try clear c6
    try clear c8
    try clear hcz11_0
    try clear hcz11_1
    try clear hcz13_0
    try clear hcz13_1
    try clear hcz15_0
    try clear hcz15_1
    try clear hcz17_0
    try clear hcz17_1
    try clear hcz9_0
    try clear hcz9_1
    try clear hfz11_0
    try clear hfz11_1
    try clear hfz13_0
    try clear hfz13_1
    try clear hfz15_0
    try clear hfz15_1
    try clear hfz17_0
    try clear hfz17_1
    try clear hfz9_0
    try clear hfz9_1
    obtain ⟨kq, x23_2, rfl, HA, HJ2, BK105, HB⟩ := hcut
    cases kq with
    | zero => exact absurd HA.out (by simp [pcm_Get.j0])
    | succ kj2 =>
      have H := HA.out
      clear HA
      simp only [pcm_Get.j0] at H
      by_cases c19 : x23_2 = true
      · subst c19
        have H1 : (some (([] : List (List Int)), 1900)) = some (r1, r2) := by rw [if_pos rfl] at H; exact H
        clear H
        have H := H1
        clear H1
        simp only [Option.some.injEq, Prod.mk.injEq] at H
        obtain ⟨rfl, rfl⟩ := H
        go_wp2
        go_ret2
        exact ⟨_, by first | rfl | (simp [errW_none, errW_some] <;> rfl) | (simp [*, errW_none, errW_some] <;> rfl), by first | exact Kd.S_nil _ _ _ _ _ | exact Kd.N_nil _ _ _ _ _ | exact Kd.V_nil _ _ _ _ _ | exact Kd.Q_nil _ _ _ _ _ | exact Kd.R_nil _ _ _ _ _, by repeat (first | (with_reducible first | exact HB.out | apply below_alloc | apply pw_below_drewN | apply below_drew1 | refine below_set ?_ GE105.out) | exact HB.out)⟩
      · replace c19 := Bool.eq_false_iff.mpr c19
        subst c19
        have H1 : (if 0 ≤ a1_0 then (if (a1_0 : Int).toNat ≤ 11728124029610 then (pcm_Get.l0 kj2 a0 (List.replicate (a1_0 : Int).toNat []) (wrap64 (Int.tdiv a1_1 8)) 0 a1_0 a1_1) else (none)) else (none)) = some (r1, r2) := by rw [if_neg (show ¬ (false = true) by decide)] at H; exact H
        clear H
        have H := H1
        clear H1
        by_cases c20 : 0 ≤ a1_0
        · rw [if_pos c20] at H
          have c20b0 := eq_true c20
          have c20b1 : decide (0 ≤ a1_0) = true := decide_eq_true c20
          clear c20
          by_cases c21 : (a1_0 : Int).toNat ≤ 11728124029610
          · rw [if_pos c21] at H
            have c21b0 := eq_true c21
            have c21b1 : decide ((a1_0 : Int).toNat ≤ 11728124029610) = true := decide_eq_true c21
            clear c21
            obtain ⟨y108, hy108⟩ : ∃ y_ : List (List Int), y_ = (List.replicate (a1_0 : Int).toNat []) := ⟨_, rfl⟩
            replace H : (pcm_Get.l0 kj2 a0 y108 (wrap64 (Int.tdiv a1_1 8)) 0 a1_0 a1_1) = some (r1, r2) := by first | (rw [hy108]; with_reducible exact H) | (have H2_ := (Option.bind_some _ _).symm.trans H; rw [hy108]; with_reducible exact H2_) | (have H2_ := (Option.bind_some _ _).symm.trans H; with_reducible exact H2_) | with_reducible exact H | (rw [hy108]; exact H) | exact H
            have Ny108 := Aside0.mk hy108
            clear hy108
            have H' := Aside0.mk H
            clear H
            have hcz22_0 : wc.cell? ⟨gb105, 0, none⟩ = some (.int .i64 a1_0) := (blk_cell BK105.out 0).trans rfl
            have hcz22_1 : wc.cell? ⟨gb105, 1, none⟩ = some (.int .i64 a1_1) := (blk_cell BK105.out 1).trans rfl
            have hfz22_0 := blk_frozen BK105.out 0
            have hfz22_1 := blk_frozen BK105.out 1
            go_wp2_with (first | ((with_reducible refine gate_dst (N := 26) rfl ?_); (try (refine gate_guard (by rfl) ?_; dsimp only)); refine Kd.S_make (Kd.slice 3 (Kd.int .i64)) _ 39 rfl (N := 26) rfl 42 _ _ rfl a1_0 rfl rfl Tryz.underlying42 (.slice none 0 0) 24 info39 rfl (by decide) (by omega) [] (ok := fun _ => True) (okp := fun _ => True) ⟨_, rfl, Kd.R_nil _ _ _ _ _⟩ (fun _ hk => hk) trivial (of_decide_eq_true (by first | (with_reducible assumption) | assumption)) (Nat.le_trans (Nat.mul_le_mul_right _ (of_decide_eq_true (by first | (with_reducible assumption) | assumption) : a1_0.toNat ≤ 11728124029610)) (by omega)) (Below.refl _ _) (Nat.le_refl _) ?_; intro v109 w23 ho24 hb hg_ hnew_; clear hg_ hnew_; (first | rw [← Ny108.out] at ho24 | (simp only [Int.reduceToNat] at ho24; rw [← Ny108.out] at ho24)); have n0_ := Aside0.mk (Kd.S_lower ho24 (below_size (by repeat (first | (with_reducible first | exact HB.out | apply below_alloc | apply pw_below_drewN | apply below_drew1 | refine below_set ?_ GE105.out) | exact HB.out)))); have n1_ := Aside0.mk (blk_below (g := gb105) (o := .cells #[.int .i64 a1_0, .int .i64 a1_1] 23 (0, 0)) (by (with_reducible repeat (first | refine blk_drewN ?_ _ | refine blk_drew ?_ | refine blk_alloc ?_ _)); exact BK105.out) hb); have n2_ := Aside0.mk (below_step (by repeat (first | (with_reducible first | exact HB.out | apply below_alloc | apply pw_below_drewN | apply below_drew1 | refine below_set ?_ GE105.out) | exact HB.out)) hb); clear BK105; clear HB; have HO110 := n0_; have BK105 := n1_; have HB := n2_; clear n0_ n1_ n2_; clear hb ho24; have hcz25_0 : w23.cell? ⟨gb105, 0, none⟩ = some (.int .i64 a1_0) := (blk_cell BK105.out 0).trans rfl; have hcz25_1 : w23.cell? ⟨gb105, 1, none⟩ = some (.int .i64 a1_1) := (blk_cell BK105.out 1).trans rfl; have hfz25_0 := blk_frozen BK105.out 0; have hfz25_1 := blk_frozen BK105.out 1))
            go_loopg [8] kj2 (fun kq v8 w' => ∃ (x6_2 : List (List Int)) (x8_2 : Int), v8 = .int .i64 x8_2 ∧ Aside0 (pcm_Get.l0 kq a0 x6_2 (wrap64 (Int.tdiv a1_1 8)) x8_2 a1_0 a1_1 = some (r1, r2)) ∧ Aside0 (kq ≤ kj2) ∧ Aside0 (Kd.S (Kd.slice 3 (Kd.int .i64)) 39 w' w.heap.size (fun _ => True) v109 x6_2) ∧ Aside0 (w'.heap[gb105]? = some (.cells #[.int .i64 a1_0, .int .i64 a1_1] 23 (0, 0))) ∧ Aside0 (Below w.heap.size w w'))
            case atStart => exact ⟨(y108), (0), (by first | rfl | (simp; done) | (simp [*]; done)), H', ⟨Nat.le_refl _⟩, ⟨by (with_reducible repeat (first | apply Kd.S_alloc | apply Kd.S_drewN | apply Kd.S_drew)); exact HO110.out⟩, ⟨by (with_reducible repeat (first | refine blk_drewN ?_ _ | refine blk_drew ?_ | refine blk_alloc ?_ _)); exact BK105.out⟩, ⟨by repeat (first | (with_reducible first | exact HB.out | apply below_alloc | apply pw_below_drewN | apply below_drew1 | refine below_set ?_ GE105.out) | exact HB.out)⟩⟩
            case round =>
              clear H'
              try clear c1
              try clear c2
              try clear p2
              try clear c6
              try clear p6
              try clear c8
              try clear c19
              try clear c20
              try clear c20b0
              try clear c20b1
              try clear c21
              try clear c21b0
              try clear c21b1
              try clear hcz11_0
              try clear hcz11_1
              try clear hcz13_0
              try clear hcz13_1
              try clear hcz15_0
              try clear hcz15_1
              try clear hcz17_0
              try clear hcz17_1
              try clear hcz22_0
              try clear hcz22_1
              try clear hcz25_0
              try clear hcz25_1
              try clear hcz9_0
              try clear hcz9_1
              try clear hfz11_0
              try clear hfz11_1
              try clear hfz13_0
              try clear hfz13_1
              try clear hfz15_0
              try clear hfz15_1
              try clear hfz17_0
              try clear hfz17_1
              try clear hfz22_0
              try clear hfz22_1
              try clear hfz25_0
              try clear hfz25_1
              try clear hfz9_0
              try clear hfz9_1
              try clear p2
              obtain ⟨x6_2, x8_2, rfl, HA, HK2, HO_6, BK105, HB⟩ := hrel
              cases gk with
              | zero => exact absurd HA.out (by simp [pcm_Get.l0])
              | succ k2 =>
                have H := HA.out
                clear HA
                simp only [pcm_Get.l0] at H
                by_cases c26 : (wrap64 (x8_2 * (wrap64 (Int.tdiv a1_1 8)))) < (a0.size : Int)
                · rw [if_pos c26] at H
                  have c26b0 : decide ((wrap64 (x8_2 * (wrap64 (Int.tdiv a1_1 8)))) < (a0.size : Int)) = true := decide_eq_true c26
                  clear c26
                  by_cases c27 : a1_0 = 0
                  · rw [if_pos c27] at H
                    exact absurd H (by simp)
                  · rw [if_neg c27] at H
                    have c27b0 : (a1_0 == 0) = false := beq_eq_false_iff_ne.mpr c27
                    have c27b1 : (a1_0 != 0) = true := bne_iff_ne.mpr c27
                    obtain ⟨ji28, hji28⟩ : ∃ j_ : Int, (Int.tmod x8_2 a1_0) = j_ := ⟨_, rfl⟩
                    replace H : (if 0 ≤ (ji28) then (if (ji28) < (x6_2.length : Int) then (if 0 ≤ (wrap64 (x8_2 * (wrap64 (Int.tdiv a1_1 8)))) then (if (wrap64 (x8_2 * (wrap64 (Int.tdiv a1_1 8)))) ≤ (wrap64 ((wrap64 (x8_2 + 1)) * (wrap64 (Int.tdiv a1_1 8)))) then (if (wrap64 ((wrap64 (x8_2 + 1)) * (wrap64 (Int.tdiv a1_1 8)))) ≤ (a0.size : Int) then ((pcm_sample.f (a0.extract ((wrap64 (x8_2 * (wrap64 (Int.tdiv a1_1 8)))) : Int).toNat ((wrap64 ((wrap64 (x8_2 + 1)) * (wrap64 (Int.tdiv a1_1 8)))) : Int).toNat)).bind fun t112 => (if (rd_L1 x6_2 (ji28)).length < 17592186044416 then (pcm_Get.l0 k2 a0 (x6_2.set ((ji28) : Int).toNat ((rd_L1 x6_2 (ji28)) ++ [t112])) (wrap64 (Int.tdiv a1_1 8)) (wrap64 (x8_2 + 1)) a1_0 a1_1) else (none))) else (none)) else (none)) else (none)) else (none)) else (none)) = some (r1, r2) := by first | (rw [hji28] at H; exact H) | (simp only [hji28] at H ⊢; exact H)
                    by_cases c29 : 0 ≤ (ji28)
                    · rw [if_pos c29] at H
                      have c29b0 : decide (0 ≤ (ji28)) = true := decide_eq_true c29
                      clear c29
                      by_cases c30 : (ji28) < (x6_2.length : Int)
                      · rw [if_pos c30] at H
                        have c30b0 : decide ((ji28) < (x6_2.length : Int)) = true := decide_eq_true c30
                        clear c30
                        obtain ⟨ji31, hji31⟩ : ∃ j_ : Int, (wrap64 (x8_2 * (wrap64 (Int.tdiv a1_1 8)))) = j_ := ⟨_, rfl⟩
                        replace H : (if 0 ≤ (ji31) then (if (ji31) ≤ (wrap64 ((wrap64 (x8_2 + 1)) * (wrap64 (Int.tdiv a1_1 8)))) then (if (wrap64 ((wrap64 (x8_2 + 1)) * (wrap64 (Int.tdiv a1_1 8)))) ≤ (a0.size : Int) then ((pcm_sample.f (a0.extract ((ji31) : Int).toNat ((wrap64 ((wrap64 (x8_2 + 1)) * (wrap64 (Int.tdiv a1_1 8)))) : Int).toNat)).bind fun t112 => (if (rd_L1 x6_2 (ji28)).length < 17592186044416 then (pcm_Get.l0 k2 a0 (x6_2.set ((ji28) : Int).toNat ((rd_L1 x6_2 (ji28)) ++ [t112])) (wrap64 (Int.tdiv a1_1 8)) (wrap64 (x8_2 + 1)) a1_0 a1_1) else (none))) else (none)) else (none)) else (none)) = some (r1, r2) := by first | (rw [hji31] at H; exact H) | (simp only [hji31] at H ⊢; exact H)
                        (try rw [hji31] at c26b0)
                        have hji31w : (IntKind.i64.wrap (x8_2 * (wrap64 (Int.tdiv a1_1 8)))) = ji31 := (i64_w _).trans hji31
                        by_cases c32 : 0 ≤ (ji31)
                        · rw [if_pos c32] at H
                          have c32b0 := eq_true c32
                          have c32b1 : decide (0 ≤ (ji31)) = true := decide_eq_true c32
                          clear c32
                          by_cases c33 : (ji31) ≤ (wrap64 ((wrap64 (x8_2 + 1)) * (wrap64 (Int.tdiv a1_1 8))))
                          · rw [if_pos c33] at H
                            have c33b0 := eq_true c33
                            have c33b1 : decide ((ji31) ≤ (wrap64 ((wrap64 (x8_2 + 1)) * (wrap64 (Int.tdiv a1_1 8))))) = true := decide_eq_true c33
                            by_cases c34 : (wrap64 ((wrap64 (x8_2 + 1)) * (wrap64 (Int.tdiv a1_1 8)))) ≤ (a0.size : Int)
                            · rw [if_pos c34] at H
                              have c34b0 := eq_true c34
                              have c34b1 : decide ((wrap64 ((wrap64 (x8_2 + 1)) * (wrap64 (Int.tdiv a1_1 8)))) ≤ (a0.size : Int)) = true := decide_eq_true c34
                              replace H := Option.bind_eq_some_iff.mp H
                              obtain ⟨t112, A350, H⟩ := H
                              replace H : (if (rd_L1 x6_2 (ji28)).length < 17592186044416 then (pcm_Get.l0 k2 a0 (x6_2.set ((ji28) : Int).toNat ((rd_L1 x6_2 (ji28)) ++ [t112])) (wrap64 (Int.tdiv a1_1 8)) (wrap64 (x8_2 + 1)) a1_0 a1_1) else (none)) = some (r1, r2) := H
                              have A35 := Aside0.mk A350
                              clear A350
                              by_cases c36 : (rd_L1 x6_2 (ji28)).length < 17592186044416
                              · rw [if_pos c36] at H
                                have LMc36 := Aside0.mk c36
                                clear c36
                                obtain ⟨y113, hy113⟩ : ∃ y_ : List Int, y_ = ((rd_L1 x6_2 (ji28)) ++ [t112]) := ⟨_, rfl⟩
                                replace H : (pcm_Get.l0 k2 a0 (x6_2.set ((ji28) : Int).toNat y113) (wrap64 (Int.tdiv a1_1 8)) (wrap64 (x8_2 + 1)) a1_0 a1_1) = some (r1, r2) := by first | (rw [hy113]; with_reducible exact H) | (have H2_ := (Option.bind_some _ _).symm.trans H; rw [hy113]; with_reducible exact H2_) | (have H2_ := (Option.bind_some _ _).symm.trans H; with_reducible exact H2_) | with_reducible exact H | (rw [hy113]; exact H) | exact H
                                have Ny113 := Aside0.mk hy113
                                clear hy113
                                obtain ⟨y116, hy116⟩ : ∃ y_ : List (List Int), y_ = (x6_2.set ((ji28) : Int).toNat y113) := ⟨_, rfl⟩
                                replace H : (pcm_Get.l0 k2 a0 y116 (wrap64 (Int.tdiv a1_1 8)) (wrap64 (x8_2 + 1)) a1_0 a1_1) = some (r1, r2) := by first | (rw [hy116]; with_reducible exact H) | (have H2_ := (Option.bind_some _ _).symm.trans H; rw [hy116]; with_reducible exact H2_) | (have H2_ := (Option.bind_some _ _).symm.trans H; with_reducible exact H2_) | with_reducible exact H | (rw [hy116]; exact H) | exact H
                                have Ny116 := Aside0.mk hy116
                                clear hy116
                                have H' := Aside0.mk H
                                clear H
                                have hcz38_0 : wr.cell? ⟨gb105, 0, none⟩ = some (.int .i64 a1_0) := (blk_cell BK105.out 0).trans rfl
                                have hcz38_1 : wr.cell? ⟨gb105, 1, none⟩ = some (.int .i64 a1_1) := (blk_cell BK105.out 1).trans rfl
                                have hfz38_0 := blk_frozen BK105.out 0
                                have hfz38_1 := blk_frozen BK105.out 1
                                try go_wp2
                                have n0_ := Aside0.mk (Kd.S_drew HO_6.out)
                                have n1_ := Aside0.mk (blk_drew BK105.out)
                                have n2_ := Aside0.mk (below_drew1 HB.out)
                                clear HO_6
                                clear BK105
                                clear HB
                                have HO_6 := n0_
                                have BK105 := n1_
                                have HB := n2_
                                clear n0_ n1_ n2_
                                obtain ⟨Ao40, co40, eo40⟩ := Kd.S_slice HO_6.out
                                (first | subst eo40 | (injection eo40 with f1_ f2_ f3_; have f4_ := f1_.symm; have f5_ := f3_.symm; clear f1_ f2_ f3_; subst f4_; subst f5_))
                                have p111 : 0 ≤ ((ji28) : Int) := of_decide_eq_true (by first | (with_reducible assumption) | assumption)
                                have q111 : (ji28) < (x6_2.length : Int) := of_decide_eq_true (by first | (with_reducible assumption) | assumption)
                                obtain ⟨ad111, A111_0, c111_0, e111, hx111_0, hl111_0, hi111_0⟩ := at_L1 (Kd.S_reads' HO_6.out).2.2 (ji28) p111 q111
                                cases e111
                                obtain ⟨ce111, hce111, hMe111, hcc111⟩ := Kd.S_get HO_6.out [] (ji28) p111 (by first | exact q111 | exact of_decide_eq_true (by first | (with_reducible assumption) | assumption) | (have e_ := (Kd.S_reads' HO_6.out).1; omega))
                                obtain ⟨ve111_0, rfl, ge111_0⟩ := hMe111
                                have hv111_0 := hcc111 0 _ rfl
                                rw [Nat.add_zero, show ((Kd.slice 3 (Kd.int .i64))).sz = 1 from rfl, Nat.mul_one] at hv111_0
                                replace hv111_0 := Option.some.inj (hv111_0.symm.trans hx111_0)
                                rw [hv111_0] at ge111_0
                                have HL111_0 := Aside0.mk (show Kd.R (Kd.int .i64) 3 _ _ _ _ (rd_L1 x6_2 (ji28)) from ge111_0)
                                clear hv111_0 ge111_0
                                have HX111_0 := Aside0.mk hx111_0
                                clear hcc111 hce111
                                have HR111_0 := Aside0.mk hi111_0
                                have HC111_0 := Aside0.mk hl111_0
                                clear hi111_0 hl111_0
                                replace p111 := eq_true p111
                                replace q111 := eq_true q111
                                refine start_ (n := 20) (S := fun w' => w'.cell? (ad111.add ((ji28)).toNat) = some (.slice A111_0 (rd_L1 x6_2 (ji28)).length c111_0)) (ds := [19]) #[false, false, false, false, false, false, false, false, false, false, false, false, false, false, false, false, false, false, false, false] (by kernel_rfl) rfl rfl (hx111_0) (fun hHeld => ?_); refine with_tabW pcm_Get.tab9 pcm_Get.bits9 (fun HT_ HW_ => ?_)
                                generalize wr.drew = w39 at HO_6 BK105 HB HL111_0 HR111_0 HX111_0 hx111_0 hHeld ⊢
                                refine pure_ (i := 0) (N := some 42) (v := ?_) (a' := ?_) #[true, false, false, false, false, false, false, false, false, false, false, false, false, false, false, false, false, false, false, false] rfl rfl (any_of HT_.out (by kernel_rfl)) (fun _ _ _ h => h) (Or.inl ⟨by rfl, ?_⟩) ?_ ?_
                                rotate_left
                                · intro w'
                                  go_simp
                                  with_reducible rfl
                                rotate_left
                                · simp only [Act.put, List.setIfInBounds_toArray, List.set_cons_zero, List.set_cons_succ, i64_w, i32_w]
                                  rfl
                                refine pure_ (i := 1) (N := some 43) (v := ?_) (a' := ?_) #[true, true, false, false, false, false, false, false, false, false, false, false, false, false, false, false, false, false, false, false] rfl rfl (any_of HT_.out (by kernel_rfl)) (fun _ _ _ h => h) (Or.inl ⟨by rfl, ?_⟩) ?_ ?_
                                rotate_left
                                · intro w'
                                  go_simp
                                  with_reducible rfl
                                rotate_left
                                · simp only [Act.put, List.setIfInBounds_toArray, List.set_cons_zero, List.set_cons_succ, i64_w, i32_w]
                                  rfl
                                refine pure_ (i := 2) (N := some 44) (v := ?_) (a' := ?_) #[true, true, true, false, false, false, false, false, false, false, false, false, false, false, false, false, false, false, false, false] rfl rfl (any_of HT_.out (by kernel_rfl)) (fun _ _ _ h => h) (Or.inl ⟨by rfl, ?_⟩) ?_ ?_
                                rotate_left
                                · intro w'
                                  go_simp
                                  with_reducible rfl
                                rotate_left
                                · simp only [Act.put, List.setIfInBounds_toArray, List.set_cons_zero, List.set_cons_succ, i64_w, i32_w]
                                  rfl
                                refine pure_ (i := 3) (N := some 45) (v := ?_) (a' := ?_) #[true, true, true, true, false, false, false, false, false, false, false, false, false, false, false, false, false, false, false, false] rfl rfl (any_of HT_.out (by kernel_rfl)) (fun _ _ _ h => h) (Or.inl ⟨by rfl, ?_⟩) ?_ ?_
                                rotate_left
                                · intro w'
                                  go_simp
                                  with_reducible rfl
                                rotate_left
                                · simp only [Act.put, List.setIfInBounds_toArray, List.set_cons_zero, List.set_cons_succ, i64_w, i32_w]
                                  rfl
                                refine pure_ (i := 4) (N := some 46) (v := ?_) (a' := ?_) #[true, true, true, true, true, false, false, false, false, false, false, false, false, false, false, false, false, false, false, false] rfl rfl (any_of HT_.out (by kernel_rfl)) (fun _ _ _ h => h) (Or.inl ⟨by rfl, ?_⟩) ?_ ?_
                                rotate_left
                                · intro w'
                                  go_simp
                                  with_reducible rfl
                                rotate_left
                                · simp only [Act.put, List.setIfInBounds_toArray, List.set_cons_zero, List.set_cons_succ, i64_w, i32_w]
                                  rfl
                                refine pure_ (i := 6) (N := some 48) (v := ?_) (a' := ?_) #[true, true, true, true, true, false, true, false, false, false, false, false, false, false, false, false, false, false, false, false] rfl rfl (any_of HT_.out (by kernel_rfl)) (fun _ _ _ h => h) (Or.inl ⟨by rfl, ?_⟩) ?_ ?_
                                rotate_left
                                · intro w'
                                  go_simp
                                  with_reducible rfl
                                rotate_left
                                · simp only [Act.put, List.setIfInBounds_toArray, List.set_cons_zero, List.set_cons_succ, i64_w, i32_w]
                                  rfl
                                refine pure_ (i := 7) (N := some 49) (v := ?_) (a' := ?_) #[true, true, true, true, true, false, true, true, false, false, false, false, false, false, false, false, false, false, false, false] rfl rfl (any_of HT_.out (by kernel_rfl)) (fun _ _ _ h => h) (Or.inl ⟨by rfl, ?_⟩) ?_ ?_
                                rotate_left
                                · intro w'
                                  go_simp
                                  with_reducible rfl
                                rotate_left
                                · simp only [Act.put, List.setIfInBounds_toArray, List.set_cons_zero, List.set_cons_succ, i64_w, i32_w]
                                  rfl
                                refine pure_ (i := 8) (N := some 50) (v := ?_) (a' := ?_) #[true, true, true, true, true, false, true, true, true, false, false, false, false, false, false, false, false, false, false, false] rfl rfl (any_of HT_.out (by kernel_rfl)) (fun _ _ _ h => h) (Or.inl ⟨by rfl, ?_⟩) ?_ ?_
                                rotate_left
                                · intro w'
                                  go_simp
                                  with_reducible rfl
                                rotate_left
                                · simp only [Act.put, List.setIfInBounds_toArray, List.set_cons_zero, List.set_cons_succ, i64_w, i32_w]
                                  rfl
                                refine pure_ (i := 9) (N := some 51) (v := ?_) (a' := ?_) #[true, true, true, true, true, false, true, true, true, true, false, false, false, false, false, false, false, false, false, false] rfl rfl (any_of HT_.out (by kernel_rfl)) (fun _ _ _ h => h) (Or.inl ⟨by rfl, ?_⟩) ?_ ?_
                                rotate_left
                                · intro w'
                                  go_simp
                                  with_reducible rfl
                                rotate_left
                                · simp only [Act.put, List.setIfInBounds_toArray, List.set_cons_zero, List.set_cons_succ, i64_w, i32_w]
                                  rfl
                                refine pure_ (i := 10) (N := some 52) (v := ?_) (a' := ?_) #[true, true, true, true, true, false, true, true, true, true, true, false, false, false, false, false, false, false, false, false] rfl rfl (any_of HT_.out (by kernel_rfl)) (fun _ _ _ h => h) (Or.inl ⟨by rfl, ?_⟩) ?_ ?_
                                rotate_left
                                · intro w'
                                  go_simp
                                  with_reducible rfl
                                rotate_left
                                · simp only [Act.put, List.setIfInBounds_toArray, List.set_cons_zero, List.set_cons_succ, i64_w, i32_w]
                                  rfl
                                refine pure_ (i := 11) (N := some 53) (v := ?_) (a' := ?_) #[true, true, true, true, true, false, true, true, true, true, true, true, false, false, false, false, false, false, false, false] rfl rfl (any_of HT_.out (by kernel_rfl)) (fun _ _ _ h => h) (Or.inl ⟨by rfl, ?_⟩) ?_ ?_
                                rotate_left
                                · intro w'
                                  go_simp
                                  with_reducible rfl
                                rotate_left
                                · simp only [Act.put, List.setIfInBounds_toArray, List.set_cons_zero, List.set_cons_succ, i64_w, i32_w]
                                  rfl
                                refine pure_ (i := 12) (N := some 54) (v := ?_) (a' := ?_) #[true, true, true, true, true, false, true, true, true, true, true, true, true, false, false, false, false, false, false, false] rfl rfl (any_of HT_.out (by kernel_rfl)) (fun _ _ _ h => h) (Or.inl ⟨by rfl, ?_⟩) ?_ ?_
                                rotate_left
                                · intro w'
                                  go_simp
                                  with_reducible rfl
                                rotate_left
                                · simp only [Act.put, List.setIfInBounds_toArray, List.set_cons_zero, List.set_cons_succ, i64_w, i32_w]
                                  rfl
                                refine pure_ (i := 13) (N := some 55) (v := ?_) (a' := ?_) #[true, true, true, true, true, false, true, true, true, true, true, true, true, true, false, false, false, false, false, false] rfl rfl (any_of HT_.out (by kernel_rfl)) (fun _ _ _ h => h) (Or.inl ⟨by rfl, ?_⟩) ?_ ?_
                                rotate_left
                                · intro w'
                                  go_simp
                                  with_reducible rfl
                                rotate_left
                                · simp only [Act.put, List.setIfInBounds_toArray, List.set_cons_zero, List.set_cons_succ, i64_w, i32_w]
                                  rfl
                                refine pure_ (i := 14) (N := some 56) (v := ?_) (a' := ?_) #[true, true, true, true, true, false, true, true, true, true, true, true, true, true, true, false, false, false, false, false] rfl rfl (any_of HT_.out (by kernel_rfl)) (fun _ _ _ h => h) (Or.inl ⟨by rfl, ?_⟩) ?_ ?_
                                rotate_left
                                · intro w'
                                  go_simp
                                  with_reducible rfl
                                rotate_left
                                · simp only [Act.put, List.setIfInBounds_toArray, List.set_cons_zero, List.set_cons_succ, i64_w, i32_w]
                                  rfl
                                refine take_ (i := 5) (N := some 47) (v := ?_) (a' := ?_) #[true, true, true, true, true, true, true, true, true, true, true, true, true, true, true, false, false, false, false, false] rfl rfl (take_ofW HT_.out HW_.out (by kernel_rfl)) (fun _ _ _ h => h) (Or.inl ⟨by rfl, ?_⟩) hHeld ?_ ?_
                                rotate_left
                                · intro w' s0
                                  go_simp
                                  with_reducible rfl
                                rotate_left
                                · simp only [Act.put, List.setIfInBounds_toArray, List.set_cons_zero, List.set_cons_succ, i64_w, i32_w]
                                  rfl
                                refine one_ (i := 15) (N := some 57) #[true, true, true, true, true, true, true, true, true, true, true, true, true, true, true, true, false, false, false, false] rfl rfl (one_of HT_.out (by kernel_rfl)) (by decide) (fun K hK => ?_)
                                refine goes_ Tryz.func34 (by kernel_rfl) rfl #[.string (a0.extract ((ji31) : Int).toNat ((wrap64 ((wrap64 (x8_2 + 1)) * (wrap64 (Int.tdiv a1_1 8)))) : Int).toNat)] (by rfl) rfl rfl (by (try simp only [List.map_toArray, List.map_cons, List.map_nil]); first | done | (simp only [hji31]; rfl) | rfl | (simp only [List.length_drop, List.length_take]; rfl)) ?_
                                with_reducible refine (pcm_sample.calls (a0.extract ((ji31) : Int).toNat ((wrap64 ((wrap64 (x8_2 + 1)) * (wrap64 (Int.tdiv a1_1 8)))) : Int).toNat) t112 _ A35.out).mono ?_
                                rintro e w' ⟨rfl, ⟨nd, rfl⟩⟩
                                refine ⟨_, rfl, ?_⟩
                                obtain ⟨go41, co41, eo41, gb41, gl41, cl41, HG41⟩ := Kd.S_form HO_6.out (by have h_ : ((ji28) : Int) < ((x6_2.length : Int) : Int) := of_decide_eq_true (by first | (with_reducible assumption) | assumption); have h2_ : 0 ≤ ((ji28) : Int) := (of_decide_eq_true (by first | (with_reducible assumption) | assumption)); omega)
                                (first | cases eo41 | (injection eo41 with ea_ en_ ec_; (first | subst ea_ | (injection ea_ with ea_; subst ea_)); subst ec_; clear en_))
                                have GB41 := Aside0.mk gb41
                                have GG41 := Aside0.mk HG41
                                clear gb41 gl41 HG41
                                (first | simp only [add_plain] at hx111_0 | skip)
                                obtain ⟨oki41, ce41, hcl41, hM41, hcc41, _, _, hH41⟩ := Kd.S_elem HO_6.out [] ((ji28) : Int) (of_decide_eq_true (by first | (with_reducible assumption) | assumption)) (by have h_ : ((ji28) : Int) < ((x6_2.length : Int) : Int) := of_decide_eq_true (by first | (with_reducible assumption) | assumption); first | exact h_ | (have e_ := (Kd.S_reads' HO_6.out).1; omega) | simpa using h_)
                                obtain ⟨ve41_0, rfl, ge41_0⟩ := hM41
                                have hv41 := hcc41 0 _ rfl
                                have hX41 := HX111_0.out
                                (try simp only [add_plain] at hX41)
                                (try simp only [Nat.add_zero] at hv41)
                                (try rw [show ((Kd.slice 3 (Kd.int .i64))).sz = 1 from rfl, Nat.mul_one] at hv41)
                                replace hv41 := Option.some.inj (hv41.symm.trans hX41)
                                subst hv41
                                clear hX41 hcc41 hcl41
                                have UU41 := Aside0.mk (show Kd.R (Kd.int .i64) 3 _ w.heap.size oki41 (.slice A111_0 (rd_L1 x6_2 (ji28)).length c111_0) (rd_L1 x6_2 (ji28)) from ge41_0)
                                have HH41 := Aside0.mk hH41
                                have HN41 := Aside0.mk (Kd.S_reads' HO_6.out).1
                                clear hH41 ge41_0
                                refine hK.out _ _ (hHeld) (fun hHeld => ?_)
                                clear hK K
                                refine norm_ (a' := ?_) ?_ ?_
                                rotate_left
                                · show Act.put _ (some 57) _ = _
                                  simp only [Act.put, List.setIfInBounds_toArray, List.set_cons_zero, List.set_cons_succ, i64_w, i32_w]
                                  rfl
                                refine one_ (i := 16) (N := some 58) #[true, true, true, true, true, true, true, true, true, true, true, true, true, true, true, true, true, false, false, false] rfl rfl (one_of HT_.out (by kernel_rfl)) (by decide) (fun K hK => ?_)
                                refine value_ (w1 := ?_) (v := ?_) (by rfl) rfl ?_ ?_
                                rotate_left 2
                                · go_simp
                                  constructor
                                  · rfl
                                  · rfl
                                refine hK.out _ _ ((World.cell?_alloc_lt _ _ _ (World.block_lt_of_cell? _ _ (hHeld))).trans (hHeld)) (fun hHeld => ?_)
                                clear hK K
                                refine norm_ (a' := ?_) ?_ ?_
                                rotate_left
                                · show Act.put _ (some 58) _ = _
                                  simp only [Act.put, List.setIfInBounds_toArray, List.set_cons_zero, List.set_cons_succ, i64_w, i32_w]
                                  rfl
                                refine one_ (i := 17) (N := some 59) #[true, true, true, true, true, true, true, true, true, true, true, true, true, true, true, true, true, true, false, false] rfl rfl (one_of HT_.out (by kernel_rfl)) (by decide) (fun K hK => ?_)
                                refine Kd.R_append_step (Kd.int .i64) (w0 := w) w.heap.size (by rfl) (.tmp 47) (.tmp 58) 39 3 (.int .i64 0) 8 rfl Tryz.underlying39 info3 rfl (by decide) (by omega) (.slice A111_0 (rd_L1 x6_2 (ji28)).length c111_0) (rd_L1 x6_2 (ji28)) t112 [.int .i64 t112] (fun k_ => oki41 k_ ∨ ((fun _ => True)) k_ ∧ w39.heap.size ≤ k_) (fun _ => False) rfl rfl ?aP (fun _ hk => hk.elim) ?aF ?aO ?aB ?aS ?aL ?_
                                (case aP => exact rfl)
                                (case aB => exact (by repeat (first | (with_reducible first | exact HB.out | apply below_alloc | apply pw_below_drewN | apply below_drew1 | refine below_set ?_ GE105.out) | exact HB.out)))
                                (case aF => exact (fun k_ hk => .inr ⟨trivial, hk⟩))
                                (case aO => exact (by (with_reducible repeat (first | apply Kd.R_alloc | apply Kd.R_drewN | apply Kd.R_drew)); exact Kd.R_mono UU41.out (fun _ hk => .inl hk)))
                                (case aS => exact (below_size (by repeat (first | (with_reducible first | exact HB.out | apply below_alloc | apply pw_below_drewN | apply below_drew1 | refine below_set ?_ GE105.out) | exact HB.out))))
                                (case aL => have := LMc36.out; omega)
                                intro v114 w42 ho hb hg hat
                                (first | have HS0_ := cell_grown hg (hHeld) (by first | (rw [add_block]; exact (fun e_ => ((HL111_0.out.1 _ e_.symm).2) rfl)) | (show some (Addr.add _ _).block ≠ _; rw [add_block]; exact (fun e_ => ((HL111_0.out.1 _ e_.symm).2) rfl)) | exact (fun e_ => ((HL111_0.out.1 _ e_.symm).2) rfl)) | have HS0_ := cell_grown hg (cell_unalloc (hHeld) (by first | (rw [add_block]; exact Kd.S_lt HO_6.out _ rfl) | (show (Addr.add _ _).block < _; rw [add_block]; exact Kd.S_lt HO_6.out _ rfl) | exact Kd.S_lt HO_6.out _ rfl)) (by first | (rw [add_block]; exact (fun e_ => ((HL111_0.out.1 _ e_.symm).2) rfl)) | (show some (Addr.add _ _).block ≠ _; rw [add_block]; exact (fun e_ => ((HL111_0.out.1 _ e_.symm).2) rfl)) | exact (fun e_ => ((HL111_0.out.1 _ e_.symm).2) rfl)))
                                rw [← Ny113.out] at ho
                                have n0_ := Aside0.mk (blk_grown (g := gb105) (o := .cells #[.int .i64 a1_0, .int .i64 a1_1] 23 (0, 0)) (by (with_reducible repeat (first | refine blk_drewN ?_ _ | refine blk_drew ?_ | refine blk_alloc ?_ _)); exact BK105.out) hg (Kd.R_ne HL111_0.out BK105.out (by decide)))
                                have n1_ := Aside0.mk (hb)
                                have n2_ := Aside0.mk (Kd.H_grown (Kd.H_widen (by repeat (first | exact HH41.out | refine Kd.H_alloc ?_ _ | refine Kd.H_drewN ?_ _ | refine Kd.H_drew ?_))) hg (fun k_ e_ => .inl (UU41.out.1 k_ e_)))
                                have n3_ := Aside0.mk (ho)
                                clear BK105
                                clear HB
                                clear HH41
                                clear HO_6
                                clear UU41
                                clear HL111_0
                                have BK105 := n0_
                                have HB := n1_
                                have HH41 := n2_
                                have HO115 := n3_
                                clear n0_ n1_ n2_ n3_
                                clear ho hb hg hat
                                have p37 : 0 ≤ ((ji28) : Int) := of_decide_eq_true (by first | (with_reducible assumption) | assumption)
                                have q37 : ((ji28) : Int) < ((x6_2.length : Int) : Int) := of_decide_eq_true (by first | (with_reducible assumption) | assumption)
                                replace p37 := eq_true p37
                                replace q37 := eq_true q37
                                obtain ⟨Ao45, co45, eo45⟩ := Kd.R_slice HO115.out
                                (first | subst eo45 | (injection eo45 with f1_ f2_ f3_; have f4_ := f1_.symm; have f5_ := f3_.symm; clear f1_ f2_ f3_; subst f4_; subst f5_))
                                obtain ⟨_, _, hraw43, _, _, hcc43, _⟩ := Kd.H_raw HH41.out (of_decide_eq_true (by first | (with_reducible assumption) | assumption)) (by have h_ : ((ji28) : Int) < ((x6_2.length : Int) : Int) := of_decide_eq_true (by first | (with_reducible assumption) | assumption); first | exact h_ | (have e_ := (HN41.out); omega) | simpa using h_)
                                obtain ⟨_, hfr43⟩ := Kd.H_at HH41.out (of_decide_eq_true (by first | (with_reducible assumption) | assumption)) (by have h_ : ((ji28) : Int) < ((x6_2.length : Int) : Int) := of_decide_eq_true (by first | (with_reducible assumption) | assumption); first | exact h_ | (have e_ := (HN41.out); omega) | simpa using h_)
                                have hx43_0 := hcc43 0 _ rfl
                                have hf43_0 := hfr43 0
                                (try simp only [Nat.add_zero] at hx43_0 hf43_0)
                                (try rw [show ((Kd.slice 3 (Kd.int .i64))).sz = 1 from rfl, Nat.mul_one] at hx43_0)
                                (try rw [show ((Kd.slice 3 (Kd.int .i64))).sz = 1 from rfl, Nat.mul_one] at hf43_0)
                                have HP43 := Kd.S_seg0 HH41.out (of_decide_eq_true (by first | (with_reducible assumption) | assumption)) (by have h_ : ((ji28) : Int) < ((x6_2.length : Int) : Int) := of_decide_eq_true (by first | (with_reducible assumption) | assumption); first | exact h_ | (have e_ := (HN41.out); omega) | simpa using h_) (seg := [.slice Ao45 y113.length co45]) (j := 0) (show 1 ≤ 1 from by decide) (x' := y113) (Kd.M_row HO115.out) (fun _ hk => hk)
                                (try simp only [show ((Kd.slice 3 (Kd.int .i64))).sz = 1 from rfl, Nat.mul_one, Nat.add_zero] at HP43)
                                clear hcc43 hfr43
                                have HNB105_go41 := Aside0.mk (show gb105 ≠ go41 from by have h_ := Kd.R_ne hraw43 BK105.out (by decide); intro e_; exact h_ (by rw [e_]; rfl))
                                have HS43 := HP43.1
                                rw [← Ny116.out] at HS43
                                have HQ43 := Aside0.mk HS43
                                obtain ⟨_, hgg43⟩ := Kd.R_typed hraw43 go41 rfl
                                have GG43_ := Aside0.mk hgg43
                                clear HP43 HS43 hgg43
                                refine hK.out _ _ (HS0_) (fun hHeld => ?_)
                                clear hK K
                                refine norm_ (a' := ?_) ?_ ?_
                                rotate_left
                                · show Act.put _ (some 59) _ = _
                                  simp only [Act.put, List.setIfInBounds_toArray, List.set_cons_zero, List.set_cons_succ, i64_w, i32_w]
                                  rfl
                                refine pure_ (i := 18) (N := some 60) (v := ?_) (a' := ?_) #[true, true, true, true, true, true, true, true, true, true, true, true, true, true, true, true, true, true, true, false] rfl rfl (any_of HT_.out (by kernel_rfl)) (fun _ _ _ h => h) (Or.inl ⟨by rfl, ?_⟩) ?_ ?_
                                rotate_left
                                · intro w'
                                  go_simp
                                  with_reducible rfl
                                rotate_left
                                · simp only [Act.put, List.setIfInBounds_toArray, List.set_cons_zero, List.set_cons_succ, i64_w, i32_w]
                                  rfl
                                refine last_ (i := 19) (N := none) #[true, true, true, true, true, true, true, true, true, true, true, true, true, true, true, true, true, true, true, true] rfl rfl (one_of HT_.out (by kernel_rfl)) (by decide) (fun K hK => ?_)
                                refine skip_ (w1 := ?_) (by rfl) rfl ?_ ?_
                                rotate_left
                                · go_simp
                                  rfl
                                refine hK.out _ _ ?_
                                clear hK K
                                refine done_ (done_of HT_.out (by kernel_rfl)) ?_
                                try go_wp2
                                go_roundg k2
                                case measure => have := HJ2.out; have := HK2.out; omega
                                case rel => exact ⟨(y116), (wrap64 (x8_2 + 1)), (by first | rfl | (simp; done) | (simp [*]; done)), H', ⟨by have := HJ2.out; have := HK2.out; omega⟩, ⟨by (with_reducible repeat (first | apply Kd.S_alloc | apply Kd.S_drewN | apply Kd.S_drew)); exact HQ43.out⟩, ⟨by (with_reducible repeat (first | refine blk_drewN ?_ _ | refine blk_drew ?_ | refine blk_alloc ?_ _)); refine blk_far ?_ HNB105_go41.out _; (with_reducible repeat (first | refine blk_drewN ?_ _ | refine blk_drew ?_ | refine blk_alloc ?_ _)); exact BK105.out⟩, ⟨by repeat (first | (with_reducible first | exact HB.out | apply below_alloc | apply pw_below_drewN | apply below_drew1 | refine below_set ?_ GB41.out | refine below_set ?_ GE105.out) | exact HB.out)⟩⟩
                              · rw [if_neg c36] at H
                                exact absurd H (by simp)
                            · rw [if_neg c34] at H
                              exact absurd H (by simp)
                          · rw [if_neg c33] at H
                            exact absurd H (by simp)
                        · rw [if_neg c32] at H
                          exact absurd H (by simp)
                      · rw [if_neg c30] at H
                        exact absurd H (by simp)
                    · rw [if_neg c29] at H
                      exact absurd H (by simp)
                · rw [if_neg c26] at H
                  have c26b0 : decide ((wrap64 (x8_2 * (wrap64 (Int.tdiv a1_1 8)))) < (a0.size : Int)) = false := decide_eq_false c26
                  clear c26
                  simp only [Option.some.injEq, Prod.mk.injEq] at H
                  obtain ⟨rfl, rfl⟩ := H
                  go_wp2
                  go_ret2
                  exact ⟨_, by first | rfl | (simp [errW_none, errW_some] <;> rfl) | (simp [*, errW_none, errW_some] <;> rfl), by (with_reducible repeat (first | apply Kd.S_alloc | apply Kd.S_drewN | apply Kd.S_drew)); exact HO_6.out, by repeat (first | (with_reducible first | exact HB.out | apply below_alloc | apply pw_below_drewN | apply below_drew1 | refine below_set ?_ GE105.out) | exact HB.out)⟩
          · rw [if_neg c21] at H
            exact absurd H (by simp)
        · rw [if_neg c20] at H
          exact absurd H (by simp)

/-! ### segment_sound_frame: function 25 -/
def segment_sound_frame.f (a0_0 : ByteArray) (a0_1 : Int) (a0_2 : Int) : Option (Int) := (pcm_Frame.f a0_1 a0_2).bind fun t118 => (some t118)
set_option maxHeartbeats 8000000 in
set_option maxRecDepth 100000 in
theorem segment_sound_frame.calls (a0_0 : ByteArray) (a0_1 : Int) (a0_2 : Int) (r : Int) (w : World) (h : segment_sound_frame.f a0_0 a0_1 a0_2 = some r) :
    Calls Tryz.prog 25 #[.agg #[.string a0_0, .int .i64 a0_1, .int .i64 a0_2]] w fun e w' => e = .returned (.int .i64 r) ∧ Below w.heap.size w w' := by
  have hu49 := Tryz.underlying49
  have hu23 := Tryz.underlying23
  have HB := Aside0.mk (Below.refl w.heap.size w)
  have H : ((pcm_Frame.f a0_1 a0_2).bind fun t118 => (some t118)) = some r := h
  clear h
  replace H := Option.bind_eq_some_iff.mp H
  obtain ⟨t118, A20, H⟩ := H
  replace H : (some t118) = some r := H
  have A2 := Aside0.mk A20
  clear A20
  obtain rfl := Option.some.inj H
  go_enter Tryz.func25, Tryz.ntmps25
  go_wp2_with (first | ((with_reducible refine gate_dst (N := 1) rfl ?_); refine box_event ?hg (N := 1) ?hd (cs := #[.string a0_0, .int .i64 a0_1, .int .i64 a0_2]) (t := 49) ?hr ?_; (case hd => rfl); (case hg => rfl); (case hr => first | (go_simp; done) | (go_simp; rfl)); intro gb117 hg w3 hbox hb; have n0_ := Aside0.mk (below_step (by repeat (first | (with_reducible first | exact HB.out | apply below_alloc | apply pw_below_drewN | apply below_drew1) | exact HB.out)) hb); have n1_ := Aside0.mk (hbox); have n2_ := Aside0.mk ((by rw [hg]; exact (below_size (by repeat (first | (with_reducible first | exact HB.out | apply below_alloc | apply pw_below_drewN | apply below_drew1) | exact HB.out))) : w.heap.size ≤ gb117)); have n3_ := Aside0.mk ((by rw [hg]; exact (below_size (by repeat (first | (with_reducible first | exact HB.out | apply below_alloc | apply pw_below_drewN | apply below_drew1) | exact HB.out))) : w.heap.size ≤ gb117)); clear HB; have HB := n0_; have BK117 := n1_; have GW117 := n2_; have GE117 := n3_; clear n0_ n1_ n2_ n3_; clear hb hbox hg; have hcz4_0 : w3.cell? ⟨gb117, 0, none⟩ = some (.string a0_0) := (blk_cell BK117.out 0).trans rfl; have hcz4_1 : w3.cell? ⟨gb117, 1, none⟩ = some (.int .i64 a0_1) := (blk_cell BK117.out 1).trans rfl; have hcz4_2 : w3.cell? ⟨gb117, 2, none⟩ = some (.int .i64 a0_2) := (blk_cell BK117.out 2).trans rfl; have hfz4_0 := blk_frozen BK117.out 0; have hfz4_1 := blk_frozen BK117.out 1; have hfz4_2 := blk_frozen BK117.out 2) | ((with_reducible refine gate_callee (f := 21) rfl ?_); refine goesL_ (some 5) rfl rfl Tryz.func21 (by kernel_rfl) rfl #[.agg #[.int .i64 a0_1, .int .i64 a0_2]] rfl (by (try simp only [List.map_toArray, List.map_cons, List.map_nil]); first | done | rfl | (simp only [List.length_drop, List.length_take]; rfl)) ?_; (with_reducible refine (pcm_Frame.calls a0_1 a0_2 t118 _ A2.out).mono ?_); rintro e w5 ⟨rfl, hb⟩; refine ⟨_, rfl, ?_⟩; have n0_ := Aside0.mk (blk_below (g := gb117) (o := .cells #[.string a0_0, .int .i64 a0_1, .int .i64 a0_2] 49 (0, 0)) (by (with_reducible repeat (first | refine blk_drewN ?_ _ | refine blk_drew ?_ | refine blk_alloc ?_ _)); exact BK117.out) hb); have n1_ := Aside0.mk (below_step (by repeat (first | (with_reducible first | exact HB.out | apply below_alloc | apply pw_below_drewN | apply below_drew1 | refine below_set ?_ GE117.out) | exact HB.out)) hb); clear BK117; clear HB; have BK117 := n0_; have HB := n1_; clear n0_ n1_; (try clear hb); (try clear hb2); (try clear hk); (try clear hi)))
  go_ret
  exact ⟨by first | rfl | (simp [errW_none, errW_some] <;> rfl) | (simp [*, errW_none, errW_some] <;> rfl), by repeat (first | (with_reducible first | exact HB.out | apply below_alloc | apply pw_below_drewN | apply below_drew1 | refine below_set ?_ GE117.out) | exact HB.out)⟩

end Go.Proofs.YtbapmfghipcebaaGreatDoor.S
end
section
namespace Go.Proofs.YtbapmfghipcebaaGreatDoor.S
open Go.RowKit Go.Proofs.YtbapmfghipcebaaGreatDoorW.PrintWords Go.Proofs.YtbapmfghipcebaaGreatDoorW.PrintLast Go.Proofs.YtbapmfghipcebaaGreatDoorW.PrintMore
attribute [local go_sem] max2_int min2_int max_two min_two max_three min_three max_four min_four   -- for this text's walks alone
set_option linter.unusedVariables false
set_option linter.unusedSimpArgs false

/-! ### segment_sound_many: function 24 -/
def segment_sound_many.f (a0_0 : ByteArray) (a0_1 : Int) (a0_2 : Int) : Option (Int) := (segment_sound_frame.f a0_0 a0_1 a0_2).bind fun t120 => (if t120 = 0 then (none) else (some (wrap64 ((a0_0.size : Int) / t120))))
set_option maxHeartbeats 8000000 in
set_option maxRecDepth 100000 in
theorem segment_sound_many.calls (a0_0 : ByteArray) (a0_1 : Int) (a0_2 : Int) (r : Int) (w : World) (h : segment_sound_many.f a0_0 a0_1 a0_2 = some r) :
    Calls Tryz.prog 24 #[.agg #[.string a0_0, .int .i64 a0_1, .int .i64 a0_2]] w fun e w' => e = .returned (.int .i64 r) ∧ Below w.heap.size w w' := by
  have hu49 := Tryz.underlying49
  have HB := Aside0.mk (Below.refl w.heap.size w)
  have H : ((segment_sound_frame.f a0_0 a0_1 a0_2).bind fun t120 => (if t120 = 0 then (none) else (some (wrap64 ((a0_0.size : Int) / t120))))) = some r := h
  clear h
  replace H := Option.bind_eq_some_iff.mp H
  obtain ⟨t120, A20, H⟩ := H
  replace H : (if t120 = 0 then (none) else (some (wrap64 ((a0_0.size : Int) / t120)))) = some r := H
  have A2 := Aside0.mk A20
  clear A20
  by_cases c3 : t120 = 0
  · rw [if_pos c3] at H
    exact absurd H (by simp)
  · rw [if_neg c3] at H
    have c3b0 : (t120 == 0) = false := beq_eq_false_iff_ne.mpr c3
    have c3b1 : (t120 != 0) = true := bne_iff_ne.mpr c3
    obtain rfl := Option.some.inj H
    go_enter Tryz.func24, Tryz.ntmps24
    try go_wp2_with (first | ((with_reducible refine gate_dst (N := 1) rfl ?_); refine box_event ?hg (N := 1) ?hd (cs := #[.string a0_0, .int .i64 a0_1, .int .i64 a0_2]) (t := 49) ?hr ?_; (case hd => rfl); (case hg => rfl); (case hr => first | (go_simp; done) | (go_simp; rfl)); intro gb119 hg w4 hbox hb; have n0_ := Aside0.mk (below_step (by repeat (first | (with_reducible first | exact HB.out | apply below_alloc | apply pw_below_drewN | apply below_drew1) | exact HB.out)) hb); have n1_ := Aside0.mk (hbox); have n2_ := Aside0.mk ((by rw [hg]; exact (below_size (by repeat (first | (with_reducible first | exact HB.out | apply below_alloc | apply pw_below_drewN | apply below_drew1) | exact HB.out))) : w.heap.size ≤ gb119)); have n3_ := Aside0.mk ((by rw [hg]; exact (below_size (by repeat (first | (with_reducible first | exact HB.out | apply below_alloc | apply pw_below_drewN | apply below_drew1) | exact HB.out))) : w.heap.size ≤ gb119)); clear HB; have HB := n0_; have BK119 := n1_; have GW119 := n2_; have GE119 := n3_; clear n0_ n1_ n2_ n3_; clear hb hbox hg))
    have n0_ := Aside0.mk (blk_drew BK119.out)
    have n1_ := Aside0.mk (below_drew1 HB.out)
    clear BK119
    clear HB
    have BK119 := n0_
    have HB := n1_
    clear n0_ n1_
    refine start_ (n := 7) (S := fun w' => w'.cell? ⟨gb119, 0, none⟩ = some (.string a0_0) ∧ w'.cell? ⟨gb119, 1, none⟩ = some (.int .i64 a0_1) ∧ w'.cell? ⟨gb119, 2, none⟩ = some (.int .i64 a0_2)) (ds := []) #[false, false, false, false, false, false, false] (by kernel_rfl) rfl rfl ⟨(blk_cell BK119.out 0).trans rfl, (blk_cell BK119.out 1).trans rfl, (blk_cell BK119.out 2).trans rfl⟩ (fun hHeld => ?_)
    generalize w4.drew = w5 at BK119 HB hHeld ⊢
    refine pure_ (i := 0) (N := some 3) (v := ?_) (a' := ?_) #[true, false, false, false, false, false, false] rfl rfl (by kernel_rfl) (fun _ _ _ h => h) (Or.inl ⟨by rfl, ?_⟩) ?_ ?_
    rotate_left
    · intro w'
      go_simp
      with_reducible rfl
    rotate_left
    · simp only [Act.put, List.setIfInBounds_toArray, List.set_cons_zero, List.set_cons_succ, i64_w, i32_w]
      rfl
    refine take_ (i := 1) (N := some 4) (v := ?_) (a' := ?_) #[true, true, false, false, false, false, false] rfl rfl (by kernel_rfl) (fun _ _ _ h => h) (Or.inl ⟨by rfl, ?_⟩) hHeld ?_ ?_
    rotate_left
    · rintro w' ⟨s0, s1, s2⟩
      go_simp
      with_reducible rfl
    rotate_left
    · simp only [Act.put, List.setIfInBounds_toArray, List.set_cons_zero, List.set_cons_succ, i64_w, i32_w]
      rfl
    refine pure_ (i := 2) (N := some 5) (v := ?_) (a' := ?_) #[true, true, true, false, false, false, false] rfl rfl (by kernel_rfl) (fun _ _ _ h => h) (Or.inl ⟨by rfl, ?_⟩) ?_ ?_
    rotate_left
    · intro w'
      go_simp
      with_reducible rfl
    rotate_left
    · simp only [Act.put, List.setIfInBounds_toArray, List.set_cons_zero, List.set_cons_succ, i64_w, i32_w]
      rfl
    refine take_ (i := 3) (N := some 6) (v := ?_) (a' := ?_) #[true, true, true, true, false, false, false] rfl rfl (by kernel_rfl) (fun _ _ _ h => h) (Or.inl ⟨by rfl, ?_⟩) hHeld ?_ ?_
    rotate_left
    · rintro w' ⟨s0, s1, s2⟩
      go_simp
      with_reducible rfl
    rotate_left
    · simp only [Act.put, List.setIfInBounds_toArray, List.set_cons_zero, List.set_cons_succ, i64_w, i32_w]
      rfl
    refine one_ (i := 4) (N := some 7) #[true, true, true, true, true, false, false] rfl rfl (by kernel_rfl) (by decide) (fun K hK => ?_)
    refine goes_ Tryz.func25 (by kernel_rfl) rfl #[.agg #[.string a0_0, .int .i64 a0_1, .int .i64 a0_2]] (by rfl) rfl rfl (by (try simp only [List.map_toArray, List.map_cons, List.map_nil]); first | done | rfl | (simp only [List.length_drop, List.length_take]; rfl)) ?_
    with_reducible refine (segment_sound_frame.calls a0_0 a0_1 a0_2 t120 _ A2.out).mono ?_
    rintro e w6 ⟨rfl, hb⟩
    refine ⟨_, rfl, ?_⟩
    have n0_ := Aside0.mk (blk_below (g := gb119) (o := .cells #[.string a0_0, .int .i64 a0_1, .int .i64 a0_2] 49 (0, 0)) (by (with_reducible repeat (first | refine blk_drewN ?_ _ | refine blk_drew ?_ | refine blk_alloc ?_ _)); exact BK119.out) hb)
    have n1_ := Aside0.mk (below_step (by repeat (first | (with_reducible first | exact HB.out | apply below_alloc | apply pw_below_drewN | apply below_drew1 | refine below_set ?_ GE119.out) | exact HB.out)) hb)
    clear BK119
    clear HB
    have BK119 := n0_
    have HB := n1_
    clear n0_ n1_
    (try clear hb)
    (try clear hb2)
    (try clear hk)
    (try clear hi)
    refine hK.out _ _ ⟨(blk_cell BK119.out 0).trans rfl, (blk_cell BK119.out 1).trans rfl, (blk_cell BK119.out 2).trans rfl⟩ (fun hHeld => ?_)
    clear hK K
    refine norm_ (a' := ?_) ?_ ?_
    rotate_left
    · show Act.put _ (some 7) _ = _
      simp only [Act.put, List.setIfInBounds_toArray, List.set_cons_zero, List.set_cons_succ, i64_w, i32_w]
      rfl
    refine pure_ (i := 5) (N := some 8) (v := ?_) (a' := ?_) #[true, true, true, true, true, true, false] rfl rfl (by kernel_rfl) (fun _ _ _ h => h) (Or.inl ⟨by rfl, ?_⟩) ?_ ?_
    rotate_left
    · intro w'
      go_simp
      with_reducible rfl
    rotate_left
    · simp only [Act.put, List.setIfInBounds_toArray, List.set_cons_zero, List.set_cons_succ, i64_w, i32_w]
      rfl
    refine pure_ (i := 6) (N := some 2) (v := ?_) (a' := ?_) #[true, true, true, true, true, true, true] rfl rfl (by kernel_rfl) (fun _ _ _ h => h) (Or.inl ⟨by rfl, ?_⟩) ?_ ?_
    rotate_left
    · intro w'
      go_simp
      with_reducible rfl
    rotate_left
    · simp only [Act.put, List.setIfInBounds_toArray, List.set_cons_zero, List.set_cons_succ, i64_w, i32_w]
      rfl
    refine done_ (by kernel_rfl) ?_
    try go_wp2
    go_ret
    exact ⟨by first | rfl | (simp [errW_none, errW_some] <;> rfl) | (simp [*, errW_none, errW_some] <;> rfl), by repeat (first | (with_reducible first | exact HB.out | apply below_alloc | apply pw_below_drewN | apply below_drew1 | refine below_set ?_ GE119.out) | exact HB.out)⟩

-- GIVEN: function 35 (strings_Repeat)

/-! ### segment_sound_constant: function 22 -/
def segment_sound_constant.f (a0_0 : ByteArray) (a0_1 : Int) (a0_2 : Int) : Option (Bool) := (segment_sound_frame.f a0_0 a0_1 a0_2).bind fun t122 => (if 0 ≤ t122 then (if t122 ≤ (a0_0.size : Int) then ((segment_sound_many.f a0_0 a0_1 a0_2).bind fun t123 => ((strings_Repeat.f (a0_0.extract 0 (t122 : Int).toNat) t123).bind fun t124 => (some (a0_0.toList == t124.toList)))) else (none)) else (none))
def segment_sound_constant.T1 : Bool × List (List Nat × List Nat) := (true, [([], []), ([0], [0]), ([], []), ([2], [2]), ([], []), ([4], [4]), ([3, 5], [3, 5]), ([], []), ([7, 5], [7]), ([6, 8, 8], [6, 8]), ([1, 9], [1, 9]), ([10, 9, 0, 1, 2, 3, 4, 5, 6, 7, 8, 9, 10], [10])])
def segment_sound_constant.B1 : List Nat := [0, 1, 0, 4, 0, 16, 60, 0, 176, 508, 1023, 2047]
theorem segment_sound_constant.tab1 : rtab .any (opsOf Tryz.f22 1) = segment_sound_constant.T1 := by kernel_rfl
theorem segment_sound_constant.bits1 : waitsOk segment_sound_constant.T1.2 segment_sound_constant.B1 = true := by kernel_rfl
set_option maxHeartbeats 8000000 in
set_option maxRecDepth 100000 in
theorem segment_sound_constant.calls (a0_0 : ByteArray) (a0_1 : Int) (a0_2 : Int) (r : Bool) (w : World) (h : segment_sound_constant.f a0_0 a0_1 a0_2 = some r) :
    Calls Tryz.prog 22 #[.agg #[.string a0_0, .int .i64 a0_1, .int .i64 a0_2]] w fun e w' => e = .returned (.bool r) ∧ Below w.heap.size w w' := by
  have hu49 := Tryz.underlying49
  have HB := Aside0.mk (Below.refl w.heap.size w)
  have H : ((segment_sound_frame.f a0_0 a0_1 a0_2).bind fun t122 => (if 0 ≤ t122 then (if t122 ≤ (a0_0.size : Int) then ((segment_sound_many.f a0_0 a0_1 a0_2).bind fun t123 => ((strings_Repeat.f (a0_0.extract 0 (t122 : Int).toNat) t123).bind fun t124 => (some (a0_0.toList == t124.toList)))) else (none)) else (none))) = some r := h
  clear h
  replace H := Option.bind_eq_some_iff.mp H
  obtain ⟨t122, A20, H⟩ := H
  replace H : (if 0 ≤ t122 then (if t122 ≤ (a0_0.size : Int) then ((segment_sound_many.f a0_0 a0_1 a0_2).bind fun t123 => ((strings_Repeat.f (a0_0.extract 0 (t122 : Int).toNat) t123).bind fun t124 => (some (a0_0.toList == t124.toList)))) else (none)) else (none)) = some r := H
  have A2 := Aside0.mk A20
  clear A20
  by_cases c3 : 0 ≤ t122
  · rw [if_pos c3] at H
    have c3b0 := eq_true c3
    have c3b1 : decide (0 ≤ t122) = true := decide_eq_true c3
    clear c3
    by_cases c4 : t122 ≤ (a0_0.size : Int)
    · rw [if_pos c4] at H
      have c4b0 := eq_true c4
      have c4b1 : decide (t122 ≤ (a0_0.size : Int)) = true := decide_eq_true c4
      clear c4
      replace H := Option.bind_eq_some_iff.mp H
      obtain ⟨t123, A50, H⟩ := H
      replace H : ((strings_Repeat.f (a0_0.extract 0 (t122 : Int).toNat) t123).bind fun t124 => (some (a0_0.toList == t124.toList))) = some r := H
      have A5 := Aside0.mk A50
      clear A50
      replace H := Option.bind_eq_some_iff.mp H
      obtain ⟨t124, A60, H⟩ := H
      replace H : (some (a0_0.toList == t124.toList)) = some r := H
      have A6 := Aside0.mk A60
      clear A60
      obtain rfl := Option.some.inj H
      go_enter Tryz.func22, Tryz.ntmps22
      try go_wp2_with (first | ((with_reducible refine gate_dst (N := 1) rfl ?_); refine box_event ?hg (N := 1) ?hd (cs := #[.string a0_0, .int .i64 a0_1, .int .i64 a0_2]) (t := 49) ?hr ?_; (case hd => rfl); (case hg => rfl); (case hr => first | (go_simp; done) | (go_simp; rfl)); intro gb121 hg w7 hbox hb; have n0_ := Aside0.mk (below_step (by repeat (first | (with_reducible first | exact HB.out | apply below_alloc | apply pw_below_drewN | apply below_drew1) | exact HB.out)) hb); have n1_ := Aside0.mk (hbox); have n2_ := Aside0.mk ((by rw [hg]; exact (below_size (by repeat (first | (with_reducible first | exact HB.out | apply below_alloc | apply pw_below_drewN | apply below_drew1) | exact HB.out))) : w.heap.size ≤ gb121)); have n3_ := Aside0.mk ((by rw [hg]; exact (below_size (by repeat (first | (with_reducible first | exact HB.out | apply below_alloc | apply pw_below_drewN | apply below_drew1) | exact HB.out))) : w.heap.size ≤ gb121)); clear HB; have HB := n0_; have BK121 := n1_; have GW121 := n2_; have GE121 := n3_; clear n0_ n1_ n2_ n3_; clear hb hbox hg))
      have n0_ := Aside0.mk (blk_drew BK121.out)
      have n1_ := Aside0.mk (below_drew1 HB.out)
      clear BK121
      clear HB
      have BK121 := n0_
      have HB := n1_
      clear n0_ n1_
      refine start_ (n := 12) (S := fun w' => w'.cell? ⟨gb121, 0, none⟩ = some (.string a0_0) ∧ w'.cell? ⟨gb121, 1, none⟩ = some (.int .i64 a0_1) ∧ w'.cell? ⟨gb121, 2, none⟩ = some (.int .i64 a0_2)) (ds := []) #[false, false, false, false, false, false, false, false, false, false, false, false] (by kernel_rfl) rfl rfl ⟨(blk_cell BK121.out 0).trans rfl, (blk_cell BK121.out 1).trans rfl, (blk_cell BK121.out 2).trans rfl⟩ (fun hHeld => ?_); refine with_tabW segment_sound_constant.tab1 segment_sound_constant.bits1 (fun HT_ HW_ => ?_)
      generalize w7.drew = w8 at BK121 HB hHeld ⊢
      refine pure_ (i := 0) (N := some 3) (v := ?_) (a' := ?_) #[true, false, false, false, false, false, false, false, false, false, false, false] rfl rfl (any_of HT_.out (by kernel_rfl)) (fun _ _ _ h => h) (Or.inl ⟨by rfl, ?_⟩) ?_ ?_
      rotate_left
      · intro w'
        go_simp
        with_reducible rfl
      rotate_left
      · simp only [Act.put, List.setIfInBounds_toArray, List.set_cons_zero, List.set_cons_succ, i64_w, i32_w]
        rfl
      refine pure_ (i := 2) (N := some 5) (v := ?_) (a' := ?_) #[true, false, true, false, false, false, false, false, false, false, false, false] rfl rfl (any_of HT_.out (by kernel_rfl)) (fun _ _ _ h => h) (Or.inl ⟨by rfl, ?_⟩) ?_ ?_
      rotate_left
      · intro w'
        go_simp
        with_reducible rfl
      rotate_left
      · simp only [Act.put, List.setIfInBounds_toArray, List.set_cons_zero, List.set_cons_succ, i64_w, i32_w]
        rfl
      refine take_ (i := 1) (N := some 4) (v := ?_) (a' := ?_) #[true, true, true, false, false, false, false, false, false, false, false, false] rfl rfl (take_ofW HT_.out HW_.out (by kernel_rfl)) (fun _ _ _ h => h) (Or.inl ⟨by rfl, ?_⟩) hHeld ?_ ?_
      rotate_left
      · rintro w' ⟨s0, s1, s2⟩
        go_simp
        with_reducible rfl
      rotate_left
      · simp only [Act.put, List.setIfInBounds_toArray, List.set_cons_zero, List.set_cons_succ, i64_w, i32_w]
        rfl
      refine take_ (i := 3) (N := some 6) (v := ?_) (a' := ?_) #[true, true, true, true, false, false, false, false, false, false, false, false] rfl rfl (take_ofW HT_.out HW_.out (by kernel_rfl)) (fun _ _ _ h => h) (Or.inl ⟨by rfl, ?_⟩) hHeld ?_ ?_
      rotate_left
      · rintro w' ⟨s0, s1, s2⟩
        go_simp
        with_reducible rfl
      rotate_left
      · simp only [Act.put, List.setIfInBounds_toArray, List.set_cons_zero, List.set_cons_succ, i64_w, i32_w]
        rfl
      refine take_ (i := 4) (N := some 7) (v := ?_) (a' := ?_) #[true, true, true, true, true, false, false, false, false, false, false, false] rfl rfl (take_ofW HT_.out HW_.out (by kernel_rfl)) (fun _ _ _ h => h) (Or.inl ⟨by rfl, ?_⟩) hHeld ?_ ?_
      rotate_left
      · rintro w' ⟨s0, s1, s2⟩
        go_simp
        with_reducible rfl
      rotate_left
      · simp only [Act.put, List.setIfInBounds_toArray, List.set_cons_zero, List.set_cons_succ, i64_w, i32_w]
        rfl
      refine take_ (i := 7) (N := some 10) (v := ?_) (a' := ?_) #[true, true, true, true, true, false, false, true, false, false, false, false] rfl rfl (take_ofW HT_.out HW_.out (by kernel_rfl)) (fun _ _ _ h => h) (Or.inl ⟨by rfl, ?_⟩) hHeld ?_ ?_
      rotate_left
      · rintro w' ⟨s0, s1, s2⟩
        go_simp
        with_reducible rfl
      rotate_left
      · simp only [Act.put, List.setIfInBounds_toArray, List.set_cons_zero, List.set_cons_succ, i64_w, i32_w]
        rfl
      refine one_ (i := 5) (N := some 8) #[true, true, true, true, true, true, false, true, false, false, false, false] rfl rfl (one_of HT_.out (by kernel_rfl)) (by decide) (fun K hK => ?_)
      refine goes_ Tryz.func25 (by kernel_rfl) rfl #[.agg #[.string a0_0, .int .i64 a0_1, .int .i64 a0_2]] (by rfl) rfl rfl (by (try simp only [List.map_toArray, List.map_cons, List.map_nil]); first | done | rfl | (simp only [List.length_drop, List.length_take]; rfl)) ?_
      with_reducible refine (segment_sound_frame.calls a0_0 a0_1 a0_2 t122 _ A2.out).mono ?_
      rintro e w9 ⟨rfl, hb⟩
      refine ⟨_, rfl, ?_⟩
      have n0_ := Aside0.mk (blk_below (g := gb121) (o := .cells #[.string a0_0, .int .i64 a0_1, .int .i64 a0_2] 49 (0, 0)) (by (with_reducible repeat (first | refine blk_drewN ?_ _ | refine blk_drew ?_ | refine blk_alloc ?_ _)); exact BK121.out) hb)
      have n1_ := Aside0.mk (below_step (by repeat (first | (with_reducible first | exact HB.out | apply below_alloc | apply pw_below_drewN | apply below_drew1 | refine below_set ?_ GE121.out) | exact HB.out)) hb)
      clear BK121
      clear HB
      have BK121 := n0_
      have HB := n1_
      clear n0_ n1_
      (try clear hb)
      (try clear hb2)
      (try clear hk)
      (try clear hi)
      refine hK.out _ _ ⟨(blk_cell BK121.out 0).trans rfl, (blk_cell BK121.out 1).trans rfl, (blk_cell BK121.out 2).trans rfl⟩ (fun hHeld => ?_)
      clear hK K
      refine norm_ (a' := ?_) ?_ ?_
      rotate_left
      · show Act.put _ (some 8) _ = _
        simp only [Act.put, List.setIfInBounds_toArray, List.set_cons_zero, List.set_cons_succ, i64_w, i32_w]
        rfl
      refine pure_ (i := 6) (N := some 9) (v := ?_) (a' := ?_) #[true, true, true, true, true, true, true, true, false, false, false, false] rfl rfl (any_of HT_.out (by kernel_rfl)) (fun _ _ _ h => h) (Or.inl ⟨by rfl, ?_⟩) ?_ ?_
      rotate_left
      · intro w'
        go_simp
        with_reducible rfl
      rotate_left
      · simp only [Act.put, List.setIfInBounds_toArray, List.set_cons_zero, List.set_cons_succ, i64_w, i32_w]
        rfl
      refine one_ (i := 8) (N := some 11) #[true, true, true, true, true, true, true, true, true, false, false, false] rfl rfl (one_of HT_.out (by kernel_rfl)) (by decide) (fun K hK => ?_)
      refine goes_ Tryz.func24 (by kernel_rfl) rfl #[.agg #[.string a0_0, .int .i64 a0_1, .int .i64 a0_2]] (by rfl) rfl rfl (by (try simp only [List.map_toArray, List.map_cons, List.map_nil]); first | done | rfl | (simp only [List.length_drop, List.length_take]; rfl)) ?_
      with_reducible refine (segment_sound_many.calls a0_0 a0_1 a0_2 t123 _ A5.out).mono ?_
      rintro e w10 ⟨rfl, hb⟩
      refine ⟨_, rfl, ?_⟩
      have n0_ := Aside0.mk (blk_below (g := gb121) (o := .cells #[.string a0_0, .int .i64 a0_1, .int .i64 a0_2] 49 (0, 0)) (by (with_reducible repeat (first | refine blk_drewN ?_ _ | refine blk_drew ?_ | refine blk_alloc ?_ _)); exact BK121.out) hb)
      have n1_ := Aside0.mk (below_step (by repeat (first | (with_reducible first | exact HB.out | apply below_alloc | apply pw_below_drewN | apply below_drew1 | refine below_set ?_ GE121.out) | exact HB.out)) hb)
      clear BK121
      clear HB
      have BK121 := n0_
      have HB := n1_
      clear n0_ n1_
      (try clear hb)
      (try clear hb2)
      (try clear hk)
      (try clear hi)
      refine hK.out _ _ ⟨(blk_cell BK121.out 0).trans rfl, (blk_cell BK121.out 1).trans rfl, (blk_cell BK121.out 2).trans rfl⟩ (fun hHeld => ?_)
      clear hK K
      refine norm_ (a' := ?_) ?_ ?_
      rotate_left
      · show Act.put _ (some 11) _ = _
        simp only [Act.put, List.setIfInBounds_toArray, List.set_cons_zero, List.set_cons_succ, i64_w, i32_w]
        rfl
      refine one_ (i := 9) (N := some 12) #[true, true, true, true, true, true, true, true, true, true, false, false] rfl rfl (one_of HT_.out (by kernel_rfl)) (by decide) (fun K hK => ?_)
      refine goes_ Tryz.func35 (by kernel_rfl) rfl #[.string (a0_0.extract 0 (t122 : Int).toNat), .int .i64 t123] (by rfl) rfl rfl (by (try simp only [List.map_toArray, List.map_cons, List.map_nil]); first | done | rfl | (simp only [List.length_drop, List.length_take]; rfl)) ?_
      with_reducible refine (strings_Repeat.calls (a0_0.extract 0 (t122 : Int).toNat) t123 t124 _ A6.out).mono ?_
      rintro e w11 ⟨rfl, hb⟩
      refine ⟨_, rfl, ?_⟩
      have n0_ := Aside0.mk (blk_below (g := gb121) (o := .cells #[.string a0_0, .int .i64 a0_1, .int .i64 a0_2] 49 (0, 0)) (by (with_reducible repeat (first | refine blk_drewN ?_ _ | refine blk_drew ?_ | refine blk_alloc ?_ _)); exact BK121.out) hb)
      have n1_ := Aside0.mk (below_step (by repeat (first | (with_reducible first | exact HB.out | apply below_alloc | apply pw_below_drewN | apply below_drew1 | refine below_set ?_ GE121.out) | exact HB.out)) hb)
      clear BK121
      clear HB
      have BK121 := n0_
      have HB := n1_
      clear n0_ n1_
      (try clear hb)
      (try clear hb2)
      (try clear hk)
      (try clear hi)
      refine hK.out _ _ ⟨(blk_cell BK121.out 0).trans rfl, (blk_cell BK121.out 1).trans rfl, (blk_cell BK121.out 2).trans rfl⟩ (fun hHeld => ?_)
      clear hK K
      refine norm_ (a' := ?_) ?_ ?_
      rotate_left
      · show Act.put _ (some 12) _ = _
        simp only [Act.put, List.setIfInBounds_toArray, List.set_cons_zero, List.set_cons_succ, i64_w, i32_w]
        rfl
      refine pure_ (i := 10) (N := some 13) (v := ?_) (a' := ?_) #[true, true, true, true, true, true, true, true, true, true, true, false] rfl rfl (any_of HT_.out (by kernel_rfl)) (fun _ _ _ h => h) (Or.inl ⟨by rfl, ?_⟩) ?_ ?_
      rotate_left
      · intro w'
        go_simp
        with_reducible rfl
      rotate_left
      · simp only [Act.put, List.setIfInBounds_toArray, List.set_cons_zero, List.set_cons_succ, i64_w, i32_w]
        rfl
      refine pure_ (i := 11) (N := some 2) (v := ?_) (a' := ?_) #[true, true, true, true, true, true, true, true, true, true, true, true] rfl rfl (any_of HT_.out (by kernel_rfl)) (fun _ _ _ h => h) (Or.inl ⟨by rfl, ?_⟩) ?_ ?_
      rotate_left
      · intro w'
        go_simp
        with_reducible rfl
      rotate_left
      · simp only [Act.put, List.setIfInBounds_toArray, List.set_cons_zero, List.set_cons_succ, i64_w, i32_w]
        rfl
      refine done_ (done_of HT_.out (by kernel_rfl)) ?_
      try go_wp2
      go_ret
      exact ⟨by first | rfl | (simp [errW_none, errW_some] <;> rfl) | (simp [*, errW_none, errW_some] <;> rfl), by repeat (first | (with_reducible first | exact HB.out | apply below_alloc | apply pw_below_drewN | apply below_drew1 | refine below_set ?_ GE121.out) | exact HB.out)⟩
    · rw [if_neg c4] at H
      exact absurd H (by simp)
  · rw [if_neg c3] at H
    exact absurd H (by simp)

-- GIVEN: function 29 (crc_Sum)

/-! ### field_Put: function 36 -/
mutual
def field_Put.j0 : Nat → Int → Int → Bool → Option (ByteArray × Int)
  | 0, _, _, _ => none
  | k + 1, x0, x1, x24 => if x24 = true then (some ((⟨#[]⟩ : ByteArray), 100)) else (if 0 ≤ x1 then (if (x1 : Int).toNat ≤ 281474976710656 then ((some (List.replicate (x1 : Int).toNat 0 : List Int)).bind fun y125 => (field_Put.l0 k x0 y125 (y125.length : Int) 0)) else (none)) else (none))
def field_Put.l0 : Nat → Int → List Int → Int → Int → Option (ByteArray × Int)
  | 0, _, _, _, _ => none
  | k + 1, x0, x6, x28, x29 => if x29 < x28 then (if 0 ≤ (wrap64 (8 * x29)) then (if 0 ≤ x29 then (if x29 < (x6.length : Int) then (field_Put.l0 k x0 (x6.set (x29 : Int).toNat ((shr .i64 x0 (wrap64 (8 * x29))) % 256)) x28 (wrap64 (x29 + 1))) else (none)) else (none)) else (none)) else (some (strOfNums x6, 0))
end
def field_Put.f (k : Nat) (a0 : Int) (a1 : Int) : Option (ByteArray × Int) := if a1 < 1 then (field_Put.j0 k a0 a1 true) else (if a1 > 4 then (field_Put.j0 k a0 a1 true) else (if a0 < 0 then (field_Put.j0 k a0 a1 true) else (if 0 ≤ (wrap64 (8 * a1)) then (field_Put.j0 k a0 a1 ((shr .i64 a0 (wrap64 (8 * a1))) != 0)) else (none))))
theorem field_Put.mono_l : ∀ k, (∀ y0 y1 y2, LeO (field_Put.j0 k y0 y1 y2) (field_Put.j0 (k + 1) y0 y1 y2)) ∧ (∀ y0 y1 y2 y3, LeO (field_Put.l0 k y0 y1 y2 y3) (field_Put.l0 (k + 1) y0 y1 y2 y3))
  | 0 => ⟨fun _ _ _ r h => by simp [field_Put.j0] at h, fun _ _ _ _ r h => by simp [field_Put.l0] at h⟩
  | k + 1 => by
    obtain ⟨ih0, ih1⟩ := field_Put.mono_l k
    refine ⟨?_, ?_⟩
    · intro y0 y1 y2
      unfold field_Put.j0
      repeat' first
      | (with_reducible exact ih0 _ _ _)
      | (with_reducible exact ih1 _ _ _ _)
      | (with_reducible exact LeO.refl _)
      | (with_reducible exact LeO.none _)
      | (with_reducible refine LeO.ite ?_ ?_)
      | (with_reducible refine LeO.bind ?_ (fun _ => ?_))
      | exact ih0 _ _ _
      | exact ih1 _ _ _ _
      | exact LeO.none _
      | refine LeO.ite ?_ ?_
      | refine LeO.bind ?_ (fun _ => ?_)
    · intro y0 y1 y2 y3
      unfold field_Put.l0
      repeat' first
      | (with_reducible exact ih0 _ _ _)
      | (with_reducible exact ih1 _ _ _ _)
      | (with_reducible exact LeO.refl _)
      | (with_reducible exact LeO.none _)
      | (with_reducible refine LeO.ite ?_ ?_)
      | (with_reducible refine LeO.bind ?_ (fun _ => ?_))
      | exact ih0 _ _ _
      | exact ih1 _ _ _ _
      | exact LeO.none _
      | refine LeO.ite ?_ ?_
      | refine LeO.bind ?_ (fun _ => ?_)
theorem field_Put.mono : ∀ a0 a1 k, LeO (field_Put.f k a0 a1) (field_Put.f (k + 1) a0 a1) := by
  intro a0 a1 k
  obtain ⟨ih0, ih1⟩ := field_Put.mono_l k
  unfold field_Put.f
  repeat' first
      | (with_reducible exact ih0 _ _ _)
      | (with_reducible exact ih1 _ _ _ _)
      | (with_reducible exact LeO.refl _)
      | (with_reducible exact LeO.none _)
      | (with_reducible refine LeO.ite ?_ ?_)
      | (with_reducible refine LeO.bind ?_ (fun _ => ?_))
      | exact ih0 _ _ _
      | exact ih1 _ _ _ _
      | exact LeO.none _
      | refine LeO.ite ?_ ?_
      | refine LeO.bind ?_ (fun _ => ?_)
set_option maxHeartbeats 8000000 in
set_option maxRecDepth 100000 in
theorem field_Put.calls (k : Nat) (a0 : Int) (a1 : Int) (r1 : ByteArray) (r2 : Int) (w : World) (h : field_Put.f k a0 a1 = some (r1, r2)) :
    Calls Tryz.prog 36 #[.int .i64 a0, .int .i64 a1] w fun e w' => e = .returned (.tuple #[.string r1, .int .i64 r2]) ∧ Below w.heap.size w w' := by
  have HB := Aside0.mk (Below.refl w.heap.size w)
  have H : (if a1 < 1 then (field_Put.j0 k a0 a1 true) else (if a1 > 4 then (field_Put.j0 k a0 a1 true) else (if a0 < 0 then (field_Put.j0 k a0 a1 true) else (if 0 ≤ (wrap64 (8 * a1)) then (field_Put.j0 k a0 a1 ((shr .i64 a0 (wrap64 (8 * a1))) != 0)) else (none))))) = some (r1, r2) := h
  clear h
  have HC3 := Aside0.mk H
  clear H
  go_enter Tryz.func36, Tryz.ntmps36
  go_upto_region 1 with (fail)
  go_cut [24] (fun v24 wc => ∃ (kq : Nat) (x24_2 : Bool), v24 = .bool x24_2 ∧ Aside0 (field_Put.j0 kq a0 a1 x24_2 = some (r1, r2)) ∧ Aside0 (kq ≤ k) ∧ Aside0 (Below w.heap.size w wc))
  case first =>
    have H := HC3.out
    clear HC3
    by_cases c4 : a1 < 1
    · rw [if_pos c4] at H
      have c4b0 : decide (a1 < 1) = true := decide_eq_true c4
      clear c4
      (first | rw [c4b0] | (simp only [i64_w, i32_w]; rw [c4b0]) | skip)
      have H' := Aside0.mk H
      clear H
      go_wp2
      go_meet
      case rel => exact ⟨_, (true), (by first | rfl | (simp; done) | (simp [*]; done)), H', ⟨by first | omega | exact Nat.le_refl _⟩, ⟨by repeat (first | (with_reducible first | exact HB.out | apply below_alloc | apply pw_below_drewN | apply below_drew1) | exact HB.out)⟩⟩
    · rw [if_neg c4] at H
      have c4b0 : decide (a1 < 1) = false := decide_eq_false c4
      clear c4
      (first | rw [c4b0] | (simp only [i64_w, i32_w]; rw [c4b0]) | skip)
      by_cases c5 : a1 > 4
      · rw [if_pos c5] at H
        have c5b0 : decide (4 < a1) = true := decide_eq_true c5
        clear c5
        have H' := Aside0.mk H
        clear H
        go_wp2
        go_meet
        case rel => exact ⟨_, (true), (by first | rfl | (simp; done) | (simp [*]; done)), H', ⟨by first | omega | exact Nat.le_refl _⟩, ⟨by repeat (first | (with_reducible first | exact HB.out | apply below_alloc | apply pw_below_drewN | apply below_drew1) | exact HB.out)⟩⟩
      · rw [if_neg c5] at H
        have c5b0 : decide (4 < a1) = false := decide_eq_false c5
        clear c5
        by_cases c6 : a0 < 0
        · rw [if_pos c6] at H
          have c6b0 : decide (a0 < 0) = true := decide_eq_true c6
          clear c6
          have H' := Aside0.mk H
          clear H
          go_wp2
          go_meet
          case rel => exact ⟨_, (true), (by first | rfl | (simp; done) | (simp [*]; done)), H', ⟨by first | omega | exact Nat.le_refl _⟩, ⟨by repeat (first | (with_reducible first | exact HB.out | apply below_alloc | apply pw_below_drewN | apply below_drew1) | exact HB.out)⟩⟩
        · rw [if_neg c6] at H
          have c6b0 : decide (a0 < 0) = false := decide_eq_false c6
          clear c6
          obtain ⟨ji7, hji7⟩ : ∃ j_ : Int, (wrap64 (8 * a1)) = j_ := ⟨_, rfl⟩
          replace H : (if 0 ≤ (ji7) then (field_Put.j0 k a0 a1 ((shr .i64 a0 (ji7)) != 0)) else (none)) = some (r1, r2) := by first | (rw [hji7] at H; exact H) | (simp only [hji7] at H ⊢; exact H)
          have hji7w : (IntKind.i64.wrap (8 * a1)) = ji7 := (i64_w _).trans hji7
          by_cases c8 : 0 ≤ (ji7)
          · rw [if_pos c8] at H
            have c8b0 := eq_true c8
            have c8b1 : decide (0 ≤ (ji7)) = true := decide_eq_true c8
            clear c8
            obtain ⟨ji9, hji9⟩ : ∃ j_ : Int, (shr .i64 a0 (ji7)) = j_ := ⟨_, rfl⟩
            replace H : (field_Put.j0 k a0 a1 ((ji9) != 0)) = some (r1, r2) := by first | (rw [hji9] at H; exact H) | (simp only [hji9] at H ⊢; exact H)
            have hji9_ : (a0 / 2 ^ min (ji7).toNat 64) = ji9 := hji9
            have hji9z : (ji7) ≤ 64 → (a0 / 2 ^ (ji7).toNat) = ji9 := shr_small hji9
            have H' := Aside0.mk H
            clear H
            go_wp2
            go_meet
            case rel => exact ⟨_, (((ji9) != 0)), (by first | rfl | (simp; done) | (simp only [← hji9] <;> (first | rfl | simp)) | (simp [*]; done)), H', ⟨by first | omega | exact Nat.le_refl _⟩, ⟨by repeat (first | (with_reducible first | exact HB.out | apply below_alloc | apply pw_below_drewN | apply below_drew1) | exact HB.out)⟩⟩
          · rw [if_neg c8] at H
            exact absurd H (by simp)
  case rest =>
    clear HC3
    try clear p2
    try clear c3
    try clear c4
    try clear c4b0
    try clear c5
    try clear c5b0
    try clear c6
    try clear c6b0
    try clear p6
    try clear c8
    try clear c8b0
    try clear c8b1
    obtain ⟨kq, x24_2, rfl, HA, HJ2, HB⟩ := hcut
    cases kq with
    | zero => exact absurd HA.out (by simp [field_Put.j0])
    | succ kj2 =>
      have H := HA.out
      clear HA
      simp only [field_Put.j0] at H
      by_cases c10 : x24_2 = true
      · subst c10
        have H1 : (some ((⟨#[]⟩ : ByteArray), 100)) = some (r1, r2) := by rw [if_pos rfl] at H; exact H
        clear H
        have H := H1
        clear H1
        simp only [Option.some.injEq, Prod.mk.injEq] at H
        obtain ⟨rfl, rfl⟩ := H
        go_wp2
        go_ret2
        exact ⟨by first | rfl | (simp [errW_none, errW_some] <;> rfl) | (simp [*, errW_none, errW_some] <;> rfl), by repeat (first | (with_reducible first | exact HB.out | apply below_alloc | apply pw_below_drewN | apply below_drew1) | exact HB.out)⟩
      · replace c10 := Bool.eq_false_iff.mpr c10
        subst c10
        have H1 : (if 0 ≤ a1 then (if (a1 : Int).toNat ≤ 281474976710656 then ((some (List.replicate (a1 : Int).toNat 0 : List Int)).bind fun y125 => (field_Put.l0 kj2 a0 y125 (y125.length : Int) 0)) else (none)) else (none)) = some (r1, r2) := by rw [if_neg (show ¬ (false = true) by decide)] at H; exact H
        clear H
        have H := H1
        clear H1
        by_cases c11 : 0 ≤ a1
        · rw [if_pos c11] at H
          have c11b0 := eq_true c11
          have c11b1 : decide (0 ≤ a1) = true := decide_eq_true c11
          clear c11
          by_cases c12 : (a1 : Int).toNat ≤ 281474976710656
          · rw [if_pos c12] at H
            have c12b0 := eq_true c12
            have c12b1 : decide ((a1 : Int).toNat ≤ 281474976710656) = true := decide_eq_true c12
            clear c12
            obtain ⟨y125, hy125⟩ : ∃ y_ : List Int, y_ = (List.replicate (a1 : Int).toNat 0) := ⟨_, rfl⟩
            replace H : (field_Put.l0 kj2 a0 y125 (y125.length : Int) 0) = some (r1, r2) := by first | (rw [hy125]; with_reducible exact H) | (have H2_ := (Option.bind_some _ _).symm.trans H; rw [hy125]; with_reducible exact H2_) | (have H2_ := (Option.bind_some _ _).symm.trans H; with_reducible exact H2_) | with_reducible exact H | (rw [hy125]; exact H) | exact H
            have Ny125 := Aside0.mk hy125
            clear hy125
            have H' := Aside0.mk H
            clear H
            go_wp2_with (first | ((with_reducible refine gate_dst (N := 26) rfl ?_); refine Kd.R_make (Kd.int .u8) _ 5 rfl (N := 26) rfl 29 _ _ rfl a1 rfl rfl Tryz.underlying29 (.int .u8 0) 1 info5 rfl (by decide) (by omega) 0 (ok := fun _ => True) (okp := fun _ => True) rfl (fun _ hk => hk) trivial (of_decide_eq_true (by first | (with_reducible assumption) | assumption)) (Nat.le_trans (Nat.mul_le_mul_right _ (of_decide_eq_true (by first | (with_reducible assumption) | assumption) : a1.toNat ≤ 281474976710656)) (by omega)) (Below.refl _ _) (Nat.le_refl _) ?_; intro v126 w13 ho14 hb hg_ hnew_; clear hg_ hnew_; (first | rw [← Ny125.out] at ho14 | (simp only [Int.reduceToNat] at ho14; rw [← Ny125.out] at ho14)); have n0_ := Aside0.mk (Kd.R_lower ho14 (below_size (by repeat (first | (with_reducible first | exact HB.out | apply below_alloc | apply pw_below_drewN | apply below_drew1) | exact HB.out)))); have n1_ := Aside0.mk (below_step (by repeat (first | (with_reducible first | exact HB.out | apply below_alloc | apply pw_below_drewN | apply below_drew1) | exact HB.out)) hb); clear HB; have HO127 := n0_; have HB := n1_; clear n0_ n1_; clear hb ho14; obtain ⟨Ao15, co15, eo15⟩ := Kd.R_slice HO127.out; subst eo15))
            go_loopg [29] kj2 (fun kq v29 w' => ∃ (x6_2 : List Int) (x29_2 : Int), v29 = .int .i64 x29_2 ∧ Aside0 (field_Put.l0 kq a0 x6_2 (y125.length : Int) x29_2 = some (r1, r2)) ∧ Aside0 (kq ≤ kj2) ∧ Aside0 (Kd.R (Kd.int .u8) 5 w' w.heap.size (fun _ => True) (.slice Ao15 y125.length co15) x6_2) ∧ Aside0 (Below w.heap.size w w'))
            case atStart => exact ⟨(y125), (0), (by first | rfl | (simp; done) | (simp [*]; done)), H', ⟨Nat.le_refl _⟩, ⟨by (with_reducible repeat (first | apply Kd.R_alloc | apply Kd.R_drewN | apply Kd.R_drew)); exact HO127.out⟩, ⟨by repeat (first | (with_reducible first | exact HB.out | apply below_alloc | apply pw_below_drewN | apply below_drew1) | exact HB.out)⟩⟩
            case round =>
              clear H'
              try clear c1
              try clear p2
              try clear c3
              try clear c4
              try clear c4b0
              try clear c5
              try clear c5b0
              try clear c6
              try clear c6b0
              try clear p6
              try clear c8
              try clear c8b0
              try clear c8b1
              try clear c10
              try clear c11
              try clear c11b0
              try clear c11b1
              try clear c12
              try clear c12b0
              try clear c12b1
              try clear p2
              try clear p6
              obtain ⟨x6_2, x29_2, rfl, HA, HK2, HO_6, HB⟩ := hrel
              have hl6_2 := (Kd.R_reads' HO_6.out).1
              rw [hl6_2] at HO_6
              (try simp only [hl6_2])
              cases gk with
              | zero => exact absurd HA.out (by simp [field_Put.l0])
              | succ k2 =>
                have H := HA.out
                clear HA
                simp only [field_Put.l0] at H
                by_cases c16 : x29_2 < (y125.length : Int)
                · rw [if_pos c16] at H
                  have c16b0 : decide (x29_2 < (y125.length : Int)) = true := decide_eq_true c16
                  try (have c16b9_hl6_2 := c16b0; simp only [hl6_2] at c16b9_hl6_2)
                  clear c16
                  obtain ⟨ji17, hji17⟩ : ∃ j_ : Int, (wrap64 (8 * x29_2)) = j_ := ⟨_, rfl⟩
                  replace H : (if 0 ≤ (ji17) then (if 0 ≤ x29_2 then (if x29_2 < (x6_2.length : Int) then (field_Put.l0 k2 a0 (x6_2.set (x29_2 : Int).toNat ((shr .i64 a0 (ji17)) % 256)) (y125.length : Int) (wrap64 (x29_2 + 1))) else (none)) else (none)) else (none)) = some (r1, r2) := by first | (rw [hji17] at H; exact H) | (simp only [hji17] at H ⊢; exact H)
                  have hji17w : (IntKind.i64.wrap (8 * x29_2)) = ji17 := (i64_w _).trans hji17
                  by_cases c18 : 0 ≤ (ji17)
                  · rw [if_pos c18] at H
                    have c18b0 := eq_true c18
                    have c18b1 : decide (0 ≤ (ji17)) = true := decide_eq_true c18
                    clear c18
                    obtain ⟨ji19, hji19⟩ : ∃ j_ : Int, (shr .i64 a0 (ji17)) = j_ := ⟨_, rfl⟩
                    replace H : (if 0 ≤ x29_2 then (if x29_2 < (x6_2.length : Int) then (field_Put.l0 k2 a0 (x6_2.set (x29_2 : Int).toNat ((ji19) % 256)) (y125.length : Int) (wrap64 (x29_2 + 1))) else (none)) else (none)) = some (r1, r2) := by first | (rw [hji19] at H; exact H) | (simp only [hji19] at H ⊢; exact H)
                    have hji19_ : (a0 / 2 ^ min (ji17).toNat 64) = ji19 := hji19
                    have hji19z : (ji17) ≤ 64 → (a0 / 2 ^ (ji17).toNat) = ji19 := shr_small hji19
                    by_cases c20 : 0 ≤ x29_2
                    · rw [if_pos c20] at H
                      have c20b0 : decide (0 ≤ x29_2) = true := decide_eq_true c20
                      clear c20
                      by_cases c21 : x29_2 < (x6_2.length : Int)
                      · rw [if_pos c21] at H
                        have c21b0 : decide (x29_2 < (x6_2.length : Int)) = true := decide_eq_true c21
                        try (have c21b9_hl6_2 := c21b0; simp only [hl6_2] at c21b9_hl6_2)
                        clear c21
                        obtain ⟨y128, hy128⟩ : ∃ y_ : List Int, y_ = (x6_2.set (x29_2 : Int).toNat ((ji19) % 256)) := ⟨_, rfl⟩
                        replace H : (field_Put.l0 k2 a0 y128 (y125.length : Int) (wrap64 (x29_2 + 1))) = some (r1, r2) := by first | (rw [hy128]; with_reducible exact H) | (have H2_ := (Option.bind_some _ _).symm.trans H; rw [hy128]; with_reducible exact H2_) | (have H2_ := (Option.bind_some _ _).symm.trans H; with_reducible exact H2_) | with_reducible exact H | (rw [hy128]; exact H) | exact H
                        have Ny128 := Aside0.mk hy128
                        clear hy128
                        have H' := Aside0.mk H
                        clear H
                        have p22 : 0 ≤ (x29_2 : Int) := of_decide_eq_true (by first | (with_reducible assumption) | assumption)
                        have q22 : (x29_2 : Int) < ((x6_2.length : Int) : Int) := of_decide_eq_true (by first | (with_reducible assumption) | assumption)
                        obtain ⟨go22, co22, eo22, gb22, gl22, cl22, HG22⟩ := Kd.R_form HO_6.out (by omega)
                        (first | cases eo22 | (injection eo22 with ea_ en_ ec_; (first | subst ea_ | (injection ea_ with ea_; subst ea_)); subst ec_; clear en_))
                        have GB22 := Aside0.mk gb22
                        have GG22 := Aside0.mk HG22
                        clear gb22 gl22 HG22
                        obtain ⟨hx22_0, hf22_0⟩ := Kd.R_celln 0 HO_6.out (x29_2 : Int) p22 q22
                        replace p22 := eq_true p22
                        replace q22 := eq_true q22
                        have HP23 := Kd.R_putg HO_6.out (x29_2 : Int) ((ji19) % 256)
                        go_wp2_with (first | ((with_reducible refine gate_store (t := 5) (p := 39) rfl ?_); refine store_event (t := 5) (p := 39) (v := ?vo_w24) (w1 := (wr.setCell ⟨go22, (x29_2 : Int).toNat, none⟩ (.int .u8 ((ji19) % 256)))) ?hg ?ho ?hn ?hr ?_; (case ho => rfl); (case hg => rfl); (case hn => rfl); (case hr => first | (go_simp; done) | (go_simp; rfl)); intro w24 hw; have hg : wr.grownBy w24 (some go22) := (by rw [hw]; exact HP23.2); have hp_ : Kd.R (Kd.int .u8) 5 w24 w.heap.size (fun _ => True) (.slice (some ⟨go22, 0, none⟩) x6_2.length co15) y128 := (by rw [hw, Ny128.out]; exact HP23.1); clear HP23; have n0_ := Aside0.mk (hp_); have n1_ := Aside0.mk ((by rw [hw]; exact below_set (HB.out) GB22.out : Below w.heap.size w w24)); clear HO_6; clear HB; have HO_6 := n0_; have HB := n1_; clear n0_ n1_; clear hg hw hp_))
                        (try simp only [← hl6_2])
                        go_roundg k2
                        case measure => have := HJ2.out; have := HK2.out; omega
                        case rel => exact ⟨(y128), (wrap64 (x29_2 + 1)), (by first | rfl | (simp; done) | (simp [*]; done)), H', ⟨by have := HJ2.out; have := HK2.out; omega⟩, ⟨by (try simp only [hl6_2]); (with_reducible repeat (first | apply Kd.R_alloc | apply Kd.R_drewN | apply Kd.R_drew)); exact HO_6.out⟩, ⟨by repeat (first | (with_reducible first | exact HB.out | apply below_alloc | apply pw_below_drewN | apply below_drew1) | exact HB.out)⟩⟩
                      · rw [if_neg c21] at H
                        exact absurd H (by simp)
                    · rw [if_neg c20] at H
                      exact absurd H (by simp)
                  · rw [if_neg c18] at H
                    exact absurd H (by simp)
                · rw [if_neg c16] at H
                  have c16b0 : decide (x29_2 < (y125.length : Int)) = false := decide_eq_false c16
                  try (have c16b9_hl6_2 := c16b0; simp only [hl6_2] at c16b9_hl6_2)
                  clear c16
                  simp only [Option.some.injEq, Prod.mk.injEq] at H
                  obtain ⟨rfl, rfl⟩ := H
                  have hcv25 := own_string (P := Tryz.prog) Tryz.underlying29 Tryz.underlying5 Tryz.underlying9 (Kd.own_of_R HO_6.out)
                  go_wp2
                  go_ret2
                  exact ⟨by first | rfl | (simp [errW_none, errW_some] <;> rfl) | (simp [*, errW_none, errW_some] <;> rfl), by repeat (first | (with_reducible first | exact HB.out | apply below_alloc | apply pw_below_drewN | apply below_drew1) | exact HB.out)⟩
          · rw [if_neg c12] at H
            exact absurd H (by simp)
        · rw [if_neg c11] at H
          exact absurd H (by simp)

/-! ### segment_told: function 23 -/
def segment_told.f (k : Nat) (a0 : Int) (a1 : Int) (a2 : Int) (a3 : ByteArray) : Option (ByteArray) := (field_Put.f k (a3.size : Int) 2).bind fun bt129 => ((some (([(a0) % 256, (a1) % 256, (a2) % 256] : List Int) : List Int)).bind fun y131 => (if (strOfNums y131).size + bt129.1.size ≤ 9223372036854775807 then (if ((strOfNums y131) ++ bt129.1).size + a3.size ≤ 9223372036854775807 then ((crc_Sum.f (((strOfNums y131) ++ bt129.1) ++ a3)).bind fun t134 => ((field_Put.f k t134 4).bind fun bt135 => (if (((strOfNums y131) ++ bt129.1) ++ a3).size + bt135.1.size ≤ 9223372036854775807 then (some ((((strOfNums y131) ++ bt129.1) ++ a3) ++ bt135.1)) else (none)))) else (none)) else (none)))
theorem segment_told.mono : ∀ a0 a1 a2 a3 k, LeO (segment_told.f k a0 a1 a2 a3) (segment_told.f (k + 1) a0 a1 a2 a3) := by
  intro a0 a1 a2 a3 k
  unfold segment_told.f
  repeat' first
      | (with_reducible exact field_Put.mono _ _ _)
      | (with_reducible exact LeO.refl _)
      | (with_reducible exact LeO.none _)
      | (with_reducible refine LeO.ite ?_ ?_)
      | (with_reducible refine LeO.bind ?_ (fun _ => ?_))
      | exact field_Put.mono _ _ _
      | exact LeO.none _
      | refine LeO.ite ?_ ?_
      | refine LeO.bind ?_ (fun _ => ?_)
set_option maxHeartbeats 8000000 in
set_option maxRecDepth 100000 in
theorem segment_told.calls (k : Nat) (a0 : Int) (a1 : Int) (a2 : Int) (a3 : ByteArray) (r : ByteArray) (w : World) (h : segment_told.f k a0 a1 a2 a3 = some r) :
    Calls Tryz.prog 23 #[.int .i64 a0, .int .i64 a1, .int .i64 a2, .string a3] w fun e w' => e = .returned (.string r) ∧ Below w.heap.size w w' := by
  have HB := Aside0.mk (Below.refl w.heap.size w)
  have H : ((field_Put.f k (a3.size : Int) 2).bind fun bt129 => ((some (([(a0) % 256, (a1) % 256, (a2) % 256] : List Int) : List Int)).bind fun y131 => (if (strOfNums y131).size + bt129.1.size ≤ 9223372036854775807 then (if ((strOfNums y131) ++ bt129.1).size + a3.size ≤ 9223372036854775807 then ((crc_Sum.f (((strOfNums y131) ++ bt129.1) ++ a3)).bind fun t134 => ((field_Put.f k t134 4).bind fun bt135 => (if (((strOfNums y131) ++ bt129.1) ++ a3).size + bt135.1.size ≤ 9223372036854775807 then (some ((((strOfNums y131) ++ bt129.1) ++ a3) ++ bt135.1)) else (none)))) else (none)) else (none)))) = some r := h
  clear h
  replace H := Option.bind_eq_some_iff.mp H
  obtain ⟨⟨t129, t130⟩, A50, H⟩ := H
  replace H : ((some (([(a0) % 256, (a1) % 256, (a2) % 256] : List Int) : List Int)).bind fun y131 => (if (strOfNums y131).size + t129.size ≤ 9223372036854775807 then (if ((strOfNums y131) ++ t129).size + a3.size ≤ 9223372036854775807 then ((crc_Sum.f (((strOfNums y131) ++ t129) ++ a3)).bind fun t134 => ((field_Put.f k t134 4).bind fun bt135 => (if (((strOfNums y131) ++ t129) ++ a3).size + bt135.1.size ≤ 9223372036854775807 then (some ((((strOfNums y131) ++ t129) ++ a3) ++ bt135.1)) else (none)))) else (none)) else (none))) = some r := H
  have A5 := Aside0.mk A50
  clear A50
  obtain ⟨y131, hy131⟩ : ∃ y_ : List Int, y_ = (([(a0) % 256, (a1) % 256, (a2) % 256] : List Int)) := ⟨_, rfl⟩
  replace H : (if (strOfNums y131).size + t129.size ≤ 9223372036854775807 then (if ((strOfNums y131) ++ t129).size + a3.size ≤ 9223372036854775807 then ((crc_Sum.f (((strOfNums y131) ++ t129) ++ a3)).bind fun t134 => ((field_Put.f k t134 4).bind fun bt135 => (if (((strOfNums y131) ++ t129) ++ a3).size + bt135.1.size ≤ 9223372036854775807 then (some ((((strOfNums y131) ++ t129) ++ a3) ++ bt135.1)) else (none)))) else (none)) else (none)) = some r := by first | (rw [hy131]; with_reducible exact H) | (have H2_ := (Option.bind_some _ _).symm.trans H; rw [hy131]; with_reducible exact H2_) | (have H2_ := (Option.bind_some _ _).symm.trans H; with_reducible exact H2_) | with_reducible exact H | (rw [hy131]; exact H) | exact H
  have Ny131 := Aside0.mk hy131
  clear hy131
  by_cases c6 : (strOfNums y131).size + t129.size ≤ 9223372036854775807
  · rw [if_pos c6] at H
    have c6b0 := eq_true c6
    have c6b1 : decide ((strOfNums y131).size + t129.size ≤ 9223372036854775807) = true := decide_eq_true c6
    try have c6b2 : (9223372036854775807 < (strOfNums y131).size + t129.size) = False := eq_false (Nat.not_lt.2 c6)
    by_cases c7 : ((strOfNums y131) ++ t129).size + a3.size ≤ 9223372036854775807
    · rw [if_pos c7] at H
      have c7b0 := eq_true c7
      have c7b1 : decide (((strOfNums y131) ++ t129).size + a3.size ≤ 9223372036854775807) = true := decide_eq_true c7
      try have c7b2 : (9223372036854775807 < ((strOfNums y131) ++ t129).size + a3.size) = False := eq_false (Nat.not_lt.2 c7)
      replace H := Option.bind_eq_some_iff.mp H
      obtain ⟨t134, A80, H⟩ := H
      replace H : ((field_Put.f k t134 4).bind fun bt135 => (if (((strOfNums y131) ++ t129) ++ a3).size + bt135.1.size ≤ 9223372036854775807 then (some ((((strOfNums y131) ++ t129) ++ a3) ++ bt135.1)) else (none))) = some r := H
      have A8 := Aside0.mk A80
      clear A80
      replace H := Option.bind_eq_some_iff.mp H
      obtain ⟨⟨t135, t136⟩, A90, H⟩ := H
      replace H : (if (((strOfNums y131) ++ t129) ++ a3).size + t135.size ≤ 9223372036854775807 then (some ((((strOfNums y131) ++ t129) ++ a3) ++ t135)) else (none)) = some r := H
      have A9 := Aside0.mk A90
      clear A90
      by_cases c10 : (((strOfNums y131) ++ t129) ++ a3).size + t135.size ≤ 9223372036854775807
      · rw [if_pos c10] at H
        have c10b0 := eq_true c10
        have c10b1 : decide ((((strOfNums y131) ++ t129) ++ a3).size + t135.size ≤ 9223372036854775807) = true := decide_eq_true c10
        try have c10b2 : (9223372036854775807 < (((strOfNums y131) ++ t129) ++ a3).size + t135.size) = False := eq_false (Nat.not_lt.2 c10)
        obtain rfl := Option.some.inj H
        go_enter Tryz.func23, Tryz.ntmps23
        go_wp2_with (first | ((with_reducible refine gate_callee (f := 36) rfl ?_); refine goesL_ (some 17) rfl rfl Tryz.func36 (by kernel_rfl) rfl #[.int .i64 (a3.size : Int), .int .i64 2] rfl (by (try simp only [List.map_toArray, List.map_cons, List.map_nil]); first | done | rfl | (simp only [List.length_drop, List.length_take]; rfl)) ?_; (with_reducible refine (field_Put.calls k (a3.size : Int) 2 t129 t130 _ A5.out).mono ?_); rintro e w11 ⟨rfl, hb⟩; refine ⟨_, rfl, ?_⟩; have n0_ := Aside0.mk (below_step (by repeat (first | (with_reducible first | exact HB.out | apply below_alloc | apply pw_below_drewN | apply below_drew1) | exact HB.out)) hb); clear HB; have HB := n0_; clear n0_; (try clear hb); (try clear hb2); (try clear hk); (try clear hi)) | ((with_reducible refine gate_dst (N := 26) rfl ?_); refine Kd.R_lit (Kd.int .u8) _ 5 ?hg (N := 26) ?hd (xs := ([(a0) % 256, (a1) % 256, (a2) % 256] : List Int)) (inner := [.int .u8 ((a0) % 256), .int .u8 ((a1) % 256), .int .u8 ((a2) % 256)]) (ok := fun _ => True) (okp := fun _ => True) ?hr ?hp (fun _ hk => hk) trivial (Below.refl _ _) (Nat.le_refl _) (by simp) ?_; (case hd => rfl); (case hg => rfl); (case hr => first | (go_simp; done) | (go_simp; rfl)); (case hp => exact (Reps.one (show Kd.M (Kd.int .u8) _ _ _ ((a0) % 256) [.int .u8 ((a0) % 256)] from rfl) (Reps.one (show Kd.M (Kd.int .u8) _ _ _ ((a1) % 256) [.int .u8 ((a1) % 256)] from rfl) (Reps.one (show Kd.M (Kd.int .u8) _ _ _ ((a2) % 256) [.int .u8 ((a2) % 256)] from rfl) (Reps.none _ _))))); intro v132 w12 ho13 hb hg_ hnew_; clear hg_ hnew_; (first | rw [← Ny131.out] at ho13 | (simp only [Int.reduceToNat] at ho13; rw [← Ny131.out] at ho13)); have n0_ := Aside0.mk (Kd.R_lower ho13 (below_size (by repeat (first | (with_reducible first | exact HB.out | apply below_alloc | apply pw_below_drewN | apply below_drew1) | exact HB.out)))); have n1_ := Aside0.mk (below_step (by repeat (first | (with_reducible first | exact HB.out | apply below_alloc | apply pw_below_drewN | apply below_drew1) | exact HB.out)) hb); clear HB; have HO133 := n0_; have HB := n1_; clear n0_ n1_; clear hb ho13; have hcv14 := own_string (P := Tryz.prog) Tryz.underlying29 Tryz.underlying5 Tryz.underlying9 (Kd.own_of_R HO133.out)) | ((with_reducible refine gate_callee (f := 29) rfl ?_); refine goesL_ (some 34) rfl rfl Tryz.func29 (by kernel_rfl) rfl #[.string (((strOfNums y131) ++ t129) ++ a3)] rfl (by (try simp only [List.map_toArray, List.map_cons, List.map_nil]); first | done | rfl | (simp only [List.length_drop, List.length_take]; rfl)) ?_; (with_reducible refine (crc_Sum.calls (((strOfNums y131) ++ t129) ++ a3) t134 _ A8.out).mono ?_); rintro e w15 ⟨rfl, hb⟩; refine ⟨_, rfl, ?_⟩; have n0_ := Aside0.mk (Kd.R_below (by (with_reducible repeat (first | apply Kd.R_alloc | apply Kd.R_drewN | apply Kd.R_drew)); exact HO133.out) hb); have n1_ := Aside0.mk (below_step (by repeat (first | (with_reducible first | exact HB.out | apply below_alloc | apply pw_below_drewN | apply below_drew1) | exact HB.out)) hb); clear HO133; clear HB; have HO133 := n0_; have HB := n1_; clear n0_ n1_; (try clear hb); (try clear hb2); (try clear hk); (try clear hi)) | ((with_reducible refine gate_callee (f := 36) rfl ?_); refine goesL_ (some 35) rfl rfl Tryz.func36 (by kernel_rfl) rfl #[.int .i64 t134, .int .i64 4] rfl (by (try simp only [List.map_toArray, List.map_cons, List.map_nil]); first | done | rfl | (simp only [List.length_drop, List.length_take]; rfl)) ?_; (with_reducible refine (field_Put.calls k t134 4 t135 t136 _ A9.out).mono ?_); rintro e w16 ⟨rfl, hb⟩; refine ⟨_, rfl, ?_⟩; have n0_ := Aside0.mk (Kd.R_below (by (with_reducible repeat (first | apply Kd.R_alloc | apply Kd.R_drewN | apply Kd.R_drew)); exact HO133.out) hb); have n1_ := Aside0.mk (below_step (by repeat (first | (with_reducible first | exact HB.out | apply below_alloc | apply pw_below_drewN | apply below_drew1) | exact HB.out)) hb); clear HO133; clear HB; have HO133 := n0_; have HB := n1_; clear n0_ n1_; (try clear hb); (try clear hb2); (try clear hk); (try clear hi)))
        go_ret
        exact ⟨by first | rfl | (simp [errW_none, errW_some] <;> rfl) | (simp [*, errW_none, errW_some] <;> rfl), by repeat (first | (with_reducible first | exact HB.out | apply below_alloc | apply pw_below_drewN | apply below_drew1) | exact HB.out)⟩
      · rw [if_neg c10] at H
        exact absurd H (by simp)
    · rw [if_neg c7] at H
      exact absurd H (by simp)
  · rw [if_neg c6] at H
    exact absurd H (by simp)

-- GIVEN: function 37 (segment_wasted)

-- GIVEN: function 38 (shift_Down)

-- GIVEN: function 57 (slices_Clone_int_int)

-- GIVEN: function 79 (side_May)

end Go.Proofs.YtbapmfghipcebaaGreatDoor.S
end
