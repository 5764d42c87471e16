/- Texts of this claim, put together: BackF, AwakeW, LBx0, LBx1, PureB. -/
import Derived.Test.YtbapmfghipcebaaGreatDoorB3
import Derived.Test.YtbapmfghipcebaaGreatDoorProg
import Derived.Below
import Derived.Deep.Draws
import Derived.Deep.AppendLies
import Derived.Maps.AppendAt
import Derived.OwnWalk
import Derived.Laws.BytesArg
import Derived.Laws.MakeOwn
import Derived.Laws.OwnMore
import Derived.Deep.OwnRows
import Derived.Tactics
import Derived.Lib.ConvBytes
import Derived.Laws.Slices
import Derived.WalkKit
import Derived.KernelRfl
import Derived.RowKit3
import Derived.Deep.LoopGhost
import Derived.Deep.QuietTactic
import Derived.BigQuiet
import Derived.WideLaws
import Derived.Deep.DeepCutAuto
import Derived.Deep.CutBlock
import Derived.Deep.RegionHeld3
import Derived.Laws.Rows
import Derived.Lib.AppendStr
import Derived.ArgAppend
import Derived.Laws.IdiomCopy
import Derived.OrdersHeld
import Derived.Laws.BitsLemmas
import Derived.RowKit
import Derived.Test.YtbapmfghipcebaaGreatDoorWWords
import Derived.Test.YtbapmfghipcebaaGreatDoorWLast
import Derived.Test.YtbapmfghipcebaaGreatDoorWTab
import Derived.Test.YtbapmfghipcebaaGreatDoorWFour
import Derived.Test.YtbapmfghipcebaaGreatDoorWQPut
import Derived.Test.YtbapmfghipcebaaGreatDoorWApart
import Derived.Test.YtbapmfghipcebaaGreatDoorWArr
import Derived.Test.YtbapmfghipcebaaGreatDoorWZeros
import Derived.Test.YtbapmfghipcebaaGreatDoorWFoot
import Derived.Test.YtbapmfghipcebaaGreatDoorWKept
import Derived.Test.YtbapmfghipcebaaGreatDoorWShare
import Derived.Test.YtbapmfghipcebaaGreatDoorWN
import Derived.Test.YtbapmfghipcebaaGreatDoorWFootNe
import Derived.Test.YtbapmfghipcebaaGreatDoorWAt
import Derived.Test.YtbapmfghipcebaaGreatDoorWEqStruct
import Derived.Test.YtbapmfghipcebaaGreatDoorWRepsOne
import Derived.Test.YtbapmfghipcebaaGreatDoorWInv
import Derived.Test.YtbapmfghipcebaaGreatDoorWInvWords
import Derived.Test.YtbapmfghipcebaaGreatDoorWGuard
import Derived.Test.YtbapmfghipcebaaGreatDoorWNEv
import Derived.Test.YtbapmfghipcebaaGreatDoorWMore
section
/- What is put comes back, where it was not coded. -/
set_option linter.unusedVariables false
set_option linter.unusedSimpArgs false
namespace Go.Proofs.YtbapmfghipcebaaGreatDoor.S
open Go Go.RowKit Go.Proofs Go.Proofs.YtbapmfghipcebaaGreatDoorW.PrintWords Go.Proofs.YtbapmfghipcebaaGreatDoorW.PrintLast Go.Proofs.YtbapmfghipcebaaGreatDoorW.PrintMore
open Dsc (bs samp1 samp2 samplesOf samples16 chans evens odds Fmt Frm fsize byteN low)

theorem told_parts (kind by' many : Nat) (own : List UInt8) (ho : own.length < 65536) :
    (Dsc.told kind by' many own).getD 0 0 = byteN kind ∧ (Dsc.told kind by' many own).getD 1 0 = byteN by' ∧ (Dsc.told kind by' many own).getD 2 0 = byteN many ∧ sizeG (Dsc.told kind by' many own) = own.length ∧ sumG (Dsc.told kind by' many own) = true ∧
    ((Dsc.told kind by' many own).take (5 + own.length)).drop 5 = own := by
  have hl := Dsc.told_length kind by' many own
  have hh := Dsc.headOf_length kind by' many own
  have e1 : Dsc.told kind by' many own = byteN kind :: byteN by' :: byteN many :: byteN own.length :: byteN (own.length / 256) :: (own ++ low (Dsc.crcN (Dsc.headOf kind by' many own)) 4) := by
    simp [Dsc.told, Dsc.headOf, low]
  refine ⟨by rw [e1]; rfl, by rw [e1]; rfl, by rw [e1]; rfl, ?_, ?_, ?_⟩
  · unfold sizeG
    rw [e1]
    simp only [List.take_succ_cons, List.drop_succ_cons, List.drop_zero, List.take_zero, unlow, Dsc.byteN_val]
    omega
  · unfold sumG
    have ht : (Dsc.told kind by' many own).take ((Dsc.told kind by' many own).length - 4) = Dsc.headOf kind by' many own := by
      rw [hl, show 9 + own.length - 4 = (Dsc.headOf kind by' many own).length by omega]
      unfold Dsc.told
      rw [List.take_left]
    have hd : (Dsc.told kind by' many own).drop ((Dsc.told kind by' many own).length - 4) = low (Dsc.crcN (Dsc.headOf kind by' many own)) 4 := by
      rw [hl, show 9 + own.length - 4 = (Dsc.headOf kind by' many own).length by omega]
      unfold Dsc.told
      rw [List.drop_left]
    rw [ht, hd, unlow_low 4 _ (Dsc.crcN_lt _)]
    simp
  · rw [e1, show 5 + own.length = own.length + 1 + 1 + 1 + 1 + 1 by omega]
    simp only [List.take_succ_cons, List.drop_succ_cons, List.drop_zero]
    rw [List.take_left]
theorem kindOf_own {l : List UInt8} {c b : Nat} (h : Frm l c b) : (Dsc.kindOf l c b).2.2.length ≤ l.length ∧ (Dsc.kindOf l c b).1 ≤ 2 ∧ (Dsc.kindOf l c b).2.1 ≤ 15 := by
  have hfs := h.fmt.fs
  unfold Dsc.kindOf
  split
  · exact ⟨by show (l.take _).length ≤ _; rw [List.length_take]; omega, by show 2 ≤ 2; omega, by show 0 ≤ 15; omega⟩
  · split
    · rename_i hlt
      exact ⟨Nat.le_of_lt hlt, by show 1 ≤ 2; omega, Dsc.wasteAll_le _⟩
    · exact ⟨Nat.le_refl _, by show 0 ≤ 2; omega, by show 0 ≤ 15; omega⟩
theorem kind_raw {l : List UInt8} {c b : Nat} (h : (Dsc.kindOf l c b).1 = 0) : (Dsc.kindOf l c b).2.2 = l := by
  unfold Dsc.kindOf at h ⊢
  split
  · rename_i hc; rw [if_pos hc] at h; cases h
  · rename_i hc
    rw [if_neg hc] at h
    split
    · rename_i hc2; rw [if_pos hc2] at h; cases h
    · rfl
theorem kind_const {l : List UInt8} {c b : Nat} (h : (Dsc.kindOf l c b).1 = 2) : Dsc.isConst l (fsize c b) = true ∧ (Dsc.kindOf l c b).2.2 = l.take (fsize c b) := by
  unfold Dsc.kindOf at h ⊢
  split
  · rename_i hc; exact ⟨hc, rfl⟩
  · rename_i hc
    rw [if_neg hc] at h
    split at h <;> cases h
/-- What stands in a put segment, seen by Get. -/
theorem get_put {l : List UInt8} {c b : Nat} (h : Frm l c b) {k : Nat} :
    segment_Get.f k (bs (Dsc.putSeg l c b)) c b = (openG k (Dsc.kindOf l c b).1 (bs (Dsc.kindOf l c b).2.2) c b (Dsc.kindOf l c b).2.1 (l.length / fsize c b)).bind fun d => endG k (bs (Dsc.putSeg l c b)) c b d := by
  have hfs := h.fmt.fs
  obtain ⟨h1, h2, h3⟩ := kindOf_own h
  have hfew := h.few
  obtain ⟨-, -, hq⟩ := frm_chs h
  unfold Dsc.putSeg
  generalize Dsc.kindOf l c b = K at *
  obtain ⟨kind, by', own⟩ := K
  simp only at h1 h2 h3 ⊢
  generalize l.length / fsize c b = many at *
  obtain ⟨p0, p1, p2, p3, p4, p5⟩ := told_parts kind by' many own (by omega)
  have hl := Dsc.told_length kind by' many own
  have hf := h.fmt
  have v0 : (byteN kind).toNat = kind := by rw [Dsc.byteN_val]; omega
  have v1 : (byteN by').toNat = by' := by rw [Dsc.byteN_val]; omega
  have v2 : (byteN many).toNat = many := by rw [Dsc.byteN_val]; omega
  unfold segment_Get.f
  rw [if_neg (by have := hf.c; have := hf.b; omega), bs_size, if_neg (by omega), if_neg (by omega), bs_data, p3, if_neg (by omega), p4, if_neg (by simp), p2, v2, if_neg (by omega), p0, p1, v0, v1, bs_extract, p5]
theorem end_back {l : List UInt8} {c b : Nat} (h : Frm l c b) {k : Nat} (hk : 20200 ≤ k) : endG k (bs (Dsc.putSeg l c b)) c b (bs l) = some (bs l, 0) := by
  unfold endG
  rw [put_yes h hk, Option.bind_some]
  simp
theorem get_back {l : List UInt8} {c b : Nat} (h : Frm l c b) (hn : (Dsc.kindOf l c b).1 ≠ 1) {k : Nat} (hk : 20200 ≤ k) : segment_Get.f k (bs (Dsc.putSeg l c b)) c b = some (bs l, 0) := by
  obtain ⟨h1, h2, h3⟩ := kindOf_own h
  have hfs := h.fmt.fs
  have hfew := h.few
  have hne := h.ne
  obtain ⟨-, -, hq⟩ := frm_chs h
  rw [get_put h]
  unfold openG
  rw [if_neg hn]
  by_cases h2' : (Dsc.kindOf l c b).1 = 2
  · obtain ⟨hc, ho⟩ := kind_const h2'
    rw [if_pos h2', ho]
    have hr : strings_Repeat.f (bs (l.take (fsize c b))) ((l.length / fsize c b : Nat) : Int) = some (bs l) := by
      have hs : (bs (l.take (fsize c b))).size ≤ 4 := by rw [bs_size, List.length_take]; omega
      unfold strings_Repeat.f
      have e : l = (List.replicate (l.length / fsize c b) (l.take (fsize c b))).flatten := by unfold Dsc.isConst at hc; simpa using hc
      generalize l.length / fsize c b = q at *
      have hm : (bs (l.take (fsize c b))).size * q ≤ 4 * 64 := Nat.mul_le_mul hs hq
      rw [Int.toNat_natCast, if_pos ⟨by omega, by omega, by omega⟩, bs_data, repeatL_eq, ← e]
      rfl
    rw [hr, Option.bind_some]
    exact end_back h hk
  · rw [if_neg h2', kind_raw (by omega), Option.bind_some]
    exact end_back h hk
end Go.Proofs.YtbapmfghipcebaaGreatDoor.S
end
section
/- The walk of descantlaw22.awake. -/
set_option linter.unusedVariables false
set_option linter.unusedSimpArgs false
namespace Go.Proofs.YtbapmfghipcebaaGreatDoor.S
open Go Go.RowKit Go.Proofs Go.Proofs.YtbapmfghipcebaaGreatDoorW.PrintWords
open Dsc (bs Fmt Frm)

theorem frm5 : Frm [5, 0, 5, 0, 5, 0] 1 16 := ⟨⟨.inl rfl, .inr rfl⟩, by decide, by decide, by decide⟩
theorem frm7 : Frm [5, 0, 255, 127] 1 16 := ⟨⟨.inl rfl, .inr rfl⟩, by decide, by decide, by decide⟩
theorem seg5 : Dsc.putSeg [5, 0, 5, 0, 5, 0] 1 16 = Dsc.told 2 0 3 [5, 0] := by
  have h : Dsc.isConst [5, 0, 5, 0, 5, 0] (Dsc.fsize 1 16) = true := by decide +kernel
  unfold Dsc.putSeg Dsc.kindOf
  rw [if_pos h]
  rfl
theorem kind5 : (Dsc.kindOf [5, 0, 5, 0, 5, 0] 1 16).1 ≠ 1 := by
  have h : Dsc.isConst [5, 0, 5, 0, 5, 0] (Dsc.fsize 1 16) = true := by decide +kernel
  unfold Dsc.kindOf
  rw [if_pos h]
  decide
theorem coded_least (chs : List (List Int)) (h : ∀ r ∈ Dsc.lputs (Dsc.sideP (Dsc.lowsOf (Dsc.wasteAll chs) chs)), -16777216 ≤ r ∧ r ≤ 16777216) : 4 ≤ (Dsc.codedOf chs).length := (Dsc.rput_length h).1
theorem lputs_bd {sides : List (List Int)} {n : Nat} (h : Chs sides n) : ∀ r ∈ Dsc.lputs sides, -16777216 ≤ r ∧ r ≤ 16777216 := by
  intro r hr
  unfold Dsc.lputs at hr
  rw [List.mem_flatMap] at hr
  obtain ⟨xs, hx, hr⟩ := hr
  have := (lput_facts (h.bd xs hx)).2 r hr
  omega
theorem coded_ge {l : List UInt8} {c b : Nat} (h : Frm l c b) : 4 ≤ (Dsc.codedOf (Dsc.chans c (Dsc.samplesOf b l))).length := by
  obtain ⟨h1, h2, h3⟩ := frm_chs h
  refine coded_least _ (lputs_bd (sideP_chs (h1.lows _) ?_))
  intro xs hx x hxx
  obtain ⟨ys, hy, rfl⟩ := List.mem_map.1 hx
  obtain ⟨y, hy2, rfl⟩ := List.mem_map.1 hxx
  exact div_bd (by decide) (h2 ys hy y hy2)
theorem kind7 : (Dsc.kindOf [5, 0, 255, 127] 1 16).1 ≠ 1 := by
  have h : Dsc.isConst [5, 0, 255, 127] (Dsc.fsize 1 16) = false := by decide +kernel
  have h2 := coded_ge frm7
  unfold Dsc.kindOf
  rw [if_neg (by rw [h]; decide), if_neg (by show ¬ _ < 4; omega)]
  decide
theorem seg5_sum : sumG (1 :: (Dsc.told 2 0 3 [5, 0]).drop 1) = false := by decide +kernel
theorem seg5_size : sizeG (1 :: (Dsc.told 2 0 3 [5, 0]).drop 1) = 2 := by decide +kernel
theorem seg5_size1 : sizeG ((Dsc.told 2 0 3 [5, 0]).drop 1) = 1280 := by decide +kernel
theorem awake_get1 (k : Nat) : segment_Get.f k (bs (1 :: (Dsc.told 2 0 3 [5, 0]).drop 1)) ((1 : Nat) : Int) ((16 : Nat) : Int) = some (⟨#[]⟩, 2201) := by
  have hl := Dsc.told_length 2 0 3 [5, 0]
  have hl2 : (1 :: (Dsc.told 2 0 3 [5, 0]).drop 1).length = 11 := by rw [List.length_cons, List.length_drop, hl]; rfl
  unfold segment_Get.f
  rw [if_neg (by omega), bs_size, hl2, if_neg (by omega), if_neg (by omega), bs_data, seg5_size, if_neg (by omega), if_pos seg5_sum]
theorem awake_get2 (k : Nat) : segment_Get.f k (bs ((Dsc.told 2 0 3 [5, 0]).drop 1)) ((1 : Nat) : Int) ((16 : Nat) : Int) = some (⟨#[]⟩, 2200) := by
  have hl := Dsc.told_length 2 0 3 [5, 0]
  have hl2 : ((Dsc.told 2 0 3 [5, 0]).drop 1).length = 10 := by rw [List.length_drop, hl]; rfl
  unfold segment_Get.f
  rw [if_neg (by omega), bs_size, hl2, if_neg (by omega), if_neg (by omega), bs_data, seg5_size1, if_pos (by omega)]
def fmtV : Value := .agg #[.int .i64 1, .int .i64 16]
set_option maxRecDepth 100000 in
set_option maxHeartbeats 2000000 in
theorem awake_any (w : World) (htw : TW w) : Calls Tryz.prog 11 #[] w fun e w' => e = .returned (.bool true) ∧ Below w.heap.size w w' := by
  have HT := Lib.hid htw
  have P5 := Lib.hid (fun W hW => by have := segment_Put.calls 20200 _ _ _ _ _ W (put_yes frm5 (Nat.le_refl _)) hW; rw [seg5] at this; exact this)
  have P7 := Lib.hid (fun W hW => segment_Put.calls 20200 _ _ _ _ _ W (put_yes frm7 (Nat.le_refl _)) hW)
  have P0 := Lib.hid (fun W hW => segment_Put.calls 20200 _ _ _ _ _ W (put_no (l := []) frm5.fmt (fun h => absurd h.ne (by decide)) (Nat.le_refl _)) hW)
  have G5 := Lib.hid (fun W hW => by have := segment_Get.calls 20200 _ _ _ _ _ W (get_back frm5 kind5 (Nat.le_refl _)) hW; rw [seg5] at this; exact this)
  have G7 := Lib.hid (fun W hW => segment_Get.calls 20200 _ _ _ _ _ W (get_back frm7 kind7 (Nat.le_refl _)) hW)
  have G1 := Lib.hid (fun W hW => segment_Get.calls 20200 _ _ _ _ _ W (awake_get1 20200) hW)
  have G2 := Lib.hid (fun W hW => segment_Get.calls 20200 _ _ _ _ _ W (awake_get2 20200) hW)
  have z : (bs (1 :: (Dsc.told 2 0 3 [5, 0]).drop 1)) = ⟨#[1]⟩ ++ (bs (Dsc.told 2 0 3 [5, 0])).extract 1 (bs (Dsc.told 2 0 3 [5, 0])).size := by
    rw [bs_extract, bs_size, List.take_length]
    exact (bs_append [1] _).symm
  have z2 : bs ((Dsc.told 2 0 3 [5, 0]).drop 1) = (bs (Dsc.told 2 0 3 [5, 0])).extract 1 (bs (Dsc.told 2 0 3 [5, 0])).size := by
    rw [bs_extract, bs_size, List.take_length]
  rw [z] at G1
  rw [z2] at G2
  have a1 : (bs (Dsc.told 2 0 3 [5, 0])).size = 11 := by rw [bs_size, Dsc.told_length]; rfl
  have a2 : ((bs (Dsc.told 2 0 3 [5, 0])).extract 0 7).toList = [2, 0, 3, 2, 0, 5, 0] := by
    rw [bs_extract, bs_toList]; rfl
  rw [a1] at G1 G2
  generalize bs (Dsc.told 2 0 3 [5, 0]) = A at *
  generalize bs (Dsc.putSeg [5, 0, 255, 127] 1 16) = B at *
  clear z z2
  have P5' := Lib.hid (show ∀ W, TW W → Calls Tryz.prog 12 #[.string ⟨#[5, 0, 5, 0, 5, 0]⟩, .agg #[.int .i64 1, .int .i64 16]] W fun e w' => e = .returned (.tuple #[.string A, .int .i64 0]) ∧ Below W.heap.size W w' from P5.out)
  have P7' := Lib.hid (show ∀ W, TW W → Calls Tryz.prog 12 #[.string ⟨#[5, 0, 255, 127]⟩, .agg #[.int .i64 1, .int .i64 16]] W fun e w' => e = .returned (.tuple #[.string B, .int .i64 0]) ∧ Below W.heap.size W w' from P7.out)
  have P0' := Lib.hid (show ∀ W, TW W → Calls Tryz.prog 12 #[.string ⟨#[]⟩, .agg #[.int .i64 1, .int .i64 16]] W fun e w' => e = .returned (.tuple #[.string ⟨#[]⟩, .int .i64 2200]) ∧ Below W.heap.size W w' from P0.out)
  have G5' := Lib.hid (show ∀ W, TW W → Calls Tryz.prog 14 #[.string A, .agg #[.int .i64 1, .int .i64 16]] W fun e w' => e = .returned (.tuple #[.string ⟨#[5, 0, 5, 0, 5, 0]⟩, .int .i64 0]) ∧ Below W.heap.size W w' from G5.out)
  have G7' := Lib.hid (show ∀ W, TW W → Calls Tryz.prog 14 #[.string B, .agg #[.int .i64 1, .int .i64 16]] W fun e w' => e = .returned (.tuple #[.string ⟨#[5, 0, 255, 127]⟩, .int .i64 0]) ∧ Below W.heap.size W w' from G7.out)
  have G1' := Lib.hid (show ∀ W, TW W → Calls Tryz.prog 14 #[.string (⟨#[1]⟩ ++ A.extract 1 11), .agg #[.int .i64 1, .int .i64 16]] W fun e w' => e = .returned (.tuple #[.string ⟨#[]⟩, .int .i64 2201]) ∧ Below W.heap.size W w' from G1.out)
  have G2' := Lib.hid (show ∀ W, TW W → Calls Tryz.prog 14 #[.string (A.extract 1 11), .agg #[.int .i64 1, .int .i64 16]] W fun e w' => e = .returned (.tuple #[.string ⟨#[]⟩, .int .i64 2200]) ∧ Below W.heap.size W w' from G2.out)
  have NM := Lib.hid (fun (x : Int) W => descantlaw0_Num.calls x x W rfl)
  have CR := Lib.hid (show ∀ W, Calls Tryz.prog 16 #[.string ⟨#[]⟩] W fun e w' => e = .returned (.int .i64 0) ∧ Below W.heap.size W w' from fun W => descantref1_Crc.calls ⟨#[]⟩ 0 W (by decide +kernel))
  clear P5 P7 P0 G5 G7 G1 G2 htw
  have a1i : ((A.size : Int) != 11) = false := by rw [a1]; rfl
  go_enter Tryz.func11, Tryz.ntmps11
  go_wp2_with fail
  have K0 := Lib.hid (Dsc.Blk.new w 23 #[.int .i64 1, .int .i64 16])
  have B0 := Lib.hid (show Below w.heap.size w (w.alloc (.cells #[.int .i64 1, .int .i64 16] 23)) by go_grown)
  refine (P5'.out _ (HT.out.of_ B0.out)).mono ?_
  rintro e w1 ⟨rfl, hb⟩
  have K1 := Lib.hid (K0.out.kept hb)
  have B1 := Lib.hid (Dsc.below_then B0.out B0.out.size hb)
  clear hb K0 B0
  have kc0 := K1.out.cell 0
  have kc1 := K1.out.cell 1
  simp at kc0 kc1
  go_wp2_with fail
  refine (G5'.out _ (HT.out.of_ B1.out)).mono ?_
  rintro e w2 ⟨rfl, hb⟩
  have K2 := Lib.hid (K1.out.kept hb)
  have B2 := Lib.hid (Dsc.below_then B1.out B1.out.size hb)
  clear hb K1 B1
  clear kc0 kc1
  have kc0 := K2.out.cell 0
  have kc1 := K2.out.cell 1
  simp at kc0 kc1
  go_wp2_with fail
  refine (P7'.out _ (HT.out.of_ B2.out)).mono ?_
  rintro e w3 ⟨rfl, hb⟩
  have K3 := Lib.hid (K2.out.kept hb)
  have B3 := Lib.hid (Dsc.below_then B2.out B2.out.size hb)
  clear hb K2 B2
  clear kc0 kc1
  have kc0 := K3.out.cell 0
  have kc1 := K3.out.cell 1
  simp at kc0 kc1
  go_wp2_with fail
  refine (G7'.out _ (HT.out.of_ B3.out)).mono ?_
  rintro e w4 ⟨rfl, hb⟩
  have K4 := Lib.hid (K3.out.kept hb)
  have B4 := Lib.hid (Dsc.below_then B3.out B3.out.size hb)
  clear hb K3 B3
  clear kc0 kc1
  have kc0 := K4.out.cell 0
  have kc1 := K4.out.cell 1
  simp at kc0 kc1
  go_wp2_with fail
  refine (P0'.out _ (HT.out.of_ B4.out)).mono ?_
  rintro e w5 ⟨rfl, hb⟩
  have K5 := Lib.hid (K4.out.kept hb)
  have B5 := Lib.hid (Dsc.below_then B4.out B4.out.size hb)
  clear hb K4 B4
  clear kc0 kc1
  have kc0 := K5.out.cell 0
  have kc1 := K5.out.cell 1
  simp at kc0 kc1
  go_wp2_with fail
  refine Dsc.wp_region_any_drew (by kernel_rfl) ?_
  refine wpAny_take (i := 0) (v := .string A) rfl (by decide +kernel) (by decide +kernel) (by decide +kernel) (fun _ _ _ h => h) (Or.inl ⟨by rfl, fun w => by rfl⟩) ?_
  try simp only [Act.put, Array.toArray_toList, List.getElem_toArray, List.getElem_cons_zero, List.getElem_cons_succ, List.setIfInBounds_toArray, List.set_cons_zero, List.set_cons_succ]
  refine wpAny_take (i := 1) (v := .string (A.extract 1 11)) rfl (by decide +kernel) (by decide +kernel) (by decide +kernel) (fun _ _ _ h => h) (Or.inl ⟨by rfl, fun w => by go_simp⟩) ?_
  try simp only [Act.put, Array.toArray_toList, List.getElem_toArray, List.getElem_cons_zero, List.getElem_cons_succ, List.setIfInBounds_toArray, List.set_cons_zero, List.set_cons_succ]
  refine wpAny_take (i := 2) (v := .string (⟨#[1]⟩ ++ A.extract 1 11)) rfl (by decide +kernel) (by decide +kernel) (by decide +kernel) (fun _ _ _ h => h) (Or.inl ⟨by rfl, fun w => by go_simp⟩) ?_
  try simp only [Act.put, Array.toArray_toList, List.getElem_toArray, List.getElem_cons_zero, List.getElem_cons_succ, List.setIfInBounds_toArray, List.set_cons_zero, List.set_cons_succ]
  refine wpAny_all (rs := [3]) (by decide +kernel) (by simp) ?_
  intro i hi
  obtain rfl : i = 3 := by simpa using hi
  clear hi
  refine Dsc.wpOp_value (w' := w5.drew) (v := .agg #[.int .i64 1, .int .i64 16]) rfl (by rfl) (by go_simp) ?_
  try simp only [Act.put, Array.toArray_toList, List.getElem_toArray, List.getElem_cons_zero, List.getElem_cons_succ, List.setIfInBounds_toArray, List.set_cons_zero, List.set_cons_succ]
  refine wpAny_all (rs := [4]) (by decide +kernel) (by simp) ?_
  intro i hi
  obtain rfl : i = 4 := by simpa using hi
  clear hi
  refine Dsc.wpOp_gen rfl (by rfl) ?_
  intro K' hK'
  go_simp
  refine (G1'.out _ (HT.out.of_ B5.out.drew)).mono ?_
  rintro e w6 ⟨rfl, hb⟩
  have K6 := Lib.hid (K5.out.drew.kept hb)
  have B6 := Lib.hid (Dsc.below_then B5.out.drew B5.out.size hb)
  clear hb K5 B5
  refine hK' _ _ ?_
  clear hK'
  try simp only [Act.put, Array.toArray_toList, List.getElem_toArray, List.getElem_cons_zero, List.getElem_cons_succ, List.setIfInBounds_toArray, List.set_cons_zero, List.set_cons_succ]
  refine wpAny_take (i := 5) (v := .tuple #[.string ⟨#[]⟩, .int .i64 2201]) rfl (by decide +kernel) (by decide +kernel) (by decide +kernel) (fun _ _ _ h => h) (Or.inl ⟨by rfl, fun w => by rfl⟩) ?_
  try simp only [Act.put, Array.toArray_toList, List.getElem_toArray, List.getElem_cons_zero, List.getElem_cons_succ, List.setIfInBounds_toArray, List.set_cons_zero, List.set_cons_succ]
  refine wpAny_take (i := 6) (v := .string ⟨#[]⟩) rfl (by decide +kernel) (by decide +kernel) (by decide +kernel) (fun _ _ _ h => h) (Or.inl ⟨by rfl, fun w => by rfl⟩) ?_
  try simp only [Act.put, Array.toArray_toList, List.getElem_toArray, List.getElem_cons_zero, List.getElem_cons_succ, List.setIfInBounds_toArray, List.set_cons_zero, List.set_cons_succ]
  refine wpAny_take (i := 7) (v := .int .i64 2201) rfl (by decide +kernel) (by decide +kernel) (by decide +kernel) (fun _ _ _ h => h) (Or.inl ⟨by rfl, fun w => by rfl⟩) ?_
  try simp only [Act.put, Array.toArray_toList, List.getElem_toArray, List.getElem_cons_zero, List.getElem_cons_succ, List.setIfInBounds_toArray, List.set_cons_zero, List.set_cons_succ]
  refine wpAny_take (i := 8) (v := .string ⟨#[]⟩) rfl (by decide +kernel) (by decide +kernel) (by decide +kernel) (fun _ _ _ h => h) (Or.inl ⟨by rfl, fun w => by rfl⟩) ?_
  try simp only [Act.put, Array.toArray_toList, List.getElem_toArray, List.getElem_cons_zero, List.getElem_cons_succ, List.setIfInBounds_toArray, List.set_cons_zero, List.set_cons_succ]
  refine wpAny_take (i := 9) (v := .int .i64 2201) rfl (by decide +kernel) (by decide +kernel) (by decide +kernel) (fun _ _ _ h => h) (Or.inl ⟨by rfl, fun w => by rfl⟩) ?_
  try simp only [Act.put, Array.toArray_toList, List.getElem_toArray, List.getElem_cons_zero, List.getElem_cons_succ, List.setIfInBounds_toArray, List.set_cons_zero, List.set_cons_succ]
  refine wpAny_done (by decide +kernel) ?_ _
  clear kc0 kc1
  have kc0 := K6.out.cell 0
  have kc1 := K6.out.cell 1
  simp at kc0 kc1
  go_wp2_with fail
  refine Dsc.wp_region_any_drew (by kernel_rfl) ?_
  refine wpAny_take (i := 0) (v := .string A) rfl (by decide +kernel) (by decide +kernel) (by decide +kernel) (fun _ _ _ h => h) (Or.inl ⟨by rfl, fun w => by rfl⟩) ?_
  try simp only [Act.put, Array.toArray_toList, List.getElem_toArray, List.getElem_cons_zero, List.getElem_cons_succ, List.setIfInBounds_toArray, List.set_cons_zero, List.set_cons_succ]
  refine wpAny_take (i := 1) (v := .string (A.extract 1 11)) rfl (by decide +kernel) (by decide +kernel) (by decide +kernel) (fun _ _ _ h => h) (Or.inl ⟨by rfl, fun w => by go_simp⟩) ?_
  try simp only [Act.put, Array.toArray_toList, List.getElem_toArray, List.getElem_cons_zero, List.getElem_cons_succ, List.setIfInBounds_toArray, List.set_cons_zero, List.set_cons_succ]
  refine wpAny_all (rs := [2]) (by decide +kernel) (by simp) ?_
  intro i hi
  obtain rfl : i = 2 := by simpa using hi
  clear hi
  refine Dsc.wpOp_value (w' := w6.drew) (v := .agg #[.int .i64 1, .int .i64 16]) rfl (by rfl) (by go_simp) ?_
  try simp only [Act.put, Array.toArray_toList, List.getElem_toArray, List.getElem_cons_zero, List.getElem_cons_succ, List.setIfInBounds_toArray, List.set_cons_zero, List.set_cons_succ]
  refine wpAny_all (rs := [3]) (by decide +kernel) (by simp) ?_
  intro i hi
  obtain rfl : i = 3 := by simpa using hi
  clear hi
  refine Dsc.wpOp_gen rfl (by rfl) ?_
  intro K' hK'
  go_simp
  refine (G2'.out _ (HT.out.of_ B6.out.drew)).mono ?_
  rintro e w7 ⟨rfl, hb⟩
  have K7 := Lib.hid (K6.out.drew.kept hb)
  have B7 := Lib.hid (Dsc.below_then B6.out.drew B6.out.size hb)
  clear hb K6 B6
  refine hK' _ _ ?_
  clear hK'
  try simp only [Act.put, Array.toArray_toList, List.getElem_toArray, List.getElem_cons_zero, List.getElem_cons_succ, List.setIfInBounds_toArray, List.set_cons_zero, List.set_cons_succ]
  refine wpAny_take (i := 4) (v := .tuple #[.string ⟨#[]⟩, .int .i64 2200]) rfl (by decide +kernel) (by decide +kernel) (by decide +kernel) (fun _ _ _ h => h) (Or.inl ⟨by rfl, fun w => by rfl⟩) ?_
  try simp only [Act.put, Array.toArray_toList, List.getElem_toArray, List.getElem_cons_zero, List.getElem_cons_succ, List.setIfInBounds_toArray, List.set_cons_zero, List.set_cons_succ]
  refine wpAny_take (i := 5) (v := .string ⟨#[]⟩) rfl (by decide +kernel) (by decide +kernel) (by decide +kernel) (fun _ _ _ h => h) (Or.inl ⟨by rfl, fun w => by rfl⟩) ?_
  try simp only [Act.put, Array.toArray_toList, List.getElem_toArray, List.getElem_cons_zero, List.getElem_cons_succ, List.setIfInBounds_toArray, List.set_cons_zero, List.set_cons_succ]
  refine wpAny_take (i := 6) (v := .int .i64 2200) rfl (by decide +kernel) (by decide +kernel) (by decide +kernel) (fun _ _ _ h => h) (Or.inl ⟨by rfl, fun w => by rfl⟩) ?_
  try simp only [Act.put, Array.toArray_toList, List.getElem_toArray, List.getElem_cons_zero, List.getElem_cons_succ, List.setIfInBounds_toArray, List.set_cons_zero, List.set_cons_succ]
  refine wpAny_take (i := 7) (v := .string ⟨#[]⟩) rfl (by decide +kernel) (by decide +kernel) (by decide +kernel) (fun _ _ _ h => h) (Or.inl ⟨by rfl, fun w => by rfl⟩) ?_
  try simp only [Act.put, Array.toArray_toList, List.getElem_toArray, List.getElem_cons_zero, List.getElem_cons_succ, List.setIfInBounds_toArray, List.set_cons_zero, List.set_cons_succ]
  refine wpAny_take (i := 8) (v := .int .i64 2200) rfl (by decide +kernel) (by decide +kernel) (by decide +kernel) (fun _ _ _ h => h) (Or.inl ⟨by rfl, fun w => by rfl⟩) ?_
  try simp only [Act.put, Array.toArray_toList, List.getElem_toArray, List.getElem_cons_zero, List.getElem_cons_succ, List.setIfInBounds_toArray, List.set_cons_zero, List.set_cons_succ]
  refine wpAny_done (by decide +kernel) ?_ _
  clear kc0 kc1
  go_wp2_with (first | (go_at_call 13; refine (NM.out _ _).mono ?_; rintro e w' ⟨rfl, ⟨n, hn⟩⟩; subst hn) | (go_at_call 16; refine (CR.out _).mono ?_; rintro e w8 ⟨rfl, hb8⟩; have B8 := Lib.hid hb8; clear hb8))
  go_ret
  exact ⟨rfl, Dsc.below_then (w1 := w7.drewN _) (Dsc.below_drewN B7.out _) B7.out.size B8.out⟩
def descantlaw22_awake.f : Option Bool := some true
theorem descantlaw22_awake.calls (r : Bool) (w : World) (h : descantlaw22_awake.f = some r) (htw : TW w) :
    Calls Tryz.prog 11 #[] w fun e w' => e = .returned (.bool r) ∧ Below w.heap.size w w' := by
  cases h
  exact awake_any w htw
end Go.Proofs.YtbapmfghipcebaaGreatDoor.S
end
section
namespace Go.Proofs.YtbapmfghipcebaaGreatDoor.LB
open Go.RowKit Go.Proofs.YtbapmfghipcebaaGreatDoor.S Go.Proofs.YtbapmfghipcebaaGreatDoorW.PrintWords Go.Proofs.YtbapmfghipcebaaGreatDoorW.PrintLast Go.Proofs.YtbapmfghipcebaaGreatDoorW.PrintMore
attribute [local go_sem] max2_int min2_int max_two min_two max_three min_three max_four min_four   -- for this text's walks alone
set_option linter.unusedVariables false
set_option linter.unusedSimpArgs false



def errW : Option Int → Value
  | none => .nilIface
  | some c => .iface 0 (.int .i64 c)
theorem errW_none : errW none = .nilIface := rfl
theorem errW_some (c : Int) : errW (some c) = .iface 0 (.int .i64 c) := rfl

-- the values' own types

end Go.Proofs.YtbapmfghipcebaaGreatDoor.LB
end
section
namespace Go.Proofs.YtbapmfghipcebaaGreatDoor.LB
open Go.RowKit Go.Proofs.YtbapmfghipcebaaGreatDoor.S Go.Proofs.YtbapmfghipcebaaGreatDoorW.PrintWords Go.Proofs.YtbapmfghipcebaaGreatDoorW.PrintLast Go.Proofs.YtbapmfghipcebaaGreatDoorW.PrintMore
attribute [local go_sem] max2_int min2_int max_two min_two max_three min_three max_four min_four   -- for this text's walks alone
set_option linter.unusedVariables false
set_option linter.unusedSimpArgs false

-- GIVEN: function 11 (descantlaw22_awake)

-- GIVEN: function 12 (segment_Put)

-- GIVEN: function 13 (descantlaw0_Num)

-- GIVEN: function 17 (descantref13_FormatMay)

/-! ### descantlaw22_SegmentBounds: function 5 -/
mutual
def descantlaw22_SegmentBounds.j0 : Nat → ByteArray → ByteArray → Bool → Int → Int → Option (Bool)
  | 0, _, _, _, _, _ => none
  | k + 1, x0, x5, x25, x102000, x102001 => if x25 = true then (some (x5.toList == ([] : List UInt8))) else (descantlaw22_SegmentBounds.l0 k x0 x5 (wrap64 (Int.tdiv (wrap64 (x102000 * x102001)) 8)) true (wrap64 (Int.tdiv (wrap64 (x102000 * x102001)) 8)))
def descantlaw22_SegmentBounds.l0 : Nat → ByteArray → ByteArray → Int → Bool → Int → Option (Bool)
  | 0, _, _, _, _, _ => none
  | k + 1, x0, x5, x7, x8, x9 => if x9 < (x0.size : Int) then (if x8 = true then (if 0 ≤ x9 then (if 0 ≤ (wrap64 (x9 - x7)) then (if (wrap64 (x9 - x7)) < (x0.size : Int) then (descantlaw22_SegmentBounds.l0 k x0 x5 x7 ((bt x0 x9) == (bt x0 (wrap64 (x9 - x7)))) (wrap64 (x9 + 1))) else (none)) else (none)) else (none)) else (descantlaw22_SegmentBounds.l0 k x0 x5 x7 false (wrap64 (x9 + 1)))) else (if (x5.size : Int) ≥ 9 then (if (x5.size : Int) ≤ (wrap64 ((x0.size : Int) + 9)) then (if x8 = true then (if (x5.size : Int) = (wrap64 (9 + x7)) then (if 0 < (x5.size : Int) then (some ((bt x5 0) == 2)) else (none)) else (some false)) else (some true)) else (some false)) else (some false))
end
def descantlaw22_SegmentBounds.f (k : Nat) (a0 : ByteArray) (a1_0 : Int) (a1_1 : Int) : Option (Bool) := (descantlaw22_awake.f).bind fun t102 => (if t102 = true then ((segment_Put.f k a0 a1_0 a1_1).bind fun bt103 => ((descantlaw0_Num.f bt103.2).bind fun t105 => (if t105 = 0 then ((descantref13_FormatMay.f a1_0 a1_1).bind fun t106 => (descantlaw22_SegmentBounds.j0 k a0 bt103.1 (!t106) a1_0 a1_1)) else (descantlaw22_SegmentBounds.j0 k a0 bt103.1 true a1_0 a1_1)))) else (some false))
theorem descantlaw22_SegmentBounds.mono_l : ∀ k, (∀ y0 y1 y2 y3 y4, LeO (descantlaw22_SegmentBounds.j0 k y0 y1 y2 y3 y4) (descantlaw22_SegmentBounds.j0 (k + 1) y0 y1 y2 y3 y4)) ∧ (∀ y0 y1 y2 y3 y4, LeO (descantlaw22_SegmentBounds.l0 k y0 y1 y2 y3 y4) (descantlaw22_SegmentBounds.l0 (k + 1) y0 y1 y2 y3 y4))
  | 0 => ⟨fun _ _ _ _ _ r h => by simp [descantlaw22_SegmentBounds.j0] at h, fun _ _ _ _ _ r h => by simp [descantlaw22_SegmentBounds.l0] at h⟩
  | k + 1 => by
    obtain ⟨ih0, ih1⟩ := descantlaw22_SegmentBounds.mono_l k
    refine ⟨?_, ?_⟩
    · intro y0 y1 y2 y3 y4
      unfold descantlaw22_SegmentBounds.j0
      repeat' first
      | (with_reducible exact ih0 _ _ _ _ _)
      | (with_reducible exact ih1 _ _ _ _ _)
      | (with_reducible exact segment_Put.mono _ _ _ _)
      | (with_reducible exact LeO.refl _)
      | (with_reducible exact LeO.none _)
      | (with_reducible refine LeO.ite ?_ ?_)
      | (with_reducible refine LeO.bind ?_ (fun _ => ?_))
      | exact ih0 _ _ _ _ _
      | exact ih1 _ _ _ _ _
      | exact segment_Put.mono _ _ _ _
      | exact LeO.none _
      | refine LeO.ite ?_ ?_
      | refine LeO.bind ?_ (fun _ => ?_)
    · intro y0 y1 y2 y3 y4
      unfold descantlaw22_SegmentBounds.l0
      repeat' first
      | (with_reducible exact ih0 _ _ _ _ _)
      | (with_reducible exact ih1 _ _ _ _ _)
      | (with_reducible exact segment_Put.mono _ _ _ _)
      | (with_reducible exact LeO.refl _)
      | (with_reducible exact LeO.none _)
      | (with_reducible refine LeO.ite ?_ ?_)
      | (with_reducible refine LeO.bind ?_ (fun _ => ?_))
      | exact ih0 _ _ _ _ _
      | exact ih1 _ _ _ _ _
      | exact segment_Put.mono _ _ _ _
      | exact LeO.none _
      | refine LeO.ite ?_ ?_
      | refine LeO.bind ?_ (fun _ => ?_)
theorem descantlaw22_SegmentBounds.mono : ∀ a0 a1 a2 k, LeO (descantlaw22_SegmentBounds.f k a0 a1 a2) (descantlaw22_SegmentBounds.f (k + 1) a0 a1 a2) := by
  intro a0 a1 a2 k
  obtain ⟨ih0, ih1⟩ := descantlaw22_SegmentBounds.mono_l k
  unfold descantlaw22_SegmentBounds.f
  repeat' first
      | (with_reducible exact ih0 _ _ _ _ _)
      | (with_reducible exact ih1 _ _ _ _ _)
      | (with_reducible exact segment_Put.mono _ _ _ _)
      | (with_reducible exact LeO.refl _)
      | (with_reducible exact LeO.none _)
      | (with_reducible refine LeO.ite ?_ ?_)
      | (with_reducible refine LeO.bind ?_ (fun _ => ?_))
      | exact ih0 _ _ _ _ _
      | exact ih1 _ _ _ _ _
      | exact segment_Put.mono _ _ _ _
      | exact LeO.none _
      | refine LeO.ite ?_ ?_
      | refine LeO.bind ?_ (fun _ => ?_)
set_option maxHeartbeats 8000000 in
set_option maxRecDepth 100000 in
theorem descantlaw22_SegmentBounds.calls (k : Nat) (a0 : ByteArray) (a1_0 : Int) (a1_1 : Int) (r : Bool) (w : World) (h : descantlaw22_SegmentBounds.f k a0 a1_0 a1_1 = some r) (htw : TW w) :
    Calls Tryz.prog 5 #[.string a0, .agg #[.int .i64 a1_0, .int .i64 a1_1]] w fun e w' => e = .returned (.bool r) ∧ Below w.heap.size w w' := by
  have HTW := Aside0.mk htw
  clear htw
  have hu23 := Tryz.underlying23
  have HB := Aside0.mk (Below.refl w.heap.size w)
  have H : ((descantlaw22_awake.f).bind fun t102 => (if t102 = true then ((segment_Put.f k a0 a1_0 a1_1).bind fun bt103 => ((descantlaw0_Num.f bt103.2).bind fun t105 => (if t105 = 0 then ((descantref13_FormatMay.f a1_0 a1_1).bind fun t106 => (descantlaw22_SegmentBounds.j0 k a0 bt103.1 (!t106) a1_0 a1_1)) else (descantlaw22_SegmentBounds.j0 k a0 bt103.1 true a1_0 a1_1)))) else (some false))) = some r := h
  clear h
  replace H := Option.bind_eq_some_iff.mp H
  obtain ⟨t102, A30, H⟩ := H
  replace H : (if t102 = true then ((segment_Put.f k a0 a1_0 a1_1).bind fun bt103 => ((descantlaw0_Num.f bt103.2).bind fun t105 => (if t105 = 0 then ((descantref13_FormatMay.f a1_0 a1_1).bind fun t106 => (descantlaw22_SegmentBounds.j0 k a0 bt103.1 (!t106) a1_0 a1_1)) else (descantlaw22_SegmentBounds.j0 k a0 bt103.1 true a1_0 a1_1)))) else (some false)) = some r := H
  have A3 := Aside0.mk A30
  clear A30
  by_cases c4 : t102 = true
  · subst c4
    have H1 : ((segment_Put.f k a0 a1_0 a1_1).bind fun bt103 => ((descantlaw0_Num.f bt103.2).bind fun t105 => (if t105 = 0 then ((descantref13_FormatMay.f a1_0 a1_1).bind fun t106 => (descantlaw22_SegmentBounds.j0 k a0 bt103.1 (!t106) a1_0 a1_1)) else (descantlaw22_SegmentBounds.j0 k a0 bt103.1 true a1_0 a1_1)))) = some r := by rw [if_pos rfl] at H; exact H
    clear H
    have H := H1
    clear H1
    replace H := Option.bind_eq_some_iff.mp H
    obtain ⟨⟨t103, t104⟩, A50, H⟩ := H
    replace H : ((descantlaw0_Num.f t104).bind fun t105 => (if t105 = 0 then ((descantref13_FormatMay.f a1_0 a1_1).bind fun t106 => (descantlaw22_SegmentBounds.j0 k a0 t103 (!t106) a1_0 a1_1)) else (descantlaw22_SegmentBounds.j0 k a0 t103 true a1_0 a1_1))) = some r := H
    have A5 := Aside0.mk A50
    clear A50
    have HC6 := Aside0.mk H
    clear H
    go_enter Tryz.func5, Tryz.ntmps5
    go_upto_region 4 with (first | ((with_reducible refine gate_dst (N := 3) rfl ?_); (try (refine gate_guard (by rfl) ?_; dsimp only)); refine box_event ?hg (N := 3) ?hd (cs := #[.int .i64 a1_0, .int .i64 a1_1]) (t := 23) ?hr ?_; (case hd => rfl); (case hg => rfl); (case hr => first | (go_simp; done) | (go_simp; rfl)); intro gb101 hg w7 hbox hb; have n0_ := Aside0.mk (below_step (by repeat (first | (with_reducible first | exact HB.out | apply below_alloc | apply pw_below_drewN | apply below_drew1) | exact HB.out)) hb); have n1_ := Aside0.mk (hbox); have n2_ := Aside0.mk ((by rw [hg]; exact (below_size (by repeat (first | (with_reducible first | exact HB.out | apply below_alloc | apply pw_below_drewN | apply below_drew1) | exact HB.out))) : w.heap.size ≤ gb101)); have n3_ := Aside0.mk ((by rw [hg]; exact (below_size (by repeat (first | (with_reducible first | exact HB.out | apply below_alloc | apply pw_below_drewN | apply below_drew1) | exact HB.out))) : w.heap.size ≤ gb101)); clear HB; have HB := n0_; have BK101 := n1_; have GW101 := n2_; have GE101 := n3_; clear n0_ n1_ n2_ n3_; clear hb hbox hg) | (go_at_call 11; (with_reducible refine (descantlaw22_awake.calls  true _ A3.out (HTW.out.of_ (by repeat (first | (with_reducible first | exact HB.out | apply below_alloc | apply pw_below_drewN | apply below_drew1) | exact HB.out)))).mono ?_); rintro e w8 ⟨rfl, hb⟩; have n0_ := Aside0.mk (blk_below (g := gb101) (o := .cells #[.int .i64 a1_0, .int .i64 a1_1] 23 (0, 0)) (by (with_reducible repeat (first | refine blk_drewN ?_ _ | refine blk_drew ?_ | refine blk_alloc ?_ _)); exact BK101.out) hb); have n1_ := Aside0.mk (below_step (by repeat (first | (with_reducible first | exact HB.out | apply below_alloc | apply pw_below_drewN | apply below_drew1 | refine below_set ?_ GE101.out) | exact HB.out)) hb); clear BK101; clear HB; have BK101 := n0_; have HB := n1_; clear n0_ n1_; (try clear hb); (try clear hb2); (try clear hk); (try clear hi); have hcz9_0 : w8.cell? ⟨gb101, 0, none⟩ = some (.int .i64 a1_0) := (blk_cell BK101.out 0).trans rfl; have hcz9_1 : w8.cell? ⟨gb101, 1, none⟩ = some (.int .i64 a1_1) := (blk_cell BK101.out 1).trans rfl; have hfz9_0 := blk_frozen BK101.out 0; have hfz9_1 := blk_frozen BK101.out 1) | (go_at_call 12; (with_reducible refine (segment_Put.calls k a0 a1_0 a1_1 t103 t104 _ A5.out (HTW.out.of_ (by repeat (first | (with_reducible first | exact HB.out | apply below_alloc | apply pw_below_drewN | apply below_drew1) | exact HB.out)))).mono ?_); rintro e w10 ⟨rfl, hb⟩; have n0_ := Aside0.mk (blk_below (g := gb101) (o := .cells #[.int .i64 a1_0, .int .i64 a1_1] 23 (0, 0)) (by (with_reducible repeat (first | refine blk_drewN ?_ _ | refine blk_drew ?_ | refine blk_alloc ?_ _)); exact BK101.out) hb); have n1_ := Aside0.mk (below_step (by repeat (first | (with_reducible first | exact HB.out | apply below_alloc | apply pw_below_drewN | apply below_drew1 | refine below_set ?_ GE101.out) | exact HB.out)) hb); clear BK101; clear HB; have BK101 := n0_; have HB := n1_; clear n0_ n1_; (try clear hb); (try clear hb2); (try clear hk); (try clear hi)))
    repeat (go_quiet (first | ((with_reducible refine gate_dst (N := 3) rfl ?_); (try (refine gate_guard (by rfl) ?_; dsimp only)); refine box_event ?hg (N := 3) ?hd (cs := #[.int .i64 a1_0, .int .i64 a1_1]) (t := 23) ?hr ?_; (case hd => rfl); (case hg => rfl); (case hr => first | (go_simp; done) | (go_simp; rfl)); intro gb101 hg w7 hbox hb; have n0_ := Aside0.mk (below_step (by repeat (first | (with_reducible first | exact HB.out | apply below_alloc | apply pw_below_drewN | apply below_drew1) | exact HB.out)) hb); have n1_ := Aside0.mk (hbox); have n2_ := Aside0.mk ((by rw [hg]; exact (below_size (by repeat (first | (with_reducible first | exact HB.out | apply below_alloc | apply pw_below_drewN | apply below_drew1) | exact HB.out))) : w.heap.size ≤ gb101)); have n3_ := Aside0.mk ((by rw [hg]; exact (below_size (by repeat (first | (with_reducible first | exact HB.out | apply below_alloc | apply pw_below_drewN | apply below_drew1) | exact HB.out))) : w.heap.size ≤ gb101)); clear HB; have HB := n0_; have BK101 := n1_; have GW101 := n2_; have GE101 := n3_; clear n0_ n1_ n2_ n3_; clear hb hbox hg) | (go_at_call 11; (with_reducible refine (descantlaw22_awake.calls  true _ A3.out (HTW.out.of_ (by repeat (first | (with_reducible first | exact HB.out | apply below_alloc | apply pw_below_drewN | apply below_drew1) | exact HB.out)))).mono ?_); rintro e w8 ⟨rfl, hb⟩; have n0_ := Aside0.mk (blk_below (g := gb101) (o := .cells #[.int .i64 a1_0, .int .i64 a1_1] 23 (0, 0)) (by (with_reducible repeat (first | refine blk_drewN ?_ _ | refine blk_drew ?_ | refine blk_alloc ?_ _)); exact BK101.out) hb); have n1_ := Aside0.mk (below_step (by repeat (first | (with_reducible first | exact HB.out | apply below_alloc | apply pw_below_drewN | apply below_drew1 | refine below_set ?_ GE101.out) | exact HB.out)) hb); clear BK101; clear HB; have BK101 := n0_; have HB := n1_; clear n0_ n1_; (try clear hb); (try clear hb2); (try clear hk); (try clear hi); have hcz9_0 : w8.cell? ⟨gb101, 0, none⟩ = some (.int .i64 a1_0) := (blk_cell BK101.out 0).trans rfl; have hcz9_1 : w8.cell? ⟨gb101, 1, none⟩ = some (.int .i64 a1_1) := (blk_cell BK101.out 1).trans rfl; have hfz9_0 := blk_frozen BK101.out 0; have hfz9_1 := blk_frozen BK101.out 1) | (go_at_call 12; (with_reducible refine (segment_Put.calls k a0 a1_0 a1_1 t103 t104 _ A5.out (HTW.out.of_ (by repeat (first | (with_reducible first | exact HB.out | apply below_alloc | apply pw_below_drewN | apply below_drew1) | exact HB.out)))).mono ?_); rintro e w10 ⟨rfl, hb⟩; have n0_ := Aside0.mk (blk_below (g := gb101) (o := .cells #[.int .i64 a1_0, .int .i64 a1_1] 23 (0, 0)) (by (with_reducible repeat (first | refine blk_drewN ?_ _ | refine blk_drew ?_ | refine blk_alloc ?_ _)); exact BK101.out) hb); have n1_ := Aside0.mk (below_step (by repeat (first | (with_reducible first | exact HB.out | apply below_alloc | apply pw_below_drewN | apply below_drew1 | refine below_set ?_ GE101.out) | exact HB.out)) hb); clear BK101; clear HB; have BK101 := n0_; have HB := n1_; clear n0_ n1_; (try clear hb); (try clear hb2); (try clear hk); (try clear hi))); go_upto_region 4 with (first | ((with_reducible refine gate_dst (N := 3) rfl ?_); (try (refine gate_guard (by rfl) ?_; dsimp only)); refine box_event ?hg (N := 3) ?hd (cs := #[.int .i64 a1_0, .int .i64 a1_1]) (t := 23) ?hr ?_; (case hd => rfl); (case hg => rfl); (case hr => first | (go_simp; done) | (go_simp; rfl)); intro gb101 hg w7 hbox hb; have n0_ := Aside0.mk (below_step (by repeat (first | (with_reducible first | exact HB.out | apply below_alloc | apply pw_below_drewN | apply below_drew1) | exact HB.out)) hb); have n1_ := Aside0.mk (hbox); have n2_ := Aside0.mk ((by rw [hg]; exact (below_size (by repeat (first | (with_reducible first | exact HB.out | apply below_alloc | apply pw_below_drewN | apply below_drew1) | exact HB.out))) : w.heap.size ≤ gb101)); have n3_ := Aside0.mk ((by rw [hg]; exact (below_size (by repeat (first | (with_reducible first | exact HB.out | apply below_alloc | apply pw_below_drewN | apply below_drew1) | exact HB.out))) : w.heap.size ≤ gb101)); clear HB; have HB := n0_; have BK101 := n1_; have GW101 := n2_; have GE101 := n3_; clear n0_ n1_ n2_ n3_; clear hb hbox hg) | (go_at_call 11; (with_reducible refine (descantlaw22_awake.calls  true _ A3.out (HTW.out.of_ (by repeat (first | (with_reducible first | exact HB.out | apply below_alloc | apply pw_below_drewN | apply below_drew1) | exact HB.out)))).mono ?_); rintro e w8 ⟨rfl, hb⟩; have n0_ := Aside0.mk (blk_below (g := gb101) (o := .cells #[.int .i64 a1_0, .int .i64 a1_1] 23 (0, 0)) (by (with_reducible repeat (first | refine blk_drewN ?_ _ | refine blk_drew ?_ | refine blk_alloc ?_ _)); exact BK101.out) hb); have n1_ := Aside0.mk (below_step (by repeat (first | (with_reducible first | exact HB.out | apply below_alloc | apply pw_below_drewN | apply below_drew1 | refine below_set ?_ GE101.out) | exact HB.out)) hb); clear BK101; clear HB; have BK101 := n0_; have HB := n1_; clear n0_ n1_; (try clear hb); (try clear hb2); (try clear hk); (try clear hi); have hcz9_0 : w8.cell? ⟨gb101, 0, none⟩ = some (.int .i64 a1_0) := (blk_cell BK101.out 0).trans rfl; have hcz9_1 : w8.cell? ⟨gb101, 1, none⟩ = some (.int .i64 a1_1) := (blk_cell BK101.out 1).trans rfl; have hfz9_0 := blk_frozen BK101.out 0; have hfz9_1 := blk_frozen BK101.out 1) | (go_at_call 12; (with_reducible refine (segment_Put.calls k a0 a1_0 a1_1 t103 t104 _ A5.out (HTW.out.of_ (by repeat (first | (with_reducible first | exact HB.out | apply below_alloc | apply pw_below_drewN | apply below_drew1) | exact HB.out)))).mono ?_); rintro e w10 ⟨rfl, hb⟩; have n0_ := Aside0.mk (blk_below (g := gb101) (o := .cells #[.int .i64 a1_0, .int .i64 a1_1] 23 (0, 0)) (by (with_reducible repeat (first | refine blk_drewN ?_ _ | refine blk_drew ?_ | refine blk_alloc ?_ _)); exact BK101.out) hb); have n1_ := Aside0.mk (below_step (by repeat (first | (with_reducible first | exact HB.out | apply below_alloc | apply pw_below_drewN | apply below_drew1 | refine below_set ?_ GE101.out) | exact HB.out)) hb); clear BK101; clear HB; have BK101 := n0_; have HB := n1_; clear n0_ n1_; (try clear hb); (try clear hb2); (try clear hk); (try clear hi))))
    (try simp only [Act.put, List.setIfInBounds_toArray, List.set_cons_zero, List.set_cons_succ])
    go_cut [25] (fun v25 wc => ∃ (kq : Nat) (x25_5 : Bool), v25 = .bool x25_5 ∧ Aside0 (descantlaw22_SegmentBounds.j0 kq a0 t103 x25_5 a1_0 a1_1 = some r) ∧ Aside0 (kq ≤ k) ∧ Aside0 (wc.heap[gb101]? = some (.cells #[.int .i64 a1_0, .int .i64 a1_1] 23 (0, 0))) ∧ Aside0 (Below w.heap.size w wc))
    case first =>
      have H := HC6.out
      clear HC6
      replace H := Option.bind_eq_some_iff.mp H
      obtain ⟨t105, A110, H⟩ := H
      replace H : (if t105 = 0 then ((descantref13_FormatMay.f a1_0 a1_1).bind fun t106 => (descantlaw22_SegmentBounds.j0 k a0 t103 (!t106) a1_0 a1_1)) else (descantlaw22_SegmentBounds.j0 k a0 t103 true a1_0 a1_1)) = some r := H
      have A11 := Aside0.mk A110
      clear A110
      by_cases c12 : t105 = 0
      · rw [if_pos c12] at H
        have c12b0 : (t105 == 0) = true := beq_iff_eq.mpr c12
        have c12b1 : (t105 != 0) = false := bne_eq_false_iff_eq.mpr c12
        clear c12
        (first | rw [c12b0] | (simp only [i64_w, i32_w]; rw [c12b0]) | skip)
        replace H := Option.bind_eq_some_iff.mp H
        obtain ⟨t106, A130, H⟩ := H
        replace H : (descantlaw22_SegmentBounds.j0 k a0 t103 (!t106) a1_0 a1_1) = some r := H
        have A13 := Aside0.mk A130
        clear A130
        have H' := Aside0.mk H
        clear H
        go_wp2_with (first | (go_at_call 13; (with_reducible refine (descantlaw0_Num.calls t104 t105 _ A11.out).mono ?_); rintro e w' ⟨rfl, ⟨nd, rfl⟩⟩; (try first | exact ⟨rfl, _, World.drewN_drewN _ _ _⟩ | exact ⟨rfl, _, Eq.trans (World.drewN_drewN _ _ _) (congrArg (World.drewN _) (Nat.add_assoc _ _ _))⟩); have hcz14_0 : w10.cell? ⟨gb101, 0, none⟩ = some (.int .i64 a1_0) := (blk_cell BK101.out 0).trans rfl; have hcz14_1 : w10.cell? ⟨gb101, 1, none⟩ = some (.int .i64 a1_1) := (blk_cell BK101.out 1).trans rfl; have hfz14_0 := blk_frozen BK101.out 0; have hfz14_1 := blk_frozen BK101.out 1) | (go_at_call 17; (with_reducible refine (descantref13_FormatMay.calls a1_0 a1_1 t106 _ A13.out).mono ?_); rintro e w15 ⟨rfl, hb⟩; have n0_ := Aside0.mk (blk_below (g := gb101) (o := .cells #[.int .i64 a1_0, .int .i64 a1_1] 23 (0, 0)) (by (with_reducible repeat (first | refine blk_drewN ?_ _ | refine blk_drew ?_ | refine blk_alloc ?_ _)); exact BK101.out) hb); have n1_ := Aside0.mk (below_step (by repeat (first | (with_reducible first | exact HB.out | apply below_alloc | apply pw_below_drewN | apply below_drew1 | refine below_set ?_ GE101.out) | exact HB.out)) hb); clear BK101; clear HB; have BK101 := n0_; have HB := n1_; clear n0_ n1_; (try clear hb); (try clear hb2); (try clear hk); (try clear hi)))
        repeat (go_quiet (first | (go_at_call 13; (with_reducible refine (descantlaw0_Num.calls t104 t105 _ A11.out).mono ?_); rintro e w' ⟨rfl, ⟨nd, rfl⟩⟩; (try first | exact ⟨rfl, _, World.drewN_drewN _ _ _⟩ | exact ⟨rfl, _, Eq.trans (World.drewN_drewN _ _ _) (congrArg (World.drewN _) (Nat.add_assoc _ _ _))⟩); have hcz14_0 : w10.cell? ⟨gb101, 0, none⟩ = some (.int .i64 a1_0) := (blk_cell BK101.out 0).trans rfl; have hcz14_1 : w10.cell? ⟨gb101, 1, none⟩ = some (.int .i64 a1_1) := (blk_cell BK101.out 1).trans rfl; have hfz14_0 := blk_frozen BK101.out 0; have hfz14_1 := blk_frozen BK101.out 1) | (go_at_call 17; (with_reducible refine (descantref13_FormatMay.calls a1_0 a1_1 t106 _ A13.out).mono ?_); rintro e w15 ⟨rfl, hb⟩; have n0_ := Aside0.mk (blk_below (g := gb101) (o := .cells #[.int .i64 a1_0, .int .i64 a1_1] 23 (0, 0)) (by (with_reducible repeat (first | refine blk_drewN ?_ _ | refine blk_drew ?_ | refine blk_alloc ?_ _)); exact BK101.out) hb); have n1_ := Aside0.mk (below_step (by repeat (first | (with_reducible first | exact HB.out | apply below_alloc | apply pw_below_drewN | apply below_drew1 | refine below_set ?_ GE101.out) | exact HB.out)) hb); clear BK101; clear HB; have BK101 := n0_; have HB := n1_; clear n0_ n1_; (try clear hb); (try clear hb2); (try clear hk); (try clear hi))); try go_wp2_with (first | (go_at_call 13; (with_reducible refine (descantlaw0_Num.calls t104 t105 _ A11.out).mono ?_); rintro e w' ⟨rfl, ⟨nd, rfl⟩⟩; (try first | exact ⟨rfl, _, World.drewN_drewN _ _ _⟩ | exact ⟨rfl, _, Eq.trans (World.drewN_drewN _ _ _) (congrArg (World.drewN _) (Nat.add_assoc _ _ _))⟩); have hcz14_0 : w10.cell? ⟨gb101, 0, none⟩ = some (.int .i64 a1_0) := (blk_cell BK101.out 0).trans rfl; have hcz14_1 : w10.cell? ⟨gb101, 1, none⟩ = some (.int .i64 a1_1) := (blk_cell BK101.out 1).trans rfl; have hfz14_0 := blk_frozen BK101.out 0; have hfz14_1 := blk_frozen BK101.out 1) | (go_at_call 17; (with_reducible refine (descantref13_FormatMay.calls a1_0 a1_1 t106 _ A13.out).mono ?_); rintro e w15 ⟨rfl, hb⟩; have n0_ := Aside0.mk (blk_below (g := gb101) (o := .cells #[.int .i64 a1_0, .int .i64 a1_1] 23 (0, 0)) (by (with_reducible repeat (first | refine blk_drewN ?_ _ | refine blk_drew ?_ | refine blk_alloc ?_ _)); exact BK101.out) hb); have n1_ := Aside0.mk (below_step (by repeat (first | (with_reducible first | exact HB.out | apply below_alloc | apply pw_below_drewN | apply below_drew1 | refine below_set ?_ GE101.out) | exact HB.out)) hb); clear BK101; clear HB; have BK101 := n0_; have HB := n1_; clear n0_ n1_; (try clear hb); (try clear hb2); (try clear hk); (try clear hi))))
        go_meet
        case rel => exact ⟨_, (!t106), (by first | rfl | (simp; done) | (simp [*]; done)), H', ⟨by first | omega | exact Nat.le_refl _⟩, ⟨by (with_reducible repeat (first | refine blk_drewN ?_ _ | refine blk_drew ?_ | refine blk_alloc ?_ _)); exact BK101.out⟩, ⟨by repeat (first | (with_reducible first | exact HB.out | apply below_alloc | apply pw_below_drewN | apply below_drew1 | refine below_set ?_ GE101.out) | exact HB.out)⟩⟩
      · rw [if_neg c12] at H
        have c12b0 : (t105 == 0) = false := beq_eq_false_iff_ne.mpr c12
        have c12b1 : (t105 != 0) = true := bne_iff_ne.mpr c12
        (first | rw [c12b0] | (simp only [i64_w, i32_w]; rw [c12b0]) | skip)
        have H' := Aside0.mk H
        clear H
        go_wp2_with (first | (go_at_call 13; (with_reducible refine (descantlaw0_Num.calls t104 t105 _ A11.out).mono ?_); rintro e w' ⟨rfl, ⟨nd, rfl⟩⟩; (try first | exact ⟨rfl, _, World.drewN_drewN _ _ _⟩ | exact ⟨rfl, _, Eq.trans (World.drewN_drewN _ _ _) (congrArg (World.drewN _) (Nat.add_assoc _ _ _))⟩)))
        repeat (go_quiet (first | (go_at_call 13; (with_reducible refine (descantlaw0_Num.calls t104 t105 _ A11.out).mono ?_); rintro e w' ⟨rfl, ⟨nd, rfl⟩⟩; (try first | exact ⟨rfl, _, World.drewN_drewN _ _ _⟩ | exact ⟨rfl, _, Eq.trans (World.drewN_drewN _ _ _) (congrArg (World.drewN _) (Nat.add_assoc _ _ _))⟩))); try go_wp2_with (first | (go_at_call 13; (with_reducible refine (descantlaw0_Num.calls t104 t105 _ A11.out).mono ?_); rintro e w' ⟨rfl, ⟨nd, rfl⟩⟩; (try first | exact ⟨rfl, _, World.drewN_drewN _ _ _⟩ | exact ⟨rfl, _, Eq.trans (World.drewN_drewN _ _ _) (congrArg (World.drewN _) (Nat.add_assoc _ _ _))⟩))))
        go_meet
        case rel => exact ⟨_, (true), (by first | rfl | (simp; done) | (simp [*]; done)), H', ⟨by first | omega | exact Nat.le_refl _⟩, ⟨by (with_reducible repeat (first | refine blk_drewN ?_ _ | refine blk_drew ?_ | refine blk_alloc ?_ _)); exact BK101.out⟩, ⟨by repeat (first | (with_reducible first | exact HB.out | apply below_alloc | apply pw_below_drewN | apply below_drew1 | refine below_set ?_ GE101.out) | exact HB.out)⟩⟩
    case rest =>
      clear HC6
      try clear c1
      try clear p2
      try clear c4
      try clear c5
      try clear c12
      try clear c12b0
      try clear c12b1
      try clear hcz14_0
      try clear hcz14_1
      try clear hcz9_0
      try clear hcz9_1
      try clear hfz14_0
      try clear hfz14_1
      try clear hfz9_0
      try clear hfz9_1
      obtain ⟨kq, x25_5, rfl, HA, HJ5, BK101, HB⟩ := hcut
      cases kq with
      | zero => exact absurd HA.out (by simp [descantlaw22_SegmentBounds.j0])
      | succ kj5 =>
        have H := HA.out
        clear HA
        simp only [descantlaw22_SegmentBounds.j0] at H
        by_cases c16 : x25_5 = true
        · subst c16
          have H1 : (some (t103.toList == ([] : List UInt8))) = some r := by rw [if_pos rfl] at H; exact H
          clear H
          have H := H1
          clear H1
          obtain rfl := Option.some.inj H
          go_wp2
          repeat (go_quiet (fail); try go_wp2)
          go_ret
          exact ⟨by first | rfl | (simp [errW_none, errW_some] <;> rfl) | (simp [*, errW_none, errW_some] <;> rfl), by repeat (first | (with_reducible first | exact HB.out | apply below_alloc | apply pw_below_drewN | apply below_drew1 | refine below_set ?_ GE101.out) | exact HB.out)⟩
        · replace c16 := Bool.eq_false_iff.mpr c16
          subst c16
          have H1 : (descantlaw22_SegmentBounds.l0 kj5 a0 t103 (wrap64 (Int.tdiv (wrap64 (a1_0 * a1_1)) 8)) true (wrap64 (Int.tdiv (wrap64 (a1_0 * a1_1)) 8))) = some r := by rw [if_neg (show ¬ (false = true) by decide)] at H; exact H
          clear H
          have H := H1
          clear H1
          have H' := Aside0.mk H
          clear H
          have hcz17_0 : wc.cell? ⟨gb101, 0, none⟩ = some (.int .i64 a1_0) := (blk_cell BK101.out 0).trans rfl
          have hcz17_1 : wc.cell? ⟨gb101, 1, none⟩ = some (.int .i64 a1_1) := (blk_cell BK101.out 1).trans rfl
          have hfz17_0 := blk_frozen BK101.out 0
          have hfz17_1 := blk_frozen BK101.out 1
          go_wp2
          repeat (go_quiet (fail); try go_wp2)
          go_loopg [8, 9] kj5 (fun kq v8 v9 w' => ∃ (x8_2 : Bool) (x9_2 : Int), v8 = .bool x8_2 ∧ v9 = .int .i64 x9_2 ∧ Aside0 (descantlaw22_SegmentBounds.l0 kq a0 t103 (wrap64 (Int.tdiv (wrap64 (a1_0 * a1_1)) 8)) x8_2 x9_2 = some r) ∧ Aside0 (kq ≤ kj5) ∧ Aside0 (w'.heap[gb101]? = some (.cells #[.int .i64 a1_0, .int .i64 a1_1] 23 (0, 0))) ∧ Aside0 (Below w.heap.size w w'))
          case atStart => exact ⟨(true), (wrap64 (Int.tdiv (wrap64 (a1_0 * a1_1)) 8)), (by first | rfl | (simp; done) | (simp [*]; done)), (by first | rfl | (simp; done) | (simp [*]; done)), H', ⟨Nat.le_refl _⟩, ⟨by (with_reducible repeat (first | refine blk_drewN ?_ _ | refine blk_drew ?_ | refine blk_alloc ?_ _)); exact BK101.out⟩, ⟨by repeat (first | (with_reducible first | exact HB.out | apply below_alloc | apply pw_below_drewN | apply below_drew1 | refine below_set ?_ GE101.out) | exact HB.out)⟩⟩
          case round =>
            clear H'
            try clear c1
            try clear p2
            try clear c4
            try clear c5
            try clear p6
            try clear c12
            try clear c12b0
            try clear c12b1
            try clear c16
            try clear hcz14_0
            try clear hcz14_1
            try clear hcz17_0
            try clear hcz17_1
            try clear hcz9_0
            try clear hcz9_1
            try clear hfz14_0
            try clear hfz14_1
            try clear hfz17_0
            try clear hfz17_1
            try clear hfz9_0
            try clear hfz9_1
            try clear p2
            obtain ⟨x8_2, x9_2, rfl, rfl, HA, HK2, BK101, HB⟩ := hrel
            cases gk with
            | zero => exact absurd HA.out (by simp [descantlaw22_SegmentBounds.l0])
            | succ k2 =>
              have H := HA.out
              clear HA
              simp only [descantlaw22_SegmentBounds.l0] at H
              by_cases c18 : x9_2 < (a0.size : Int)
              · rw [if_pos c18] at H
                have c18b0 : decide (x9_2 < (a0.size : Int)) = true := decide_eq_true c18
                clear c18
                by_cases c19 : x8_2 = true
                · subst c19
                  have H1 : (if 0 ≤ x9_2 then (if 0 ≤ (wrap64 (x9_2 - (wrap64 (Int.tdiv (wrap64 (a1_0 * a1_1)) 8)))) then (if (wrap64 (x9_2 - (wrap64 (Int.tdiv (wrap64 (a1_0 * a1_1)) 8)))) < (a0.size : Int) then (descantlaw22_SegmentBounds.l0 k2 a0 t103 (wrap64 (Int.tdiv (wrap64 (a1_0 * a1_1)) 8)) ((bt a0 x9_2) == (bt a0 (wrap64 (x9_2 - (wrap64 (Int.tdiv (wrap64 (a1_0 * a1_1)) 8)))))) (wrap64 (x9_2 + 1))) else (none)) else (none)) else (none)) = some r := by rw [if_pos rfl] at H; exact H
                  clear H
                  have H := H1
                  clear H1
                  by_cases c20 : 0 ≤ x9_2
                  · rw [if_pos c20] at H
                    have c20b0 : decide (0 ≤ x9_2) = true := decide_eq_true c20
                    clear c20
                    obtain ⟨ji22, hji22⟩ : ∃ j_ : Int, (wrap64 (x9_2 - (wrap64 (Int.tdiv (wrap64 (a1_0 * a1_1)) 8)))) = j_ := ⟨_, rfl⟩
                    replace H : (if 0 ≤ (ji22) then (if (ji22) < (a0.size : Int) then (descantlaw22_SegmentBounds.l0 k2 a0 t103 (wrap64 (Int.tdiv (wrap64 (a1_0 * a1_1)) 8)) ((bt a0 x9_2) == (bt a0 (ji22))) (wrap64 (x9_2 + 1))) else (none)) else (none)) = some r := by first | (rw [hji22] at H; exact H) | (simp only [hji22] at H ⊢; exact H)
                    have hji22w : (IntKind.i64.wrap (x9_2 - (wrap64 (Int.tdiv (wrap64 (a1_0 * a1_1)) 8)))) = ji22 := (i64_w _).trans hji22
                    by_cases c23 : 0 ≤ (ji22)
                    · rw [if_pos c23] at H
                      have c23b0 : decide (0 ≤ (ji22)) = true := decide_eq_true c23
                      clear c23
                      by_cases c24 : (ji22) < (a0.size : Int)
                      · rw [if_pos c24] at H
                        have c24b0 : decide ((ji22) < (a0.size : Int)) = true := decide_eq_true c24
                        clear c24
                        have H' := Aside0.mk H
                        clear H
                        have p21 : 0 ≤ (x9_2 : Int) := of_decide_eq_true (by first | (with_reducible assumption) | assumption)
                        have q21 : x9_2 < (a0.size : Int) := of_decide_eq_true (by first | (with_reducible assumption) | assumption)
                        have hx21 := bt_at a0 x9_2
                        replace p21 := eq_true p21
                        replace q21 := eq_true q21
                        have p25 : 0 ≤ ((ji22) : Int) := of_decide_eq_true (by first | (with_reducible assumption) | assumption)
                        have q25 : (ji22) < (a0.size : Int) := of_decide_eq_true (by first | (with_reducible assumption) | assumption)
                        have hx25 := bt_at a0 (ji22)
                        replace p25 := eq_true p25
                        replace q25 := eq_true q25
                        go_wp2
                        repeat (go_quiet (fail); try go_wp2)
                        go_roundg k2
                        case measure => have := HJ5.out; have := HK2.out; omega
                        case rel => exact ⟨(((bt a0 x9_2) == (bt a0 (ji22)))), (wrap64 (x9_2 + 1)), (by first | rfl | (simp; done) | (simp only [← hji22] <;> (first | rfl | simp)) | (simp [*]; done)), (by first | rfl | (simp; done) | (simp [*]; done)), H', ⟨by have := HJ5.out; have := HK2.out; omega⟩, ⟨by (with_reducible repeat (first | refine blk_drewN ?_ _ | refine blk_drew ?_ | refine blk_alloc ?_ _)); exact BK101.out⟩, ⟨by repeat (first | (with_reducible first | exact HB.out | apply below_alloc | apply pw_below_drewN | apply below_drew1 | refine below_set ?_ GE101.out) | exact HB.out)⟩⟩
                      · rw [if_neg c24] at H
                        exact absurd H (by simp)
                    · rw [if_neg c23] at H
                      exact absurd H (by simp)
                  · rw [if_neg c20] at H
                    exact absurd H (by simp)
                · replace c19 := Bool.eq_false_iff.mpr c19
                  subst c19
                  have H1 : (descantlaw22_SegmentBounds.l0 k2 a0 t103 (wrap64 (Int.tdiv (wrap64 (a1_0 * a1_1)) 8)) false (wrap64 (x9_2 + 1))) = some r := by rw [if_neg (show ¬ (false = true) by decide)] at H; exact H
                  clear H
                  have H := H1
                  clear H1
                  have H' := Aside0.mk H
                  clear H
                  go_wp2
                  repeat (go_quiet (fail); try go_wp2)
                  go_roundg k2
                  case measure => have := HJ5.out; have := HK2.out; omega
                  case rel => exact ⟨(false), (wrap64 (x9_2 + 1)), (by first | rfl | (simp; done) | (simp [*]; done)), (by first | rfl | (simp; done) | (simp [*]; done)), H', ⟨by have := HJ5.out; have := HK2.out; omega⟩, ⟨by (with_reducible repeat (first | refine blk_drewN ?_ _ | refine blk_drew ?_ | refine blk_alloc ?_ _)); exact BK101.out⟩, ⟨by repeat (first | (with_reducible first | exact HB.out | apply below_alloc | apply pw_below_drewN | apply below_drew1 | refine below_set ?_ GE101.out) | exact HB.out)⟩⟩
              · rw [if_neg c18] at H
                have c18b0 : decide (x9_2 < (a0.size : Int)) = false := decide_eq_false c18
                clear c18
                by_cases c26 : (t103.size : Int) ≥ 9
                · rw [if_pos c26] at H
                  have c26b0 : decide (9 ≤ (t103.size : Int)) = true := decide_eq_true c26
                  have c26b1 : decide (9 ≤ t103.size) = true := decide_eq_true (by omega)
                  clear c26
                  by_cases c27 : (t103.size : Int) ≤ (wrap64 ((a0.size : Int) + 9))
                  · rw [if_pos c27] at H
                    have c27b0 : decide ((t103.size : Int) ≤ (wrap64 ((a0.size : Int) + 9))) = true := decide_eq_true c27
                    clear c27
                    by_cases c28 : x8_2 = true
                    · subst c28
                      have H1 : (if (t103.size : Int) = (wrap64 (9 + (wrap64 (Int.tdiv (wrap64 (a1_0 * a1_1)) 8)))) then (if 0 < (t103.size : Int) then (some ((bt t103 0) == 2)) else (none)) else (some false)) = some r := by rw [if_pos rfl] at H; exact H
                      clear H
                      have H := H1
                      clear H1
                      by_cases c29 : (t103.size : Int) = (wrap64 (9 + (wrap64 (Int.tdiv (wrap64 (a1_0 * a1_1)) 8))))
                      · rw [if_pos c29] at H
                        have c29b0 : ((t103.size : Int) == (wrap64 (9 + (wrap64 (Int.tdiv (wrap64 (a1_0 * a1_1)) 8))))) = true := beq_iff_eq.mpr c29
                        have c29b1 : ((t103.size : Int) != (wrap64 (9 + (wrap64 (Int.tdiv (wrap64 (a1_0 * a1_1)) 8))))) = false := bne_eq_false_iff_eq.mpr c29
                        clear c29
                        by_cases c30 : 0 < (t103.size : Int)
                        · rw [if_pos c30] at H
                          have c30b0 : decide (0 < (t103.size : Int)) = true := decide_eq_true c30
                          have c30b1 : decide (0 < t103.size) = true := decide_eq_true (by omega)
                          clear c30
                          obtain rfl := Option.some.inj H
                          have p31 : 0 ≤ (0 : Int) := (by omega)
                          have q31 : 0 < t103.size := (by have : (0 : Int) < (t103.size : Int) := of_decide_eq_true (by first | (with_reducible assumption) | assumption); omega)
                          have hx31 : ∀ h : 0 < t103.size, ((t103[0]'h).toNat : Int) = bt t103 0 := bt_at t103 0
                          clear p31
                          have qi31 : (0 < (t103.size : Int)) = True := eq_true (of_decide_eq_true (by first | (with_reducible assumption) | assumption))
                          replace q31 := eq_true q31
                          go_wp2
                          repeat (go_quiet (fail); try go_wp2)
                          go_ret
                          exact ⟨by first | rfl | (simp [errW_none, errW_some] <;> rfl) | (simp [*, errW_none, errW_some] <;> rfl), by repeat (first | (with_reducible first | exact HB.out | apply below_alloc | apply pw_below_drewN | apply below_drew1 | refine below_set ?_ GE101.out) | exact HB.out)⟩
                        · rw [if_neg c30] at H
                          exact absurd H (by simp)
                      · rw [if_neg c29] at H
                        have c29b0 : ((t103.size : Int) == (wrap64 (9 + (wrap64 (Int.tdiv (wrap64 (a1_0 * a1_1)) 8))))) = false := beq_eq_false_iff_ne.mpr c29
                        have c29b1 : ((t103.size : Int) != (wrap64 (9 + (wrap64 (Int.tdiv (wrap64 (a1_0 * a1_1)) 8))))) = true := bne_iff_ne.mpr c29
                        obtain rfl := Option.some.inj H
                        go_wp2
                        repeat (go_quiet (fail); try go_wp2)
                        go_ret
                        exact ⟨by first | rfl | (simp [errW_none, errW_some] <;> rfl) | (simp [*, errW_none, errW_some] <;> rfl), by repeat (first | (with_reducible first | exact HB.out | apply below_alloc | apply pw_below_drewN | apply below_drew1 | refine below_set ?_ GE101.out) | exact HB.out)⟩
                    · replace c28 := Bool.eq_false_iff.mpr c28
                      subst c28
                      have H1 : (some true) = some r := by rw [if_neg (show ¬ (false = true) by decide)] at H; exact H
                      clear H
                      have H := H1
                      clear H1
                      obtain rfl := Option.some.inj H
                      go_wp2
                      repeat (go_quiet (fail); try go_wp2)
                      go_ret
                      exact ⟨by first | rfl | (simp [errW_none, errW_some] <;> rfl) | (simp [*, errW_none, errW_some] <;> rfl), by repeat (first | (with_reducible first | exact HB.out | apply below_alloc | apply pw_below_drewN | apply below_drew1 | refine below_set ?_ GE101.out) | exact HB.out)⟩
                  · rw [if_neg c27] at H
                    have c27b0 : decide ((t103.size : Int) ≤ (wrap64 ((a0.size : Int) + 9))) = false := decide_eq_false c27
                    clear c27
                    obtain rfl := Option.some.inj H
                    go_wp2
                    repeat (go_quiet (fail); try go_wp2)
                    go_ret
                    exact ⟨by first | rfl | (simp [errW_none, errW_some] <;> rfl) | (simp [*, errW_none, errW_some] <;> rfl), by repeat (first | (with_reducible first | exact HB.out | apply below_alloc | apply pw_below_drewN | apply below_drew1 | refine below_set ?_ GE101.out) | exact HB.out)⟩
                · rw [if_neg c26] at H
                  have c26b0 : decide (9 ≤ (t103.size : Int)) = false := decide_eq_false c26
                  have c26b1 : decide (9 ≤ t103.size) = false := decide_eq_false (by omega)
                  clear c26
                  obtain rfl := Option.some.inj H
                  go_wp2
                  repeat (go_quiet (fail); try go_wp2)
                  go_ret
                  exact ⟨by first | rfl | (simp [errW_none, errW_some] <;> rfl) | (simp [*, errW_none, errW_some] <;> rfl), by repeat (first | (with_reducible first | exact HB.out | apply below_alloc | apply pw_below_drewN | apply below_drew1 | refine below_set ?_ GE101.out) | exact HB.out)⟩
  · replace c4 := Bool.eq_false_iff.mpr c4
    subst c4
    have H1 : (some false) = some r := by rw [if_neg (show ¬ (false = true) by decide)] at H; exact H
    clear H
    have H := H1
    clear H1
    obtain rfl := Option.some.inj H
    go_enter Tryz.func5, Tryz.ntmps5
    go_wp2_with (first | ((with_reducible refine gate_dst (N := 3) rfl ?_); (try (refine gate_guard (by rfl) ?_; dsimp only)); refine box_event ?hg (N := 3) ?hd (cs := #[.int .i64 a1_0, .int .i64 a1_1]) (t := 23) ?hr ?_; (case hd => rfl); (case hg => rfl); (case hr => first | (go_simp; done) | (go_simp; rfl)); intro gb101 hg w32 hbox hb; have n0_ := Aside0.mk (below_step (by repeat (first | (with_reducible first | exact HB.out | apply below_alloc | apply pw_below_drewN | apply below_drew1) | exact HB.out)) hb); have n1_ := Aside0.mk (hbox); have n2_ := Aside0.mk ((by rw [hg]; exact (below_size (by repeat (first | (with_reducible first | exact HB.out | apply below_alloc | apply pw_below_drewN | apply below_drew1) | exact HB.out))) : w.heap.size ≤ gb101)); have n3_ := Aside0.mk ((by rw [hg]; exact (below_size (by repeat (first | (with_reducible first | exact HB.out | apply below_alloc | apply pw_below_drewN | apply below_drew1) | exact HB.out))) : w.heap.size ≤ gb101)); clear HB; have HB := n0_; have BK101 := n1_; have GW101 := n2_; have GE101 := n3_; clear n0_ n1_ n2_ n3_; clear hb hbox hg) | (go_at_call 11; (with_reducible refine (descantlaw22_awake.calls  false _ A3.out (HTW.out.of_ (by repeat (first | (with_reducible first | exact HB.out | apply below_alloc | apply pw_below_drewN | apply below_drew1) | exact HB.out)))).mono ?_); rintro e w33 ⟨rfl, hb⟩; have n0_ := Aside0.mk (blk_below (g := gb101) (o := .cells #[.int .i64 a1_0, .int .i64 a1_1] 23 (0, 0)) (by (with_reducible repeat (first | refine blk_drewN ?_ _ | refine blk_drew ?_ | refine blk_alloc ?_ _)); exact BK101.out) hb); have n1_ := Aside0.mk (below_step (by repeat (first | (with_reducible first | exact HB.out | apply below_alloc | apply pw_below_drewN | apply below_drew1 | refine below_set ?_ GE101.out) | exact HB.out)) hb); clear BK101; clear HB; have BK101 := n0_; have HB := n1_; clear n0_ n1_; (try clear hb); (try clear hb2); (try clear hk); (try clear hi)))
    repeat (go_quiet (first | ((with_reducible refine gate_dst (N := 3) rfl ?_); (try (refine gate_guard (by rfl) ?_; dsimp only)); refine box_event ?hg (N := 3) ?hd (cs := #[.int .i64 a1_0, .int .i64 a1_1]) (t := 23) ?hr ?_; (case hd => rfl); (case hg => rfl); (case hr => first | (go_simp; done) | (go_simp; rfl)); intro gb101 hg w32 hbox hb; have n0_ := Aside0.mk (below_step (by repeat (first | (with_reducible first | exact HB.out | apply below_alloc | apply pw_below_drewN | apply below_drew1) | exact HB.out)) hb); have n1_ := Aside0.mk (hbox); have n2_ := Aside0.mk ((by rw [hg]; exact (below_size (by repeat (first | (with_reducible first | exact HB.out | apply below_alloc | apply pw_below_drewN | apply below_drew1) | exact HB.out))) : w.heap.size ≤ gb101)); have n3_ := Aside0.mk ((by rw [hg]; exact (below_size (by repeat (first | (with_reducible first | exact HB.out | apply below_alloc | apply pw_below_drewN | apply below_drew1) | exact HB.out))) : w.heap.size ≤ gb101)); clear HB; have HB := n0_; have BK101 := n1_; have GW101 := n2_; have GE101 := n3_; clear n0_ n1_ n2_ n3_; clear hb hbox hg) | (go_at_call 11; (with_reducible refine (descantlaw22_awake.calls  false _ A3.out (HTW.out.of_ (by repeat (first | (with_reducible first | exact HB.out | apply below_alloc | apply pw_below_drewN | apply below_drew1) | exact HB.out)))).mono ?_); rintro e w33 ⟨rfl, hb⟩; have n0_ := Aside0.mk (blk_below (g := gb101) (o := .cells #[.int .i64 a1_0, .int .i64 a1_1] 23 (0, 0)) (by (with_reducible repeat (first | refine blk_drewN ?_ _ | refine blk_drew ?_ | refine blk_alloc ?_ _)); exact BK101.out) hb); have n1_ := Aside0.mk (below_step (by repeat (first | (with_reducible first | exact HB.out | apply below_alloc | apply pw_below_drewN | apply below_drew1 | refine below_set ?_ GE101.out) | exact HB.out)) hb); clear BK101; clear HB; have BK101 := n0_; have HB := n1_; clear n0_ n1_; (try clear hb); (try clear hb2); (try clear hk); (try clear hi))); try go_wp2_with (first | ((with_reducible refine gate_dst (N := 3) rfl ?_); (try (refine gate_guard (by rfl) ?_; dsimp only)); refine box_event ?hg (N := 3) ?hd (cs := #[.int .i64 a1_0, .int .i64 a1_1]) (t := 23) ?hr ?_; (case hd => rfl); (case hg => rfl); (case hr => first | (go_simp; done) | (go_simp; rfl)); intro gb101 hg w32 hbox hb; have n0_ := Aside0.mk (below_step (by repeat (first | (with_reducible first | exact HB.out | apply below_alloc | apply pw_below_drewN | apply below_drew1) | exact HB.out)) hb); have n1_ := Aside0.mk (hbox); have n2_ := Aside0.mk ((by rw [hg]; exact (below_size (by repeat (first | (with_reducible first | exact HB.out | apply below_alloc | apply pw_below_drewN | apply below_drew1) | exact HB.out))) : w.heap.size ≤ gb101)); have n3_ := Aside0.mk ((by rw [hg]; exact (below_size (by repeat (first | (with_reducible first | exact HB.out | apply below_alloc | apply pw_below_drewN | apply below_drew1) | exact HB.out))) : w.heap.size ≤ gb101)); clear HB; have HB := n0_; have BK101 := n1_; have GW101 := n2_; have GE101 := n3_; clear n0_ n1_ n2_ n3_; clear hb hbox hg) | (go_at_call 11; (with_reducible refine (descantlaw22_awake.calls  false _ A3.out (HTW.out.of_ (by repeat (first | (with_reducible first | exact HB.out | apply below_alloc | apply pw_below_drewN | apply below_drew1) | exact HB.out)))).mono ?_); rintro e w33 ⟨rfl, hb⟩; have n0_ := Aside0.mk (blk_below (g := gb101) (o := .cells #[.int .i64 a1_0, .int .i64 a1_1] 23 (0, 0)) (by (with_reducible repeat (first | refine blk_drewN ?_ _ | refine blk_drew ?_ | refine blk_alloc ?_ _)); exact BK101.out) hb); have n1_ := Aside0.mk (below_step (by repeat (first | (with_reducible first | exact HB.out | apply below_alloc | apply pw_below_drewN | apply below_drew1 | refine below_set ?_ GE101.out) | exact HB.out)) hb); clear BK101; clear HB; have BK101 := n0_; have HB := n1_; clear n0_ n1_; (try clear hb); (try clear hb2); (try clear hk); (try clear hi))))
    go_ret
    exact ⟨by first | rfl | (simp [errW_none, errW_some] <;> rfl) | (simp [*, errW_none, errW_some] <;> rfl), by repeat (first | (with_reducible first | exact HB.out | apply below_alloc | apply pw_below_drewN | apply below_drew1 | refine below_set ?_ GE101.out) | exact HB.out)⟩

end Go.Proofs.YtbapmfghipcebaaGreatDoor.LB
end
section
/- The plain law of SegmentBounds. -/
set_option linter.unusedVariables false
set_option linter.unusedSimpArgs false
namespace Go.Proofs.YtbapmfghipcebaaGreatDoor.S
open Go Go.RowKit Go.Proofs Go.Proofs.YtbapmfghipcebaaGreatDoorW.PrintWords Go.Proofs.YtbapmfghipcebaaGreatDoorW.PrintLast Go.Proofs.YtbapmfghipcebaaGreatDoorW.PrintMore
open Dsc (bs samp1 samp2 samplesOf samples16 chans evens odds Fmt Frm fsize byteN low)

theorem fmay_f (c b : Int) : descantref13_FormatMay.f c b = some (decide ((c = 1 ∨ c = 2) ∧ (b = 8 ∨ b = 16))) := by
  unfold descantref13_FormatMay.f descantref13_upTo.f
  repeat' split
  all_goals first
    | (rw [Option.bind_some]; split <;> (try split) <;> (congr 1; rw [Bool.eq_iff_iff]; simp_all; try omega))
    | (congr 1; rw [Bool.eq_iff_iff]; simp_all; try omega)
/-- Every byte is the one a frame ahead. -/
def Same (l : List UInt8) (f : Nat) : Prop := ∀ i, f ≤ i → i < l.length → l.getD i 0 = l.getD (i - f) 0
theorem getD_drop' (l : List UInt8) (f i : Nat) : (l.drop f).getD i 0 = l.getD (f + i) 0 := by
  rw [List.getD_eq_getElem?_getD, List.getD_eq_getElem?_getD, List.getElem?_drop]
theorem same_take {l : List UInt8} {f : Nat} (h : Same l f) (hl : 2 * f ≤ l.length) : (l.drop f).take f = l.take f := by
  apply List.ext_getElem
  · rw [List.length_take, List.length_take, List.length_drop]; omega
  · intro i h1 h2
    rw [List.length_take] at h2
    have := h (f + i) (by omega) (by omega)
    rw [show f + i - f = i by omega, List.getD_eq_getElem?_getD, List.getD_eq_getElem?_getD, List.getElem?_eq_getElem (by omega), List.getElem?_eq_getElem (by omega)] at this
    rw [List.getElem_take, List.getElem_take, List.getElem_drop]
    exact this
theorem same_const (f : Nat) (hf : 0 < f) : ∀ (n : Nat) (l : List UInt8), l.length = n * f → Same l f → l = (List.replicate n (l.take f)).flatten
  | 0, l, hl, _ => by
    have : l = [] := List.eq_nil_of_length_eq_zero (by omega)
    rw [this]; rfl
  | n + 1, l, hl, h => by
    have hl' : (l.drop f).length = n * f := by rw [List.length_drop, hl, Nat.add_mul]; omega
    have h' : Same (l.drop f) f := fun i h1 h2 => by
      rw [getD_drop', getD_drop', h (f + i) (by omega) (by rw [hl'] at h2; rw [hl, Nat.add_mul]; omega)]
      congr 1; omega
    have ih := same_const f hf n (l.drop f) hl' h'
    rw [List.replicate_succ, List.flatten_cons]
    conv => lhs; rw [← List.take_append_drop f l]
    congr 1
    rcases Nat.eq_zero_or_pos n with rfl | hn
    · rw [ih]; rfl
    · have h2 : 2 * f ≤ l.length := by rw [hl, Nat.add_mul]; have := Nat.mul_le_mul_right f hn; omega
      rw [same_take h h2] at ih
      exact ih
theorem same_isConst {l : List UInt8} {c b : Nat} (h : Frm l c b) (hs : Same l (fsize c b)) : Dsc.isConst l (fsize c b) = true := by
  have hf := h.fmt.fs
  have hm := Nat.div_add_mod l.length (fsize c b)
  rw [h.whole, Nat.add_zero] at hm
  unfold Dsc.isConst
  rw [beq_iff_eq]
  exact same_const _ (by omega) _ l (by rw [Nat.mul_comm]; exact hm.symm) hs
theorem putSeg_len {l : List UInt8} {c b : Nat} (h : Frm l c b) : (Dsc.putSeg l c b).length = 9 + (Dsc.kindOf l c b).2.2.length := Dsc.told_length _ _ _ _
theorem const_seg {l : List UInt8} {c b : Nat} (h : Frm l c b) (hc : Dsc.isConst l (fsize c b) = true) : (Dsc.putSeg l c b).length = 9 + fsize c b ∧ (Dsc.putSeg l c b).getD 0 0 = 2 := by
  have hf := h.fmt.fs
  have hm := Nat.div_add_mod l.length (fsize c b)
  rw [h.whole, Nat.add_zero] at hm
  have hge : fsize c b ≤ l.length := by
    rcases Nat.lt_or_ge l.length (fsize c b) with hlt | hge
    · rw [Nat.div_eq_of_lt hlt] at hm; have := h.ne; omega
    · exact hge
  have hk : Dsc.kindOf l c b = (2, 0, l.take (fsize c b)) := by unfold Dsc.kindOf; rw [if_pos hc]
  refine ⟨?_, ?_⟩
  · rw [putSeg_len h, hk]
    show 9 + (l.take _).length = _
    rw [List.length_take]; omega
  · unfold Dsc.putSeg
    rw [hk, (told_parts 2 0 _ (l.take (fsize c b)) (by rw [List.length_take]; omega)).1]
    rfl
theorem bt_getD (l : List UInt8) (i : Nat) (h : i < l.length) : bt (bs l) (i : Int) = ((l.getD i 0).toNat : Int) := by
  rw [bt_bs l i h, List.getD_eq_getElem?_getD, List.getElem?_eq_getElem h]; rfl
theorem byte_beq (x y : UInt8) : ((x.toNat : Int) == (y.toNat : Int)) = decide (x = y) := by
  rw [Bool.eq_iff_iff, beq_iff_eq, decide_eq_true_iff]
  constructor
  · intro h; exact UInt8.toNat.inj (by omega)
  · rintro rfl; rfl
/-- What is held of all bytes up to i. -/
theorem bounds_loop {l : List UInt8} {c b : Nat} (h : Frm l c b) : ∀ (d i k : Nat) (q : Bool), l.length - i = d → fsize c b ≤ i → d < k → (q = true → ∀ j, fsize c b ≤ j → j < i → j < l.length → l.getD j 0 = l.getD (j - fsize c b) 0) →
    LB.descantlaw22_SegmentBounds.l0 k (bs l) (bs (Dsc.putSeg l c b)) (fsize c b : Nat) q i = some true := by
  have hf := h.fmt.fs
  have hfew := h.few
  have hlen := putSeg_len h
  obtain ⟨ho, -, -⟩ := kindOf_own h
  intro d
  induction d with
  | zero =>
    intro i k q hd hi hk hq
    obtain ⟨k, rfl⟩ : ∃ m, k = m + 1 := ⟨k - 1, by omega⟩
    rw [LB.descantlaw22_SegmentBounds.l0, bs_size, bs_size, if_neg (by omega), if_pos (by omega), w64 (n := (l.length : Int) + 9) (by omega) (by omega), if_pos (by omega)]
    cases q
    · rw [if_neg (by decide)]
    · have hs : Same l (fsize c b) := fun j h1 h2 => hq rfl j h1 (by omega) h2
      obtain ⟨c1, c2⟩ := const_seg h (same_isConst h hs)
      rw [if_pos rfl, w64 (n := 9 + (fsize c b : Int)) (by omega) (by omega), if_pos (by omega), if_pos (by omega)]
      have := bt_getD (Dsc.putSeg l c b) 0 (by omega)
      rw [show ((0 : Nat) : Int) = 0 from rfl] at this
      rw [this, c2]
      rfl
  | succ d ih =>
    intro i k q hd hi hk hq
    obtain ⟨k, rfl⟩ : ∃ m, k = m + 1 := ⟨k - 1, by omega⟩
    rw [LB.descantlaw22_SegmentBounds.l0, bs_size, if_pos (by omega), w64 (n := (i : Int) + 1) (by omega) (by omega)]
    cases q
    · rw [if_neg (by decide)]
      exact ih (i + 1) k false (by omega) (by omega) (by omega) (fun e => by cases e)
    · have ei : wrap64 ((i : Int) - (fsize c b : Int)) = ((i - fsize c b : Nat) : Int) := by rw [w64 (by omega) (by omega)]; omega
      rw [if_pos rfl, if_pos (by omega), ei, if_pos (by omega), if_pos (by omega), bt_getD l i (by omega), bt_getD l (i - fsize c b) (by omega), byte_beq]
      refine ih (i + 1) k _ (by omega) (by omega) (by omega) (fun e j h1 h2 h3 => ?_)
      rcases Nat.lt_or_ge j i with hlt | hge
      · exact hq rfl j h1 hlt h3
      · obtain rfl : j = i := by omega
        simpa using e
theorem fmt_of {c b : Int} (h : (c = 1 ∨ c = 2) ∧ (b = 8 ∨ b = 16)) : ∃ c' b' : Nat, c = c' ∧ b = b' ∧ Fmt c' b' := ⟨c.toNat, b.toNat, by omega, by omega, ⟨by omega, by omega⟩⟩
theorem Bounds (s : ByteArray) (c b : Int) : ∃ k, LB.descantlaw22_SegmentBounds.f k s c b = some true := by
  refine ⟨30000, ?_⟩
  unfold LB.descantlaw22_SegmentBounds.f descantlaw22_awake.f
  rw [Option.bind_some, if_pos rfl]
  have hno : ∀ r : ByteArray × Int, r = (⟨#[]⟩, 2200) → ((descantlaw0_Num.f r.2).bind fun t105 => if t105 = 0 then ((descantref13_FormatMay.f c b).bind fun t106 => (LB.descantlaw22_SegmentBounds.j0 30000 s r.1 (!t106) c b)) else (LB.descantlaw22_SegmentBounds.j0 30000 s r.1 true c b)) = some true := by
    rintro r rfl
    unfold descantlaw0_Num.f
    rw [Option.bind_some, if_neg (by simp), LB.descantlaw22_SegmentBounds.j0, if_pos rfl]
    congr 1
    show ((⟨#[]⟩ : ByteArray).toList == []) = true
    rw [ByteArray.toList_eq]
    rfl
  by_cases hm : (c = 1 ∨ c = 2) ∧ (b = 8 ∨ b = 16)
  · obtain ⟨c', b', rfl, rfl, hf⟩ := fmt_of hm
    have es : s = bs s.data.toList := (bs_of s).symm
    by_cases h : Frm s.data.toList c' b'
    · rw [es, put_yes h (by omega), Option.bind_some]
      have hff := hf.fs
      unfold descantlaw0_Num.f
      rw [Option.bind_some, if_pos rfl, fmay_f, decide_eq_true hm, Option.bind_some, LB.descantlaw22_SegmentBounds.j0, if_neg (by decide)]
      have hz : wrap64 (Int.tdiv (wrap64 ((c' : Int) * (b' : Int))) 8) = (fsize c' b' : Nat) := by
        obtain ⟨h1, h2⟩ := hf
        rcases h1 with rfl | rfl <;> rcases h2 with rfl | rfl <;> decide +kernel
      rw [hz]
      exact bounds_loop h _ _ _ true rfl (Nat.le_refl _) (by have := h.few; omega) (fun _ j h1 h2 _ => by omega)
    · rw [es, put_no hf h (by omega), Option.bind_some]
      have := hno (⟨#[]⟩, 2200) rfl
      rw [es] at this
      exact this
  · rw [put_bad hm s (by omega), Option.bind_some]
    exact hno _ rfl
theorem bounds_walk (s : ByteArray) (c b : Int) (W : World) (hs : s.size ≤ 140737488351232) (hc : (Lit.int .i64 c).wf = true) (hb : (Lit.int .i64 b).wf = true) (htw : TW W) :
    Calls Tryz.prog 5 #[.string s, .agg #[.int .i64 c, .int .i64 b]] W fun e w' => e = .returned (.bool true) ∧ Below W.heap.size W w' := by
  obtain ⟨k, h⟩ := Bounds s c b
  exact LB.descantlaw22_SegmentBounds.calls k s c b true W h htw
end Go.Proofs.YtbapmfghipcebaaGreatDoor.S
end
