/- Texts of this claim, put together: BackF, AwakeW, BytesW, PureF, UnlikeP, UnlikeW, PureU. -/
import Derived.Test.YtbapmfghipcebaaGreatDoorB3
import Derived.Lib.ConvBytes
section
/- What is put comes back, where it was not coded. -/
set_option linter.unusedVariables false
set_option linter.unusedSimpArgs false
namespace Go.Proofs.YtbapmfghipcebaaGreatDoor.S
open Go Go.RowKit Go.Proofs Go.Proofs.YtbapmfghipcebaaGreatDoorW.PrintWords Go.Proofs.YtbapmfghipcebaaGreatDoorW.PrintLast Go.Proofs.YtbapmfghipcebaaGreatDoorW.PrintMore
open Dsc (bs samp1 samp2 samplesOf samples16 chans evens odds Fmt Frm fsize byteN low)

theorem told_parts (kind by' many : Nat) (own : List UInt8) (ho : own.length < 65536) :
    (Dsc.told kind by' many own).getD 0 0 = byteN kind ∧ (Dsc.told kind by' many own).getD 1 0 = byteN by' ∧ (Dsc.told kind by' many own).getD 2 0 = byteN many ∧ sizeG (Dsc.told kind by' many own) = own.length ∧ sumG (Dsc.told kind by' many own) = true ∧
    ((Dsc.told kind by' many own).take (5 + own.length)).drop 5 = own := by
  have hl := Dsc.told_length kind by' many own
  have hh := Dsc.headOf_length kind by' many own
  have e1 : Dsc.told kind by' many own = byteN kind :: byteN by' :: byteN many :: byteN own.length :: byteN (own.length / 256) :: (own ++ low (Dsc.crcN (Dsc.headOf kind by' many own)) 4) := by
    simp [Dsc.told, Dsc.headOf, low]
  refine ⟨by rw [e1]; rfl, by rw [e1]; rfl, by rw [e1]; rfl, ?_, ?_, ?_⟩
  · unfold sizeG
    rw [e1]
    simp only [List.take_succ_cons, List.drop_succ_cons, List.drop_zero, List.take_zero, unlow, Dsc.byteN_val]
    omega
  · unfold sumG
    have ht : (Dsc.told kind by' many own).take ((Dsc.told kind by' many own).length - 4) = Dsc.headOf kind by' many own := by
      rw [hl, show 9 + own.length - 4 = (Dsc.headOf kind by' many own).length by omega]
      unfold Dsc.told
      rw [List.take_left]
    have hd : (Dsc.told kind by' many own).drop ((Dsc.told kind by' many own).length - 4) = low (Dsc.crcN (Dsc.headOf kind by' many own)) 4 := by
      rw [hl, show 9 + own.length - 4 = (Dsc.headOf kind by' many own).length by omega]
      unfold Dsc.told
      rw [List.drop_left]
    rw [ht, hd, unlow_low 4 _ (Dsc.crcN_lt _)]
    simp
  · rw [e1, show 5 + own.length = own.length + 1 + 1 + 1 + 1 + 1 by omega]
    simp only [List.take_succ_cons, List.drop_succ_cons, List.drop_zero]
    rw [List.take_left]
theorem kindOf_own {l : List UInt8} {c b : Nat} (h : Frm l c b) : (Dsc.kindOf l c b).2.2.length ≤ l.length ∧ (Dsc.kindOf l c b).1 ≤ 2 ∧ (Dsc.kindOf l c b).2.1 ≤ 15 := by
  have hfs := h.fmt.fs
  unfold Dsc.kindOf
  split
  · exact ⟨by show (l.take _).length ≤ _; rw [List.length_take]; omega, by show 2 ≤ 2; omega, by show 0 ≤ 15; omega⟩
  · split
    · rename_i hlt
      exact ⟨Nat.le_of_lt hlt, by show 1 ≤ 2; omega, Dsc.wasteAll_le _⟩
    · exact ⟨Nat.le_refl _, by show 0 ≤ 2; omega, by show 0 ≤ 15; omega⟩
theorem kind_raw {l : List UInt8} {c b : Nat} (h : (Dsc.kindOf l c b).1 = 0) : (Dsc.kindOf l c b).2.2 = l := by
  unfold Dsc.kindOf at h ⊢
  split
  · rename_i hc; rw [if_pos hc] at h; cases h
  · rename_i hc
    rw [if_neg hc] at h
    split
    · rename_i hc2; rw [if_pos hc2] at h; cases h
    · rfl
theorem kind_const {l : List UInt8} {c b : Nat} (h : (Dsc.kindOf l c b).1 = 2) : Dsc.isConst l (fsize c b) = true ∧ (Dsc.kindOf l c b).2.2 = l.take (fsize c b) := by
  unfold Dsc.kindOf at h ⊢
  split
  · rename_i hc; exact ⟨hc, rfl⟩
  · rename_i hc
    rw [if_neg hc] at h
    split at h <;> cases h
/-- What stands in a put segment, seen by Get. -/
theorem get_put {l : List UInt8} {c b : Nat} (h : Frm l c b) {k : Nat} :
    segment_Get.f k (bs (Dsc.putSeg l c b)) c b = (openG k (Dsc.kindOf l c b).1 (bs (Dsc.kindOf l c b).2.2) c b (Dsc.kindOf l c b).2.1 (l.length / fsize c b)).bind fun d => endG k (bs (Dsc.putSeg l c b)) c b d := by
  have hfs := h.fmt.fs
  obtain ⟨h1, h2, h3⟩ := kindOf_own h
  have hfew := h.few
  obtain ⟨-, -, hq⟩ := frm_chs h
  unfold Dsc.putSeg
  generalize Dsc.kindOf l c b = K at *
  obtain ⟨kind, by', own⟩ := K
  simp only at h1 h2 h3 ⊢
  generalize l.length / fsize c b = many at *
  obtain ⟨p0, p1, p2, p3, p4, p5⟩ := told_parts kind by' many own (by omega)
  have hl := Dsc.told_length kind by' many own
  have hf := h.fmt
  have v0 : (byteN kind).toNat = kind := by rw [Dsc.byteN_val]; omega
  have v1 : (byteN by').toNat = by' := by rw [Dsc.byteN_val]; omega
  have v2 : (byteN many).toNat = many := by rw [Dsc.byteN_val]; omega
  unfold segment_Get.f
  rw [if_neg (by have := hf.c; have := hf.b; omega), bs_size, if_neg (by omega), if_neg (by omega), bs_data, p3, if_neg (by omega), p4, if_neg (by simp), p2, v2, if_neg (by omega), p0, p1, v0, v1, bs_extract, p5]
theorem end_back {l : List UInt8} {c b : Nat} (h : Frm l c b) {k : Nat} (hk : 20200 ≤ k) : endG k (bs (Dsc.putSeg l c b)) c b (bs l) = some (bs l, 0) := by
  unfold endG
  rw [put_yes h hk, Option.bind_some]
  simp
theorem get_back {l : List UInt8} {c b : Nat} (h : Frm l c b) (hn : (Dsc.kindOf l c b).1 ≠ 1) {k : Nat} (hk : 20200 ≤ k) : segment_Get.f k (bs (Dsc.putSeg l c b)) c b = some (bs l, 0) := by
  obtain ⟨h1, h2, h3⟩ := kindOf_own h
  have hfs := h.fmt.fs
  have hfew := h.few
  have hne := h.ne
  obtain ⟨-, -, hq⟩ := frm_chs h
  rw [get_put h]
  unfold openG
  rw [if_neg hn]
  by_cases h2' : (Dsc.kindOf l c b).1 = 2
  · obtain ⟨hc, ho⟩ := kind_const h2'
    rw [if_pos h2', ho]
    have hr : strings_Repeat.f (bs (l.take (fsize c b))) ((l.length / fsize c b : Nat) : Int) = some (bs l) := by
      have hs : (bs (l.take (fsize c b))).size ≤ 4 := by rw [bs_size, List.length_take]; omega
      unfold strings_Repeat.f
      have e : l = (List.replicate (l.length / fsize c b) (l.take (fsize c b))).flatten := by unfold Dsc.isConst at hc; simpa using hc
      generalize l.length / fsize c b = q at *
      have hm : (bs (l.take (fsize c b))).size * q ≤ 4 * 64 := Nat.mul_le_mul hs hq
      rw [Int.toNat_natCast, if_pos ⟨by omega, by omega, by omega⟩, bs_data, repeatL_eq, ← e]
      rfl
    rw [hr, Option.bind_some]
    exact end_back h hk
  · rw [if_neg h2', kind_raw (by omega), Option.bind_some]
    exact end_back h hk
end Go.Proofs.YtbapmfghipcebaaGreatDoor.S
end
section
/- The walk of descantlaw22.awake. -/
set_option linter.unusedVariables false
set_option linter.unusedSimpArgs false
namespace Go.Proofs.YtbapmfghipcebaaGreatDoor.S
open Go Go.RowKit Go.Proofs Go.Proofs.YtbapmfghipcebaaGreatDoorW.PrintWords
open Dsc (bs Fmt Frm)

theorem frm5 : Frm [5, 0, 5, 0, 5, 0] 1 16 := ⟨⟨.inl rfl, .inr rfl⟩, by decide, by decide, by decide⟩
theorem frm7 : Frm [5, 0, 255, 127] 1 16 := ⟨⟨.inl rfl, .inr rfl⟩, by decide, by decide, by decide⟩
theorem seg5 : Dsc.putSeg [5, 0, 5, 0, 5, 0] 1 16 = Dsc.told 2 0 3 [5, 0] := by
  have h : Dsc.isConst [5, 0, 5, 0, 5, 0] (Dsc.fsize 1 16) = true := by decide +kernel
  unfold Dsc.putSeg Dsc.kindOf
  rw [if_pos h]
  rfl
theorem kind5 : (Dsc.kindOf [5, 0, 5, 0, 5, 0] 1 16).1 ≠ 1 := by
  have h : Dsc.isConst [5, 0, 5, 0, 5, 0] (Dsc.fsize 1 16) = true := by decide +kernel
  unfold Dsc.kindOf
  rw [if_pos h]
  decide
theorem coded_least (chs : List (List Int)) (h : ∀ r ∈ Dsc.lputs (Dsc.sideP (Dsc.lowsOf (Dsc.wasteAll chs) chs)), -16777216 ≤ r ∧ r ≤ 16777216) : 4 ≤ (Dsc.codedOf chs).length := (Dsc.rput_length h).1
theorem lputs_bd {sides : List (List Int)} {n : Nat} (h : Chs sides n) : ∀ r ∈ Dsc.lputs sides, -16777216 ≤ r ∧ r ≤ 16777216 := by
  intro r hr
  unfold Dsc.lputs at hr
  rw [List.mem_flatMap] at hr
  obtain ⟨xs, hx, hr⟩ := hr
  have := (lput_facts (h.bd xs hx)).2 r hr
  omega
theorem coded_ge {l : List UInt8} {c b : Nat} (h : Frm l c b) : 4 ≤ (Dsc.codedOf (Dsc.chans c (Dsc.samplesOf b l))).length := by
  obtain ⟨h1, h2, h3⟩ := frm_chs h
  refine coded_least _ (lputs_bd (sideP_chs (h1.lows _) ?_))
  intro xs hx x hxx
  obtain ⟨ys, hy, rfl⟩ := List.mem_map.1 hx
  obtain ⟨y, hy2, rfl⟩ := List.mem_map.1 hxx
  exact div_bd (by decide) (h2 ys hy y hy2)
theorem kind7 : (Dsc.kindOf [5, 0, 255, 127] 1 16).1 ≠ 1 := by
  have h : Dsc.isConst [5, 0, 255, 127] (Dsc.fsize 1 16) = false := by decide +kernel
  have h2 := coded_ge frm7
  unfold Dsc.kindOf
  rw [if_neg (by rw [h]; decide), if_neg (by show ¬ _ < 4; omega)]
  decide
theorem seg5_sum : sumG (1 :: (Dsc.told 2 0 3 [5, 0]).drop 1) = false := by decide +kernel
theorem seg5_size : sizeG (1 :: (Dsc.told 2 0 3 [5, 0]).drop 1) = 2 := by decide +kernel
theorem seg5_size1 : sizeG ((Dsc.told 2 0 3 [5, 0]).drop 1) = 1280 := by decide +kernel
theorem awake_get1 (k : Nat) : segment_Get.f k (bs (1 :: (Dsc.told 2 0 3 [5, 0]).drop 1)) ((1 : Nat) : Int) ((16 : Nat) : Int) = some (⟨#[]⟩, 2201) := by
  have hl := Dsc.told_length 2 0 3 [5, 0]
  have hl2 : (1 :: (Dsc.told 2 0 3 [5, 0]).drop 1).length = 11 := by rw [List.length_cons, List.length_drop, hl]; rfl
  unfold segment_Get.f
  rw [if_neg (by omega), bs_size, hl2, if_neg (by omega), if_neg (by omega), bs_data, seg5_size, if_neg (by omega), if_pos seg5_sum]
theorem awake_get2 (k : Nat) : segment_Get.f k (bs ((Dsc.told 2 0 3 [5, 0]).drop 1)) ((1 : Nat) : Int) ((16 : Nat) : Int) = some (⟨#[]⟩, 2200) := by
  have hl := Dsc.told_length 2 0 3 [5, 0]
  have hl2 : ((Dsc.told 2 0 3 [5, 0]).drop 1).length = 10 := by rw [List.length_drop, hl]; rfl
  unfold segment_Get.f
  rw [if_neg (by omega), bs_size, hl2, if_neg (by omega), if_neg (by omega), bs_data, seg5_size1, if_pos (by omega)]
def fmtV : Value := .agg #[.int .i64 1, .int .i64 16]
set_option maxRecDepth 100000 in
set_option maxHeartbeats 2000000 in
theorem awake_any (w : World) (htw : TW w) : Calls Tryz.prog 11 #[] w fun e w' => e = .returned (.bool true) ∧ Below w.heap.size w w' := by
  have HT := Lib.hid htw
  have P5 := Lib.hid (fun W hW => by have := segment_Put.calls 20200 _ _ _ _ _ W (put_yes frm5 (Nat.le_refl _)) hW; rw [seg5] at this; exact this)
  have P7 := Lib.hid (fun W hW => segment_Put.calls 20200 _ _ _ _ _ W (put_yes frm7 (Nat.le_refl _)) hW)
  have P0 := Lib.hid (fun W hW => segment_Put.calls 20200 _ _ _ _ _ W (put_no (l := []) frm5.fmt (fun h => absurd h.ne (by decide)) (Nat.le_refl _)) hW)
  have G5 := Lib.hid (fun W hW => by have := segment_Get.calls 20200 _ _ _ _ _ W (get_back frm5 kind5 (Nat.le_refl _)) hW; rw [seg5] at this; exact this)
  have G7 := Lib.hid (fun W hW => segment_Get.calls 20200 _ _ _ _ _ W (get_back frm7 kind7 (Nat.le_refl _)) hW)
  have G1 := Lib.hid (fun W hW => segment_Get.calls 20200 _ _ _ _ _ W (awake_get1 20200) hW)
  have G2 := Lib.hid (fun W hW => segment_Get.calls 20200 _ _ _ _ _ W (awake_get2 20200) hW)
  have z : (bs (1 :: (Dsc.told 2 0 3 [5, 0]).drop 1)) = ⟨#[1]⟩ ++ (bs (Dsc.told 2 0 3 [5, 0])).extract 1 (bs (Dsc.told 2 0 3 [5, 0])).size := by
    rw [bs_extract, bs_size, List.take_length]
    exact (bs_append [1] _).symm
  have z2 : bs ((Dsc.told 2 0 3 [5, 0]).drop 1) = (bs (Dsc.told 2 0 3 [5, 0])).extract 1 (bs (Dsc.told 2 0 3 [5, 0])).size := by
    rw [bs_extract, bs_size, List.take_length]
  rw [z] at G1
  rw [z2] at G2
  have a1 : (bs (Dsc.told 2 0 3 [5, 0])).size = 11 := by rw [bs_size, Dsc.told_length]; rfl
  have a2 : ((bs (Dsc.told 2 0 3 [5, 0])).extract 0 7).toList = [2, 0, 3, 2, 0, 5, 0] := by
    rw [bs_extract, bs_toList]; rfl
  rw [a1] at G1 G2
  generalize bs (Dsc.told 2 0 3 [5, 0]) = A at *
  generalize bs (Dsc.putSeg [5, 0, 255, 127] 1 16) = B at *
  clear z z2
  have P5' := Lib.hid (show ∀ W, TW W → Calls Tryz.prog 12 #[.string ⟨#[5, 0, 5, 0, 5, 0]⟩, .agg #[.int .i64 1, .int .i64 16]] W fun e w' => e = .returned (.tuple #[.string A, .int .i64 0]) ∧ Below W.heap.size W w' from P5.out)
  have P7' := Lib.hid (show ∀ W, TW W → Calls Tryz.prog 12 #[.string ⟨#[5, 0, 255, 127]⟩, .agg #[.int .i64 1, .int .i64 16]] W fun e w' => e = .returned (.tuple #[.string B, .int .i64 0]) ∧ Below W.heap.size W w' from P7.out)
  have P0' := Lib.hid (show ∀ W, TW W → Calls Tryz.prog 12 #[.string ⟨#[]⟩, .agg #[.int .i64 1, .int .i64 16]] W fun e w' => e = .returned (.tuple #[.string ⟨#[]⟩, .int .i64 2200]) ∧ Below W.heap.size W w' from P0.out)
  have G5' := Lib.hid (show ∀ W, TW W → Calls Tryz.prog 14 #[.string A, .agg #[.int .i64 1, .int .i64 16]] W fun e w' => e = .returned (.tuple #[.string ⟨#[5, 0, 5, 0, 5, 0]⟩, .int .i64 0]) ∧ Below W.heap.size W w' from G5.out)
  have G7' := Lib.hid (show ∀ W, TW W → Calls Tryz.prog 14 #[.string B, .agg #[.int .i64 1, .int .i64 16]] W fun e w' => e = .returned (.tuple #[.string ⟨#[5, 0, 255, 127]⟩, .int .i64 0]) ∧ Below W.heap.size W w' from G7.out)
  have G1' := Lib.hid (show ∀ W, TW W → Calls Tryz.prog 14 #[.string (⟨#[1]⟩ ++ A.extract 1 11), .agg #[.int .i64 1, .int .i64 16]] W fun e w' => e = .returned (.tuple #[.string ⟨#[]⟩, .int .i64 2201]) ∧ Below W.heap.size W w' from G1.out)
  have G2' := Lib.hid (show ∀ W, TW W → Calls Tryz.prog 14 #[.string (A.extract 1 11), .agg #[.int .i64 1, .int .i64 16]] W fun e w' => e = .returned (.tuple #[.string ⟨#[]⟩, .int .i64 2200]) ∧ Below W.heap.size W w' from G2.out)
  have NM := Lib.hid (fun (x : Int) W => descantlaw0_Num.calls x x W rfl)
  have CR := Lib.hid (show ∀ W, Calls Tryz.prog 16 #[.string ⟨#[]⟩] W fun e w' => e = .returned (.int .i64 0) ∧ Below W.heap.size W w' from fun W => descantref1_Crc.calls ⟨#[]⟩ 0 W (by decide +kernel))
  clear P5 P7 P0 G5 G7 G1 G2 htw
  have a1i : ((A.size : Int) != 11) = false := by rw [a1]; rfl
  go_enter Tryz.func11, Tryz.ntmps11
  go_wp2_with fail
  have K0 := Lib.hid (Dsc.Blk.new w 23 #[.int .i64 1, .int .i64 16])
  have B0 := Lib.hid (show Below w.heap.size w (w.alloc (.cells #[.int .i64 1, .int .i64 16] 23)) by go_grown)
  refine (P5'.out _ (HT.out.of_ B0.out)).mono ?_
  rintro e w1 ⟨rfl, hb⟩
  have K1 := Lib.hid (K0.out.kept hb)
  have B1 := Lib.hid (Dsc.below_then B0.out B0.out.size hb)
  clear hb K0 B0
  have kc0 := K1.out.cell 0
  have kc1 := K1.out.cell 1
  simp at kc0 kc1
  go_wp2_with fail
  refine (G5'.out _ (HT.out.of_ B1.out)).mono ?_
  rintro e w2 ⟨rfl, hb⟩
  have K2 := Lib.hid (K1.out.kept hb)
  have B2 := Lib.hid (Dsc.below_then B1.out B1.out.size hb)
  clear hb K1 B1
  clear kc0 kc1
  have kc0 := K2.out.cell 0
  have kc1 := K2.out.cell 1
  simp at kc0 kc1
  go_wp2_with fail
  refine (P7'.out _ (HT.out.of_ B2.out)).mono ?_
  rintro e w3 ⟨rfl, hb⟩
  have K3 := Lib.hid (K2.out.kept hb)
  have B3 := Lib.hid (Dsc.below_then B2.out B2.out.size hb)
  clear hb K2 B2
  clear kc0 kc1
  have kc0 := K3.out.cell 0
  have kc1 := K3.out.cell 1
  simp at kc0 kc1
  go_wp2_with fail
  refine (G7'.out _ (HT.out.of_ B3.out)).mono ?_
  rintro e w4 ⟨rfl, hb⟩
  have K4 := Lib.hid (K3.out.kept hb)
  have B4 := Lib.hid (Dsc.below_then B3.out B3.out.size hb)
  clear hb K3 B3
  clear kc0 kc1
  have kc0 := K4.out.cell 0
  have kc1 := K4.out.cell 1
  simp at kc0 kc1
  go_wp2_with fail
  refine (P0'.out _ (HT.out.of_ B4.out)).mono ?_
  rintro e w5 ⟨rfl, hb⟩
  have K5 := Lib.hid (K4.out.kept hb)
  have B5 := Lib.hid (Dsc.below_then B4.out B4.out.size hb)
  clear hb K4 B4
  clear kc0 kc1
  have kc0 := K5.out.cell 0
  have kc1 := K5.out.cell 1
  simp at kc0 kc1
  go_wp2_with fail
  refine Dsc.wp_region_any_drew (by kernel_rfl) ?_
  refine wpAny_take (i := 0) (v := .string A) rfl (by decide +kernel) (by decide +kernel) (by decide +kernel) (fun _ _ _ h => h) (Or.inl ⟨by rfl, fun w => by rfl⟩) ?_
  try simp only [Act.put, Array.toArray_toList, List.getElem_toArray, List.getElem_cons_zero, List.getElem_cons_succ, List.setIfInBounds_toArray, List.set_cons_zero, List.set_cons_succ]
  refine wpAny_take (i := 1) (v := .string (A.extract 1 11)) rfl (by decide +kernel) (by decide +kernel) (by decide +kernel) (fun _ _ _ h => h) (Or.inl ⟨by rfl, fun w => by go_simp⟩) ?_
  try simp only [Act.put, Array.toArray_toList, List.getElem_toArray, List.getElem_cons_zero, List.getElem_cons_succ, List.setIfInBounds_toArray, List.set_cons_zero, List.set_cons_succ]
  refine wpAny_take (i := 2) (v := .string (⟨#[1]⟩ ++ A.extract 1 11)) rfl (by decide +kernel) (by decide +kernel) (by decide +kernel) (fun _ _ _ h => h) (Or.inl ⟨by rfl, fun w => by go_simp⟩) ?_
  try simp only [Act.put, Array.toArray_toList, List.getElem_toArray, List.getElem_cons_zero, List.getElem_cons_succ, List.setIfInBounds_toArray, List.set_cons_zero, List.set_cons_succ]
  refine wpAny_all (rs := [3]) (by decide +kernel) (by simp) ?_
  intro i hi
  obtain rfl : i = 3 := by simpa using hi
  clear hi
  refine Dsc.wpOp_value (w' := w5.drew) (v := .agg #[.int .i64 1, .int .i64 16]) rfl (by rfl) (by go_simp) ?_
  try simp only [Act.put, Array.toArray_toList, List.getElem_toArray, List.getElem_cons_zero, List.getElem_cons_succ, List.setIfInBounds_toArray, List.set_cons_zero, List.set_cons_succ]
  refine wpAny_all (rs := [4]) (by decide +kernel) (by simp) ?_
  intro i hi
  obtain rfl : i = 4 := by simpa using hi
  clear hi
  refine Dsc.wpOp_gen rfl (by rfl) ?_
  intro K' hK'
  go_simp
  refine (G1'.out _ (HT.out.of_ B5.out.drew)).mono ?_
  rintro e w6 ⟨rfl, hb⟩
  have K6 := Lib.hid (K5.out.drew.kept hb)
  have B6 := Lib.hid (Dsc.below_then B5.out.drew B5.out.size hb)
  clear hb K5 B5
  refine hK' _ _ ?_
  clear hK'
  try simp only [Act.put, Array.toArray_toList, List.getElem_toArray, List.getElem_cons_zero, List.getElem_cons_succ, List.setIfInBounds_toArray, List.set_cons_zero, List.set_cons_succ]
  refine wpAny_take (i := 5) (v := .tuple #[.string ⟨#[]⟩, .int .i64 2201]) rfl (by decide +kernel) (by decide +kernel) (by decide +kernel) (fun _ _ _ h => h) (Or.inl ⟨by rfl, fun w => by rfl⟩) ?_
  try simp only [Act.put, Array.toArray_toList, List.getElem_toArray, List.getElem_cons_zero, List.getElem_cons_succ, List.setIfInBounds_toArray, List.set_cons_zero, List.set_cons_succ]
  refine wpAny_take (i := 6) (v := .string ⟨#[]⟩) rfl (by decide +kernel) (by decide +kernel) (by decide +kernel) (fun _ _ _ h => h) (Or.inl ⟨by rfl, fun w => by rfl⟩) ?_
  try simp only [Act.put, Array.toArray_toList, List.getElem_toArray, List.getElem_cons_zero, List.getElem_cons_succ, List.setIfInBounds_toArray, List.set_cons_zero, List.set_cons_succ]
  refine wpAny_take (i := 7) (v := .int .i64 2201) rfl (by decide +kernel) (by decide +kernel) (by decide +kernel) (fun _ _ _ h => h) (Or.inl ⟨by rfl, fun w => by rfl⟩) ?_
  try simp only [Act.put, Array.toArray_toList, List.getElem_toArray, List.getElem_cons_zero, List.getElem_cons_succ, List.setIfInBounds_toArray, List.set_cons_zero, List.set_cons_succ]
  refine wpAny_take (i := 8) (v := .string ⟨#[]⟩) rfl (by decide +kernel) (by decide +kernel) (by decide +kernel) (fun _ _ _ h => h) (Or.inl ⟨by rfl, fun w => by rfl⟩) ?_
  try simp only [Act.put, Array.toArray_toList, List.getElem_toArray, List.getElem_cons_zero, List.getElem_cons_succ, List.setIfInBounds_toArray, List.set_cons_zero, List.set_cons_succ]
  refine wpAny_take (i := 9) (v := .int .i64 2201) rfl (by decide +kernel) (by decide +kernel) (by decide +kernel) (fun _ _ _ h => h) (Or.inl ⟨by rfl, fun w => by rfl⟩) ?_
  try simp only [Act.put, Array.toArray_toList, List.getElem_toArray, List.getElem_cons_zero, List.getElem_cons_succ, List.setIfInBounds_toArray, List.set_cons_zero, List.set_cons_succ]
  refine wpAny_done (by decide +kernel) ?_ _
  clear kc0 kc1
  have kc0 := K6.out.cell 0
  have kc1 := K6.out.cell 1
  simp at kc0 kc1
  go_wp2_with fail
  refine Dsc.wp_region_any_drew (by kernel_rfl) ?_
  refine wpAny_take (i := 0) (v := .string A) rfl (by decide +kernel) (by decide +kernel) (by decide +kernel) (fun _ _ _ h => h) (Or.inl ⟨by rfl, fun w => by rfl⟩) ?_
  try simp only [Act.put, Array.toArray_toList, List.getElem_toArray, List.getElem_cons_zero, List.getElem_cons_succ, List.setIfInBounds_toArray, List.set_cons_zero, List.set_cons_succ]
  refine wpAny_take (i := 1) (v := .string (A.extract 1 11)) rfl (by decide +kernel) (by decide +kernel) (by decide +kernel) (fun _ _ _ h => h) (Or.inl ⟨by rfl, fun w => by go_simp⟩) ?_
  try simp only [Act.put, Array.toArray_toList, List.getElem_toArray, List.getElem_cons_zero, List.getElem_cons_succ, List.setIfInBounds_toArray, List.set_cons_zero, List.set_cons_succ]
  refine wpAny_all (rs := [2]) (by decide +kernel) (by simp) ?_
  intro i hi
  obtain rfl : i = 2 := by simpa using hi
  clear hi
  refine Dsc.wpOp_value (w' := w6.drew) (v := .agg #[.int .i64 1, .int .i64 16]) rfl (by rfl) (by go_simp) ?_
  try simp only [Act.put, Array.toArray_toList, List.getElem_toArray, List.getElem_cons_zero, List.getElem_cons_succ, List.setIfInBounds_toArray, List.set_cons_zero, List.set_cons_succ]
  refine wpAny_all (rs := [3]) (by decide +kernel) (by simp) ?_
  intro i hi
  obtain rfl : i = 3 := by simpa using hi
  clear hi
  refine Dsc.wpOp_gen rfl (by rfl) ?_
  intro K' hK'
  go_simp
  refine (G2'.out _ (HT.out.of_ B6.out.drew)).mono ?_
  rintro e w7 ⟨rfl, hb⟩
  have K7 := Lib.hid (K6.out.drew.kept hb)
  have B7 := Lib.hid (Dsc.below_then B6.out.drew B6.out.size hb)
  clear hb K6 B6
  refine hK' _ _ ?_
  clear hK'
  try simp only [Act.put, Array.toArray_toList, List.getElem_toArray, List.getElem_cons_zero, List.getElem_cons_succ, List.setIfInBounds_toArray, List.set_cons_zero, List.set_cons_succ]
  refine wpAny_take (i := 4) (v := .tuple #[.string ⟨#[]⟩, .int .i64 2200]) rfl (by decide +kernel) (by decide +kernel) (by decide +kernel) (fun _ _ _ h => h) (Or.inl ⟨by rfl, fun w => by rfl⟩) ?_
  try simp only [Act.put, Array.toArray_toList, List.getElem_toArray, List.getElem_cons_zero, List.getElem_cons_succ, List.setIfInBounds_toArray, List.set_cons_zero, List.set_cons_succ]
  refine wpAny_take (i := 5) (v := .string ⟨#[]⟩) rfl (by decide +kernel) (by decide +kernel) (by decide +kernel) (fun _ _ _ h => h) (Or.inl ⟨by rfl, fun w => by rfl⟩) ?_
  try simp only [Act.put, Array.toArray_toList, List.getElem_toArray, List.getElem_cons_zero, List.getElem_cons_succ, List.setIfInBounds_toArray, List.set_cons_zero, List.set_cons_succ]
  refine wpAny_take (i := 6) (v := .int .i64 2200) rfl (by decide +kernel) (by decide +kernel) (by decide +kernel) (fun _ _ _ h => h) (Or.inl ⟨by rfl, fun w => by rfl⟩) ?_
  try simp only [Act.put, Array.toArray_toList, List.getElem_toArray, List.getElem_cons_zero, List.getElem_cons_succ, List.setIfInBounds_toArray, List.set_cons_zero, List.set_cons_succ]
  refine wpAny_take (i := 7) (v := .string ⟨#[]⟩) rfl (by decide +kernel) (by decide +kernel) (by decide +kernel) (fun _ _ _ h => h) (Or.inl ⟨by rfl, fun w => by rfl⟩) ?_
  try simp only [Act.put, Array.toArray_toList, List.getElem_toArray, List.getElem_cons_zero, List.getElem_cons_succ, List.setIfInBounds_toArray, List.set_cons_zero, List.set_cons_succ]
  refine wpAny_take (i := 8) (v := .int .i64 2200) rfl (by decide +kernel) (by decide +kernel) (by decide +kernel) (fun _ _ _ h => h) (Or.inl ⟨by rfl, fun w => by rfl⟩) ?_
  try simp only [Act.put, Array.toArray_toList, List.getElem_toArray, List.getElem_cons_zero, List.getElem_cons_succ, List.setIfInBounds_toArray, List.set_cons_zero, List.set_cons_succ]
  refine wpAny_done (by decide +kernel) ?_ _
  clear kc0 kc1
  go_wp2_with (first | (go_at_call 13; refine (NM.out _ _).mono ?_; rintro e w' ⟨rfl, ⟨n, hn⟩⟩; subst hn) | (go_at_call 16; refine (CR.out _).mono ?_; rintro e w8 ⟨rfl, hb8⟩; have B8 := Lib.hid hb8; clear hb8))
  go_ret
  exact ⟨rfl, Dsc.below_then (w1 := w7.drewN _) (Dsc.below_drewN B7.out _) B7.out.size B8.out⟩
def descantlaw22_awake.f : Option Bool := some true
theorem descantlaw22_awake.calls (r : Bool) (w : World) (h : descantlaw22_awake.f = some r) (htw : TW w) :
    Calls Tryz.prog 11 #[] w fun e w' => e = .returned (.bool r) ∧ Below w.heap.size w w' := by
  cases h
  exact awake_any w htw
end Go.Proofs.YtbapmfghipcebaaGreatDoor.S
end
section
/- Byte rows that a conversion of a string made: what the walks read and store there. -/
set_option linter.unusedVariables false
set_option linter.unusedSimpArgs false
namespace Go.Proofs.YtbapmfghipcebaaGreatDoor.S
open Go Go.RowKit Go.Proofs Go.Proofs.YtbapmfghipcebaaGreatDoorW.PrintWords
open Dsc (bs)

theorem xor8 (a b : UInt8) : bits .xor .u8 (a.toNat : Int) (b.toNat : Int) = ((a ^^^ b).toNat : Int) := by
  have h : bits .xor .u8 (a.toNat : Int) (b.toNat : Int) = IntKind.u8.wrap (((BitVec.ofInt 8 (a.toNat : Int)) ^^^ (BitVec.ofInt 8 (b.toNat : Int))).toNat : Int) := rfl
  have e : ∀ x : UInt8, BitVec.ofInt 8 (x.toNat : Int) = x.toBitVec := fun x => by
    rw [BitVec.ofInt_natCast]; exact BitVec.eq_of_toNat_eq (by rw [BitVec.toNat_ofNat]; exact Nat.mod_eq_of_lt x.toNat_lt)
  have e3 : (((a.toBitVec ^^^ b.toBitVec).toNat : Nat) : Int) = ((a ^^^ b).toNat : Int) := rfl
  rw [h, e, e, e3]
  have h8 := (a ^^^ b).toNat_lt
  generalize (a ^^^ b).toNat = n at h8 ⊢
  rw [IntKind.wrap_u8']
  omega
/-- Row g holds the bytes l first, and they may be written. -/
def Bys (W : World) (g : Nat) (l : List UInt8) : Prop := ∃ cs t fr, W.heap[g]? = some (.cells cs t fr) ∧ l.length ≤ fr.1 ∧ l.length ≤ cs.size ∧ ∀ j, j < l.length → cs[j]? = some (.int .u8 ((l.getD j 0).toNat : Int))
theorem Bys.lt {W : World} {g : Nat} {l : List UInt8} (h : Bys W g l) : g < W.heap.size := by
  obtain ⟨cs, t, fr, h1, -⟩ := h
  rcases Nat.lt_or_ge g W.heap.size with h | h
  · exact h
  · rw [Array.getElem?_eq_none h] at h1; cases h1
theorem Bys.cell {W : World} {g : Nat} {l : List UInt8} (h : Bys W g l) {j : Nat} (hj : j < l.length) : W.cell? ⟨g, j, none⟩ = some (.int .u8 ((l.getD j 0).toNat : Int)) := by
  obtain ⟨cs, t, fr, h1, h2, h4, h3⟩ := h
  rw [cell_of_row W g j cs t fr h1]
  exact h3 j hj
theorem Bys.frozen {W : World} {g : Nat} {l : List UInt8} (h : Bys W g l) {j : Nat} (hj : j < l.length) : W.frozen? ⟨g, j, none⟩ = false := by
  obtain ⟨cs, t, ⟨lo, hi⟩, h1, h2, -⟩ := h
  have h2' : l.length ≤ lo := h2
  simp [World.frozen?, h1]
  intro h
  omega
theorem Bys.drewN {W : World} {g : Nat} {l : List UInt8} (h : Bys W g l) (n : Nat) : Bys (W.drewN n) g l := h
theorem Bys.kept {W W' : World} {g : Nat} {l : List UInt8} (h : Bys W g l) (hb : Below W.heap.size W W') : Bys W' g l := by
  have hl := h.lt
  obtain ⟨cs, t, fr, h1, h2⟩ := h
  exact ⟨cs, t, fr, (hb.block g hl).trans h1, h2⟩
theorem Bys.new (W : World) (e : TypeId) (l : List UInt8) : Bys (Lib.bytesWorld W e (bs l)) W.heap.size l := by
  refine ⟨_, _, _, Lib.bytesWorld_at_new W e (bs l), ?_, ?_, fun j hj => ?_⟩
  · simp [Lib.bytesCells, bs]
  · simp [Lib.bytesCells, bs]
  · simp [Lib.bytesCells, bs, Array.getElem?_append, hj, List.getD_eq_getElem?_getD]
theorem Bys.set {W : World} {g : Nat} {l : List UInt8} (h : Bys W g l) {k : Nat} (hk : k < l.length) (x : UInt8) : Bys (W.setCell ⟨g, k, none⟩ (.int .u8 (x.toNat : Int))) g (l.set k x) := by
  obtain ⟨cs, t, fr, h1, h2, h4, h3⟩ := h
  refine ⟨cs.setIfInBounds k (.int .u8 (x.toNat : Int)), t, fr, by simp [World.setCell, Array.getElem?_modify, h1], by rw [List.length_set]; exact h2, by rw [List.length_set, Array.size_setIfInBounds]; exact h4, fun j hj => ?_⟩
  rw [List.length_set] at hj
  rw [Array.getElem?_setIfInBounds, List.getD_eq_getElem?_getD, List.getElem?_set]
  by_cases e : k = j
  · subst e
    rw [if_pos rfl, if_pos (by omega), if_pos rfl, if_pos hk]
    rfl
  · rw [if_neg e, if_neg e, h3 j hj, List.getD_eq_getElem?_getD]
theorem Bys.str {W : World} {g : Nat} {l : List UInt8} (h : Bys W g l) (cap : Nat) : (convert 29 9 (.slice (some ⟨g, 0, none⟩) l.length cap)).run Tryz.prog W = .ok (.string (bs l)) W := by
  have e := run_convert_bytes_arg (P := Tryz.prog) W 29 5 Tryz.underlying29 Tryz.underlying5 g 0 l.length cap (l.map fun x => (x.toNat : Int)) (by simp) (fun i hi => by
    rw [Nat.zero_add, h.cell hi]
    simp [List.getD_eq_getElem?_getD, hi]) 9 Tryz.underlying9
  have e2 : (l.map fun x => (x.toNat : Int)).map (fun n => UInt8.ofNat n.toNat) = l := by
    rw [List.map_map]
    conv => rhs; rw [← List.map_id l]
    apply List.map_congr_left
    intro x _
    show UInt8.ofNat (Int.toNat (x.toNat : Int)) = x
    rw [Int.toNat_natCast, UInt8.ofNat_toNat]
  rw [e, strNums, e2]
theorem bytes_of (s : ByteArray) (W : World) : (convert 9 29 (.string s)).run Tryz.prog W = .ok (.slice (some ⟨W.heap.size, 0, none⟩) s.size (grownCap W s.size 0 5)) (Lib.bytesWorld W 5 s) := Lib.run_convert_string_bytes W _ _ _ s Tryz.underlying9 Tryz.underlying29 Tryz.underlying5
theorem below_bytes {w W : World} (h : Below w.heap.size w W) (hB : w.heap.size ≤ W.heap.size) (e : TypeId) (s : ByteArray) : Below w.heap.size w (Lib.bytesWorld W e s) :=
  h.trans ⟨rfl, rfl, rfl, by rw [Lib.bytesWorld_size]; omega, fun i hi => Lib.bytesWorld_at_old W e s i (by omega)⟩
end Go.Proofs.YtbapmfghipcebaaGreatDoor.S
end
section
/- Formats that may be. -/
set_option linter.unusedVariables false
set_option linter.unusedSimpArgs false
namespace Go.Proofs.YtbapmfghipcebaaGreatDoor.S
open Go Go.RowKit Go.Proofs Go.Proofs.YtbapmfghipcebaaGreatDoorW.PrintWords
open Dsc (bs Fmt Frm fsize)

theorem fmay_f (c b : Int) : descantref13_FormatMay.f c b = some (decide ((c = 1 ∨ c = 2) ∧ (b = 8 ∨ b = 16))) := by
  unfold descantref13_FormatMay.f descantref13_upTo.f
  repeat' split
  all_goals first
    | (rw [Option.bind_some]; split <;> (try split) <;> (congr 1; rw [Bool.eq_iff_iff]; simp_all; try omega))
    | (congr 1; rw [Bool.eq_iff_iff]; simp_all; try omega)
theorem fmt_of {c b : Int} (h : (c = 1 ∨ c = 2) ∧ (b = 8 ∨ b = 16)) : ∃ c' b' : Nat, c = c' ∧ b = b' ∧ Fmt c' b' := ⟨c.toNat, b.toNat, by omega, by omega, ⟨by omega, by omega⟩⟩
end Go.Proofs.YtbapmfghipcebaaGreatDoor.S
end
section
/- The plain law of SegmentUnlike: unlike frames have unlike segments. -/
set_option linter.unusedVariables false
set_option linter.unusedSimpArgs false
namespace Go.Proofs.YtbapmfghipcebaaGreatDoor.S
open Go Go.RowKit Go.Proofs Go.Proofs.YtbapmfghipcebaaGreatDoorW.PrintWords
open Dsc (bs Fmt Frm fsize byteN low chans samplesOf lput zeroC zeroC_ok lputs sideP lowsOf wasteAll codedOf zipSub zipAdd)

theorem lput_inj {xs ys : List Int} (hx : ∀ x ∈ xs, -131072 ≤ x ∧ x ≤ 131072) (hy : ∀ x ∈ ys, -131072 ≤ x ∧ x ≤ 131072) (h : (lput zeroC xs).getD [] = (lput zeroC ys).getD []) : xs = ys := by
  obtain ⟨r1, e1, -, -⟩ := Dsc.lput_some xs zeroC zeroC_ok hx
  obtain ⟨r2, e2, -, -⟩ := Dsc.lput_some ys zeroC zeroC_ok hy
  rw [e1, e2] at h
  have h' : r1 = r2 := h
  subst h'
  have f1 := Dsc.lget_lput xs zeroC r1 zeroC_ok e1
  have f2 := Dsc.lget_lput ys zeroC r1 zeroC_ok e2
  rw [f1] at f2
  exact Option.some.inj f2
theorem two_of {A : List (List Int)} {n : Nat} (h : Chs A n) : (∃ a, A = [a]) ∨ ∃ a b, A = [a, b] := by
  match A, h.two with
  | [a], _ => exact .inl ⟨a, rfl⟩
  | [a, b], _ => exact .inr ⟨a, b, rfl⟩
  | [], h => simp at h
  | _ :: _ :: _ :: _, h => simp at h
theorem lputs_len {A : List (List Int)} {n : Nat} (h : Chs A n) : (lputs A).length = A.length * n := by
  rcases two_of h with ⟨a, rfl⟩ | ⟨a, b, rfl⟩
  · have h1 := (lput_facts (h.bd a (by simp))).1
    have h2 := h.len a (by simp)
    simp only [lputs, List.flatMap_cons, List.flatMap_nil, List.length_append, List.length_cons, List.length_nil]
    omega
  · have h1 := (lput_facts (h.bd a (by simp))).1
    have h2 := h.len a (by simp)
    have h3 := (lput_facts (h.bd b (by simp))).1
    have h4 := h.len b (by simp)
    simp only [lputs, List.flatMap_cons, List.flatMap_nil, List.length_append, List.length_cons, List.length_nil]
    omega
theorem lputs_inj {A B : List (List Int)} {n : Nat} (hA : Chs A n) (hB : Chs B n) (hl : A.length = B.length) (h : lputs A = lputs B) : A = B := by
  rcases two_of hA with ⟨a, rfl⟩ | ⟨a, a', rfl⟩ <;> rcases two_of hB with ⟨b, rfl⟩ | ⟨b, b', rfl⟩
  · simp only [lputs, List.flatMap_cons, List.flatMap_nil, List.append_nil] at h
    rw [lput_inj (hA.bd a (by simp)) (hB.bd b (by simp)) h]
  · simp at hl
  · simp at hl
  · have h1 := (lput_facts (hA.bd a (by simp))).1
    have h2 := hA.len a (by simp)
    have h3 := (lput_facts (hB.bd b (by simp))).1
    have h4 := hB.len b (by simp)
    simp only [lputs, List.flatMap_cons, List.flatMap_nil, List.append_nil] at h
    obtain ⟨e1, e2⟩ := List.append_inj h (by omega)
    rw [lput_inj (hA.bd a (by simp)) (hB.bd b (by simp)) e1, lput_inj (hA.bd a' (by simp)) (hB.bd b' (by simp)) e2]
theorem sideP_length (A : List (List Int)) : (sideP A).length = A.length := by
  unfold sideP
  split <;> rfl
theorem sideP_inj {A B : List (List Int)} {n : Nat} (hA : Chs A n) (hB : Chs B n) (hl : A.length = B.length) (h : sideP A = sideP B) : A = B := by
  rcases two_of hA with ⟨a, rfl⟩ | ⟨a, a', rfl⟩ <;> rcases two_of hB with ⟨b, rfl⟩ | ⟨b, b', rfl⟩
  · exact h
  · simp at hl
  · simp at hl
  · simp only [sideP, List.cons.injEq, and_true] at h
    obtain ⟨rfl, h2⟩ := h
    have e1 := hA.len a (by simp)
    have e2 := hA.len a' (by simp)
    have e3 := hB.len b' (by simp)
    rw [← Dsc.zip_back a a' (by omega), h2, Dsc.zip_back a b' (by omega)]
theorem lows_back {k : Nat} {A : List (List Int)} (h : ∀ xs ∈ A, ∀ x ∈ xs, (2 : Int) ^ k ∣ x) : (lowsOf k A).map (fun xs => xs.map (fun x => x * 2 ^ k)) = A := by
  unfold lowsOf
  rw [List.map_map]
  conv => rhs; rw [← List.map_id A]
  apply List.map_congr_left
  intro xs hx
  show (xs.map (· / 2 ^ k)).map (fun x => x * 2 ^ k) = xs
  rw [List.map_map]
  conv => rhs; rw [← List.map_id xs]
  apply List.map_congr_left
  intro x hxx
  exact Int.ediv_mul_cancel (h xs hx x hxx)
theorem codedOf_inj {A B : List (List Int)} {n : Nat} (hA : Chs A n) (hB : Chs B n) (bA : ∀ xs ∈ A, ∀ x ∈ xs, -32768 ≤ x ∧ x ≤ 32768) (bB : ∀ xs ∈ B, ∀ x ∈ xs, -32768 ≤ x ∧ x ≤ 32768) (hl : A.length = B.length) (hw : wasteAll A = wasteAll B) (h : codedOf A = codedOf B) : A = B := by
  have lb : ∀ {A : List (List Int)} (k : Nat), (∀ xs ∈ A, ∀ x ∈ xs, -32768 ≤ x ∧ x ≤ 32768) → ∀ xs ∈ lowsOf k A, ∀ x ∈ xs, -32768 ≤ x ∧ x ≤ 32768 := by
    intro A k b xs hx x hxx
    obtain ⟨ys, hy, rfl⟩ := List.mem_map.1 hx
    obtain ⟨y, hy2, rfl⟩ := List.mem_map.1 hxx
    exact div_bd (by decide) (b ys hy y hy2)
  have cA := sideP_chs (hA.lows (wasteAll A)) (lb _ bA)
  have cB := sideP_chs (hB.lows (wasteAll B)) (lb _ bB)
  have eA : (sideP (lowsOf (wasteAll A) A)).length = A.length := by rw [sideP_length]; exact List.length_map _
  have eB : (sideP (lowsOf (wasteAll B) B)).length = B.length := by rw [sideP_length]; exact List.length_map _
  have gA := Dsc.rget_rput (lputs_bd cA)
  have gB := Dsc.rget_rput (lputs_bd cB)
  unfold codedOf at h
  rw [lputs_len cA, eA, h] at gA
  rw [lputs_len cB, eB, ← hl, gA] at gB
  have h1 := sideP_inj (hA.lows _) (hB.lows _) (by rw [← sideP_length, eA, ← sideP_length (lowsOf _ B), eB, hl]) (lputs_inj cA cB (by rw [eA, eB, hl]) (Option.some.inj gB))
  have e1 := lows_back (Dsc.wasteAll_dvd (xss := A))
  have e2 := lows_back (Dsc.wasteAll_dvd (xss := B))
  rw [h1, hw] at e1
  exact e1.symm.trans e2
theorem kind_coded {l : List UInt8} {c b : Nat} (h : (Dsc.kindOf l c b).1 = 1) : (Dsc.kindOf l c b).2.1 = wasteAll (chans c (samplesOf b l)) ∧ (Dsc.kindOf l c b).2.2 = codedOf (chans c (samplesOf b l)) := by
  unfold Dsc.kindOf at h ⊢
  split
  · rename_i hc; rw [if_pos hc] at h; cases h
  · rename_i hc
    rw [if_neg hc] at h
    split
    · exact ⟨rfl, rfl⟩
    · rename_i hd; rw [if_neg hd] at h; cases h
theorem putSeg_inj {l m : List UInt8} {c b : Nat} (h : Frm l c b) (h' : Frm m c b) (hlen : l.length = m.length) (e : Dsc.putSeg l c b = Dsc.putSeg m c b) : l = m := by
  obtain ⟨e1, e2, -, e4⟩ := Dsc.told_inj e
  obtain ⟨-, p1, p2⟩ := kindOf_own h
  obtain ⟨-, q1, q2⟩ := kindOf_own h'
  have k1 : (Dsc.kindOf l c b).1 = (Dsc.kindOf m c b).1 := by omega
  have k2 : (Dsc.kindOf l c b).2.1 = (Dsc.kindOf m c b).2.1 := by omega
  by_cases z0 : (Dsc.kindOf l c b).1 = 0
  · rw [← kind_raw z0, e4, kind_raw (by rw [← k1]; exact z0)]
  by_cases z1 : (Dsc.kindOf l c b).1 = 1
  · obtain ⟨a1, a2⟩ := kind_coded z1
    obtain ⟨b1, b2⟩ := kind_coded (l := m) (c := c) (b := b) (by rw [← k1]; exact z1)
    obtain ⟨c1, c2, -⟩ := frm_chs h
    obtain ⟨d1, d2, -⟩ := frm_chs h'
    rw [← hlen] at d1
    have hch := codedOf_inj c1 d1 c2 d2 (by rw [Dsc.chans_length h.fmt.c, Dsc.chans_length h.fmt.c]) (by rw [← a1, k2, b1]) (by rw [← a2, e4, b2])
    have hw : ∀ {l : List UInt8}, Frm l c b → l.length % (b / 8) = 0 := by
      intro l h
      have hf := h.fmt.fs
      have hz := h.whole
      rw [hf.1] at hz
      exact Nat.mod_eq_zero_of_dvd (Nat.dvd_trans (Nat.dvd_mul_left _ _) (Nat.dvd_of_mod_eq_zero hz))
    exact Dsc.samplesOf_inj h.fmt.b (hw h) (hw h') (Dsc.chans_inj hch)
  · have z2 : (Dsc.kindOf l c b).1 = 2 := by omega
    obtain ⟨a1, a2⟩ := kind_const z2
    obtain ⟨b1, b2⟩ := kind_const (l := m) (c := c) (b := b) (by rw [← k1]; exact z2)
    unfold Dsc.isConst at a1 b1
    rw [beq_iff_eq] at a1 b1
    rw [a1, b1, ← a2, ← b2, e4, hlen]
theorem xor_ne {x y : UInt8} (h : x ^^^ y = x) : y = 0 := by
  have e : x ^^^ (x ^^^ y) = x ^^^ x := congrArg (x ^^^ ·) h
  rw [← UInt8.xor_assoc, UInt8.xor_self, UInt8.zero_xor] at e
  exact e
/-- A byte of l, turned. -/
def turnB (k x : Nat) (l : List UInt8) : List UInt8 := l.set k (l.getD k 0 ^^^ byteN x)
theorem turnB_length (k x : Nat) (l : List UInt8) : (turnB k x l).length = l.length := List.length_set ..
theorem turnB_ne {k x : Nat} {l : List UInt8} (hk : k < l.length) (h1 : 1 ≤ x) (h2 : x ≤ 128) : turnB k x l ≠ l := by
  intro h
  have e := congrArg (fun z => z.getD k 0) h
  unfold turnB at e
  simp only [List.getD_eq_getElem?_getD, List.getElem?_set_self hk, List.getElem?_eq_getElem hk, Option.getD_some] at e
  have e2 := congrArg UInt8.toNat (xor_ne e)
  rw [Dsc.byteN_val] at e2
  have : (0 : UInt8).toNat = 0 := rfl
  omega
theorem unlike_put {l : List UInt8} {c b k x : Nat} (h : Frm l c b) (hk : k < l.length) (h1 : 1 ≤ x) (h2 : x ≤ 128) : Frm (turnB k x l) c b ∧ Dsc.putSeg (turnB k x l) c b ≠ Dsc.putSeg l c b := by
  have hF : Frm (turnB k x l) c b := ⟨h.fmt, by rw [turnB_length]; exact h.ne, by rw [turnB_length]; exact h.whole, by rw [turnB_length]; exact h.few⟩
  exact ⟨hF, fun e => turnB_ne hk h1 h2 (putSeg_inj hF h (turnB_length ..) e)⟩
end Go.Proofs.YtbapmfghipcebaaGreatDoor.S
end
section
/- The walk of SegmentUnlike. -/
set_option linter.unusedVariables false
set_option linter.unusedSimpArgs false
namespace Go.Proofs.YtbapmfghipcebaaGreatDoor.S
open Go Go.RowKit Go.Proofs Go.Proofs.YtbapmfghipcebaaGreatDoorW.PrintWords
open Dsc (bs Fmt Frm fsize byteN)

theorem and127 (x : Int) : bits .and .i64 x 127 = x % 128 := by
  have h : bits .and .i64 x 127 = IntKind.i64.wrap (((BitVec.ofInt 64 x) &&& (BitVec.ofInt 64 127)).toNat : Int) := rfl
  have e : ((BitVec.ofInt 64 x) &&& (BitVec.ofInt 64 127)).toNat = (BitVec.ofInt 64 x).toNat % 128 := by
    rw [BitVec.toNat_and]; exact Nat.and_two_pow_sub_one_eq_mod _ 7
  have e2 := Dsc.n64_eq x
  unfold Dsc.n64 at e2
  rw [h, e, IntKind.wrap_i64]
  omega
theorem unlike_no (s : ByteArray) (c b at' by' : Int) (w : World) (er : Int) (he : er ≠ 0) (htw : TW w) (hp : ∀ W, TW W → Calls Tryz.prog 12 #[.string s, .agg #[.int .i64 c, .int .i64 b]] W fun e w' => e = .returned (.tuple #[.string ⟨#[]⟩, .int .i64 er]) ∧ Below W.heap.size W w') :
    Calls Tryz.prog 8 #[.string s, .agg #[.int .i64 c, .int .i64 b], .int .i64 at', .int .i64 by'] w fun e w' => e = .returned (.bool true) ∧ Below w.heap.size w w' := by
  have HA := Lib.hid (fun W hW => awake_any W hW)
  have HP := Lib.hid hp
  have HT := Lib.hid htw
  have NM := Lib.hid (fun (x : Int) W => descantlaw0_Num.calls x x W rfl)
  have b1 : (er != 0) = true := by simpa using he
  clear hp htw he
  go_enter Tryz.func8, Tryz.ntmps8
  go_wp2_with fail
  have K0 := Lib.hid (Dsc.Blk.new w 23 #[.int .i64 c, .int .i64 b])
  have B0 := Lib.hid (show Below w.heap.size w (w.alloc (.cells #[.int .i64 c, .int .i64 b] 23)) by go_grown)
  refine (HA.out _ (HT.out.of_ B0.out)).mono ?_
  rintro e w1 ⟨rfl, hb⟩
  have K1 := Lib.hid (K0.out.kept hb)
  have B1 := Lib.hid (Dsc.below_then B0.out B0.out.size hb)
  clear hb K0 B0
  have kc0 := K1.out.cell 0
  have kc1 := K1.out.cell 1
  simp at kc0 kc1
  go_wp2_with fail
  refine (HP.out _ (HT.out.of_ B1.out)).mono ?_
  rintro e w2 ⟨rfl, hb⟩
  have B2 := Lib.hid (Dsc.below_then B1.out B1.out.size hb)
  clear hb kc0 kc1
  go_wp2_with (go_at_call 13; refine (NM.out _ _).mono ?_; rintro e w' ⟨rfl, ⟨n, hn⟩⟩; subst hn)
  go_ret
  exact ⟨by simp [ByteArray.toList_eq], Dsc.below_drewN B2.out _⟩
set_option maxRecDepth 100000 in
set_option maxHeartbeats 2000000 in
theorem unlike_yes (l : List UInt8) (t u : ByteArray) (c b at' by' : Int) (k x : Nat) (w : World) (htw : TW w)
    (hp : ∀ W, TW W → Calls Tryz.prog 12 #[.string (bs l), .agg #[.int .i64 c, .int .i64 b]] W fun e w' => e = .returned (.tuple #[.string t, .int .i64 0]) ∧ Below W.heap.size W w')
    (hq : ∀ W, TW W → Calls Tryz.prog 12 #[.string (bs (turnB k x l)), .agg #[.int .i64 c, .int .i64 b]] W fun e w' => e = .returned (.tuple #[.string u, .int .i64 0]) ∧ Below W.heap.size W w')
    (hf : ∀ W, Calls Tryz.prog 17 #[.agg #[.int .i64 c, .int .i64 b]] W fun e w' => e = .returned (.bool true) ∧ Below W.heap.size W w')
    (hl : 0 < l.length) (hl4 : l.length ≤ 4096) (hk : k < l.length) (hk2 : wrap64 ((IntKind.u64.wrap at').tmod (l.length : Int)) = (k : Int)) (hx : 1 + by' % 128 = (x : Int)) (hne : (t.toList == u.toList) = false) :
    Calls Tryz.prog 8 #[.string (bs l), .agg #[.int .i64 c, .int .i64 b], .int .i64 at', .int .i64 by'] w fun e w' => e = .returned (.bool true) ∧ Below w.heap.size w w' := by
  have HA := Lib.hid (fun W hW => awake_any W hW)
  have HP := Lib.hid hp
  have HQ := Lib.hid hq
  have HF := Lib.hid hf
  have HT := Lib.hid htw
  have NM := Lib.hid (fun (x : Int) W => descantlaw0_Num.calls x x W rfl)
  have HX := Lib.hid hx
  have hsz : (bs l).size = l.length := bs_size l
  have q0 : ((l.length : Int) == 0) = false := beq_eq_false_iff_ne.2 (by omega)
  have q0' : (l.length == 0) = false := beq_eq_false_iff_ne.2 (by omega)
  clear hp hq hf htw hx
  go_enter Tryz.func8, Tryz.ntmps8
  go_wp2_with fail
  have K0 := Lib.hid (Dsc.Blk.new w 23 #[.int .i64 c, .int .i64 b])
  have B0 := Lib.hid (show Below w.heap.size w (w.alloc (.cells #[.int .i64 c, .int .i64 b] 23)) by go_grown)
  refine (HA.out _ (HT.out.of_ B0.out)).mono ?_
  rintro e w1 ⟨rfl, hb⟩
  have K1 := Lib.hid (K0.out.kept hb)
  have B1 := Lib.hid (Dsc.below_then B0.out B0.out.size hb)
  clear hb K0 B0
  have kc0 := K1.out.cell 0
  have kc1 := K1.out.cell 1
  simp at kc0 kc1
  go_wp2_with fail
  refine (HP.out _ (HT.out.of_ B1.out)).mono ?_
  rintro e w2 ⟨rfl, hb⟩
  have B2 := Lib.hid (Dsc.below_then B1.out B1.out.size hb)
  have K2 := Lib.hid (K1.out.kept hb)
  clear hb kc0 kc1 K1 B1
  go_wp2_with fail
  refine (NM.out _ _).mono ?_
  rintro e w3 ⟨rfl, ⟨nn, hn⟩⟩
  subst hn
  obtain ⟨W1, hW1⟩ : ∃ W1, Lib.bytesWorld (w2.drewN nn) 5 (bs l) = W1 := ⟨_, rfl⟩
  obtain ⟨cap, hcap⟩ : ∃ cap, grownCap (w2.drewN nn) l.length 0 5 = cap := ⟨_, rfl⟩
  have kb : (convert 9 29 (.string (bs l))).run Tryz.prog (w2.drewN nn) = .ok (.slice (some ⟨w2.heap.size, 0, none⟩) l.length cap) W1 := by
    have h := bytes_of (bs l) (w2.drewN nn)
    rw [hW1, hsz, hcap] at h
    exact h
  have Y1 := Lib.hid (show Bys W1 w2.heap.size l from hW1 ▸ Bys.new (w2.drewN nn) _ l)
  have B3 := Lib.hid (show Below w.heap.size w W1 from hW1 ▸ below_bytes (Dsc.below_drewN B2.out nn) B2.out.size _ _)
  have K3 := Lib.hid (show Dsc.Blk W1 w.heap.size 23 #[.int .i64 c, .int .i64 b] from hW1 ▸ (Lib.bytesWorld_at_old (w2.drewN nn) _ _ _ K2.out.lt).trans K2.out)
  clear hW1 hcap
  have c0 := Y1.out.cell hk
  have f0 := Y1.out.frozen hk
  have hki : (k : Int) < (l.length : Int) := by omega
  have hk0 : (0 : Int) ≤ (k : Int) := by omega
  obtain ⟨z, hz⟩ : ∃ z : UInt8, l[k] ^^^ byteN x = z := ⟨_, rfl⟩
  have ev : bits .xor .u8 ((l[k].toNat : Nat) : Int) (wrap64 (1 + bits .and .i64 by' 127) % 256) = (z.toNat : Int) := by
    have e1 : wrap64 (1 + bits .and .i64 by' 127) % 256 = ((byteN x).toNat : Int) := by
      rw [and127, Dsc.byteN_val, HX.out, w64 (by have := HX.out; omega) (by have := HX.out; omega)]
      omega
    rw [e1, xor8, hz]
  have hset : turnB k x l = l.set k z := by
    unfold turnB
    rw [List.getD_eq_getElem?_getD, List.getElem?_eq_getElem hk, Option.getD_some, hz]
  have ne : w.heap.size ≠ w2.heap.size := by have := K2.out.lt; omega
  clear K2
  have Y2 := Lib.hid (Y1.out.set hk z)
  have B4 := Lib.hid (B3.out.setCell (p := ⟨w2.heap.size, k, none⟩) B2.out.size (.int .u8 (z.toNat : Int)))
  have K4 := Lib.hid (K3.out.far (p := ⟨w2.heap.size, k, none⟩) ne (.int .u8 (z.toNat : Int)))
  have kb2 := Y2.out.str cap
  rw [List.length_set, ← hset] at kb2
  have kc0 := K4.out.cell 0
  have kc1 := K4.out.cell 1
  simp at kc0 kc1
  clear hz hset ne B2 Y1 Y2 B3 K3 HX
  rw [← hsz] at q0 q0'
  go_wp2_with fail
  refine (HQ.out _ (HT.out.of_ B4.out)).mono ?_
  rintro e w4 ⟨rfl, hb⟩
  have B5 := Lib.hid (Dsc.below_then B4.out B4.out.size hb)
  have K5 := Lib.hid (K4.out.kept hb)
  clear hb kc0 kc1 K4 B4 kb kb2 c0 f0
  have kc0 := K5.out.cell 0
  have kc1 := K5.out.cell 1
  simp at kc0 kc1
  go_wp2_with fail
  refine (NM.out _ _).mono ?_
  rintro e w5 ⟨rfl, ⟨n5, hn⟩⟩
  subst hn
  go_wp2_with fail
  refine (HF.out _).mono ?_
  rintro e w6 ⟨rfl, hb⟩
  have B6 := Lib.hid (Dsc.below_then (w1 := w4.drewN n5) (Dsc.below_drewN B5.out n5) B5.out.size hb)
  clear hb kc0 kc1 K5 B5
  go_wp2_with fail
  go_ret
  exact ⟨rfl, B6.out⟩
end Go.Proofs.YtbapmfghipcebaaGreatDoor.S
end
section
/- SegmentUnlike, joined. -/
set_option linter.unusedVariables false
set_option linter.unusedSimpArgs false
namespace Go.Proofs.YtbapmfghipcebaaGreatDoor.S
open Go Go.RowKit Go.Proofs Go.Proofs.YtbapmfghipcebaaGreatDoorW.PrintWords
open Dsc (bs Fmt Frm fsize byteN)

theorem at_mod {n : Nat} (h0 : 0 < n) (h1 : n ≤ 9223372036854775807) (x : Int) : ∃ k : Nat, k < n ∧ wrap64 ((IntKind.u64.wrap x).tmod (n : Int)) = (k : Int) := by
  have e : IntKind.u64.wrap x = x % 18446744073709551616 := by simp [IntKind.wrap, IntKind.bits, IntKind.signed]
  have h2 : 0 ≤ x % 18446744073709551616 := by omega
  rw [e, Int.tmod_eq_emod_of_nonneg h2]
  have h3 : 0 ≤ x % 18446744073709551616 % (n : Int) := Int.emod_nonneg _ (by omega)
  have h4 : x % 18446744073709551616 % (n : Int) < n := Int.emod_lt_of_pos _ (by omega)
  generalize x % 18446744073709551616 % (n : Int) = y at h3 h4 ⊢
  exact ⟨y.toNat, by omega, by rw [w64 (by omega) (by omega)]; omega⟩
theorem toList_ne {l m : List UInt8} (h : l ≠ m) : ((bs l).toList == (bs m).toList) = false := by
  rw [bs_toList, bs_toList, beq_eq_false_iff_ne]; exact h
theorem fmt_may {c b : Nat} (h : Fmt c b) : descantref13_FormatMay.f (c : Int) (b : Int) = some true := by
  rw [fmay_f, decide_eq_true]
  obtain ⟨hc, hb⟩ := h
  omega
theorem unlike_walk (s : ByteArray) (c b at' by' : Int) (W : World) (hs : s.size ≤ 140737488351232) (hc : (Lit.int .i64 c).wf = true) (hb : (Lit.int .i64 b).wf = true) (ha : (Lit.int .i64 at').wf = true) (hy : (Lit.int .i64 by').wf = true) (htw : TW W) :
    Calls Tryz.prog 8 #[.string s, .agg #[.int .i64 c, .int .i64 b], .int .i64 at', .int .i64 by'] W fun e w' => e = .returned (.bool true) ∧ Below W.heap.size W w' := by
  by_cases hm : (c = 1 ∨ c = 2) ∧ (b = 8 ∨ b = 16)
  · obtain ⟨c', b', rfl, rfl, hf⟩ := fmt_of hm
    have es : s = bs s.data.toList := (bs_of s).symm
    by_cases h : Frm s.data.toList c' b'
    · have hfs := hf.fs
      have hfew := h.few
      obtain ⟨k, hk, hk2⟩ := at_mod h.ne (by omega) at'
      obtain ⟨hF, hne⟩ := unlike_put h hk (x := (1 + by' % 128).toNat) (by omega) (by omega)
      rw [es]
      exact unlike_yes s.data.toList _ _ c' b' at' by' k (1 + by' % 128).toNat W htw (fun W hW => segment_Put.calls 20200 _ _ _ _ _ W (put_yes h (Nat.le_refl _)) hW) (fun W hW => segment_Put.calls 20200 _ _ _ _ _ W (put_yes hF (Nat.le_refl _)) hW)
        (fun W => descantref13_FormatMay.calls c' b' true W (fmt_may hf)) h.ne (by omega) hk hk2 (by omega) (toList_ne hne.symm)
    · exact unlike_no s c' b' at' by' W 2200 (by decide) htw (fun W hW => segment_Put.calls 20200 _ _ _ _ _ W (by rw [es]; exact put_no hf h (Nat.le_refl _)) hW)
  · exact unlike_no s c b at' by' W 2200 (by decide) htw (fun W hW => segment_Put.calls 20200 _ _ _ _ _ W (put_bad hm s (by omega)) hW)
end Go.Proofs.YtbapmfghipcebaaGreatDoor.S
end
