/- Texts of this claim, put together: BackF, AwakeW, KindsW, PureF, PureK. -/
import Derived.Test.YtbapmfghipcebaaGreatDoorB3
section
/- What is put comes back, where it was not coded. -/
set_option linter.unusedVariables false
set_option linter.unusedSimpArgs false
namespace Go.Proofs.YtbapmfghipcebaaGreatDoor.S
open Go Go.RowKit Go.Proofs Go.Proofs.YtbapmfghipcebaaGreatDoorW.PrintWords Go.Proofs.YtbapmfghipcebaaGreatDoorW.PrintLast Go.Proofs.YtbapmfghipcebaaGreatDoorW.PrintMore
open Dsc (bs samp1 samp2 samplesOf samples16 chans evens odds Fmt Frm fsize byteN low)

theorem told_parts (kind by' many : Nat) (own : List UInt8) (ho : own.length < 65536) :
    (Dsc.told kind by' many own).getD 0 0 = byteN kind ∧ (Dsc.told kind by' many own).getD 1 0 = byteN by' ∧ (Dsc.told kind by' many own).getD 2 0 = byteN many ∧ sizeG (Dsc.told kind by' many own) = own.length ∧ sumG (Dsc.told kind by' many own) = true ∧
    ((Dsc.told kind by' many own).take (5 + own.length)).drop 5 = own := by
  have hl := Dsc.told_length kind by' many own
  have hh := Dsc.headOf_length kind by' many own
  have e1 : Dsc.told kind by' many own = byteN kind :: byteN by' :: byteN many :: byteN own.length :: byteN (own.length / 256) :: (own ++ low (Dsc.crcN (Dsc.headOf kind by' many own)) 4) := by
    simp [Dsc.told, Dsc.headOf, low]
  refine ⟨by rw [e1]; rfl, by rw [e1]; rfl, by rw [e1]; rfl, ?_, ?_, ?_⟩
  · unfold sizeG
    rw [e1]
    simp only [List.take_succ_cons, List.drop_succ_cons, List.drop_zero, List.take_zero, unlow, Dsc.byteN_val]
    omega
  · unfold sumG
    have ht : (Dsc.told kind by' many own).take ((Dsc.told kind by' many own).length - 4) = Dsc.headOf kind by' many own := by
      rw [hl, show 9 + own.length - 4 = (Dsc.headOf kind by' many own).length by omega]
      unfold Dsc.told
      rw [List.take_left]
    have hd : (Dsc.told kind by' many own).drop ((Dsc.told kind by' many own).length - 4) = low (Dsc.crcN (Dsc.headOf kind by' many own)) 4 := by
      rw [hl, show 9 + own.length - 4 = (Dsc.headOf kind by' many own).length by omega]
      unfold Dsc.told
      rw [List.drop_left]
    rw [ht, hd, unlow_low 4 _ (Dsc.crcN_lt _)]
    simp
  · rw [e1, show 5 + own.length = own.length + 1 + 1 + 1 + 1 + 1 by omega]
    simp only [List.take_succ_cons, List.drop_succ_cons, List.drop_zero]
    rw [List.take_left]
theorem kindOf_own {l : List UInt8} {c b : Nat} (h : Frm l c b) : (Dsc.kindOf l c b).2.2.length ≤ l.length ∧ (Dsc.kindOf l c b).1 ≤ 2 ∧ (Dsc.kindOf l c b).2.1 ≤ 15 := by
  have hfs := h.fmt.fs
  unfold Dsc.kindOf
  split
  · exact ⟨by show (l.take _).length ≤ _; rw [List.length_take]; omega, by show 2 ≤ 2; omega, by show 0 ≤ 15; omega⟩
  · split
    · rename_i hlt
      exact ⟨Nat.le_of_lt hlt, by show 1 ≤ 2; omega, Dsc.wasteAll_le _⟩
    · exact ⟨Nat.le_refl _, by show 0 ≤ 2; omega, by show 0 ≤ 15; omega⟩
theorem kind_raw {l : List UInt8} {c b : Nat} (h : (Dsc.kindOf l c b).1 = 0) : (Dsc.kindOf l c b).2.2 = l := by
  unfold Dsc.kindOf at h ⊢
  split
  · rename_i hc; rw [if_pos hc] at h; cases h
  · rename_i hc
    rw [if_neg hc] at h
    split
    · rename_i hc2; rw [if_pos hc2] at h; cases h
    · rfl
theorem kind_const {l : List UInt8} {c b : Nat} (h : (Dsc.kindOf l c b).1 = 2) : Dsc.isConst l (fsize c b) = true ∧ (Dsc.kindOf l c b).2.2 = l.take (fsize c b) := by
  unfold Dsc.kindOf at h ⊢
  split
  · rename_i hc; exact ⟨hc, rfl⟩
  · rename_i hc
    rw [if_neg hc] at h
    split at h <;> cases h
/-- What stands in a put segment, seen by Get. -/
theorem get_put {l : List UInt8} {c b : Nat} (h : Frm l c b) {k : Nat} :
    segment_Get.f k (bs (Dsc.putSeg l c b)) c b = (openG k (Dsc.kindOf l c b).1 (bs (Dsc.kindOf l c b).2.2) c b (Dsc.kindOf l c b).2.1 (l.length / fsize c b)).bind fun d => endG k (bs (Dsc.putSeg l c b)) c b d := by
  have hfs := h.fmt.fs
  obtain ⟨h1, h2, h3⟩ := kindOf_own h
  have hfew := h.few
  obtain ⟨-, -, hq⟩ := frm_chs h
  unfold Dsc.putSeg
  generalize Dsc.kindOf l c b = K at *
  obtain ⟨kind, by', own⟩ := K
  simp only at h1 h2 h3 ⊢
  generalize l.length / fsize c b = many at *
  obtain ⟨p0, p1, p2, p3, p4, p5⟩ := told_parts kind by' many own (by omega)
  have hl := Dsc.told_length kind by' many own
  have hf := h.fmt
  have v0 : (byteN kind).toNat = kind := by rw [Dsc.byteN_val]; omega
  have v1 : (byteN by').toNat = by' := by rw [Dsc.byteN_val]; omega
  have v2 : (byteN many).toNat = many := by rw [Dsc.byteN_val]; omega
  unfold segment_Get.f
  rw [if_neg (by have := hf.c; have := hf.b; omega), bs_size, if_neg (by omega), if_neg (by omega), bs_data, p3, if_neg (by omega), p4, if_neg (by simp), p2, v2, if_neg (by omega), p0, p1, v0, v1, bs_extract, p5]
theorem end_back {l : List UInt8} {c b : Nat} (h : Frm l c b) {k : Nat} (hk : 20200 ≤ k) : endG k (bs (Dsc.putSeg l c b)) c b (bs l) = some (bs l, 0) := by
  unfold endG
  rw [put_yes h hk, Option.bind_some]
  simp
theorem get_back {l : List UInt8} {c b : Nat} (h : Frm l c b) (hn : (Dsc.kindOf l c b).1 ≠ 1) {k : Nat} (hk : 20200 ≤ k) : segment_Get.f k (bs (Dsc.putSeg l c b)) c b = some (bs l, 0) := by
  obtain ⟨h1, h2, h3⟩ := kindOf_own h
  have hfs := h.fmt.fs
  have hfew := h.few
  have hne := h.ne
  obtain ⟨-, -, hq⟩ := frm_chs h
  rw [get_put h]
  unfold openG
  rw [if_neg hn]
  by_cases h2' : (Dsc.kindOf l c b).1 = 2
  · obtain ⟨hc, ho⟩ := kind_const h2'
    rw [if_pos h2', ho]
    have hr : strings_Repeat.f (bs (l.take (fsize c b))) ((l.length / fsize c b : Nat) : Int) = some (bs l) := by
      have hs : (bs (l.take (fsize c b))).size ≤ 4 := by rw [bs_size, List.length_take]; omega
      unfold strings_Repeat.f
      have e : l = (List.replicate (l.length / fsize c b) (l.take (fsize c b))).flatten := by unfold Dsc.isConst at hc; simpa using hc
      generalize l.length / fsize c b = q at *
      have hm : (bs (l.take (fsize c b))).size * q ≤ 4 * 64 := Nat.mul_le_mul hs hq
      rw [Int.toNat_natCast, if_pos ⟨by omega, by omega, by omega⟩, bs_data, repeatL_eq, ← e]
      rfl
    rw [hr, Option.bind_some]
    exact end_back h hk
  · rw [if_neg h2', kind_raw (by omega), Option.bind_some]
    exact end_back h hk
end Go.Proofs.YtbapmfghipcebaaGreatDoor.S
end
section
/- The walk of descantlaw22.awake. -/
set_option linter.unusedVariables false
set_option linter.unusedSimpArgs false
namespace Go.Proofs.YtbapmfghipcebaaGreatDoor.S
open Go Go.RowKit Go.Proofs Go.Proofs.YtbapmfghipcebaaGreatDoorW.PrintWords
open Dsc (bs Fmt Frm)

theorem frm5 : Frm [5, 0, 5, 0, 5, 0] 1 16 := ⟨⟨.inl rfl, .inr rfl⟩, by decide, by decide, by decide⟩
theorem frm7 : Frm [5, 0, 255, 127] 1 16 := ⟨⟨.inl rfl, .inr rfl⟩, by decide, by decide, by decide⟩
theorem seg5 : Dsc.putSeg [5, 0, 5, 0, 5, 0] 1 16 = Dsc.told 2 0 3 [5, 0] := by
  have h : Dsc.isConst [5, 0, 5, 0, 5, 0] (Dsc.fsize 1 16) = true := by decide +kernel
  unfold Dsc.putSeg Dsc.kindOf
  rw [if_pos h]
  rfl
theorem kind5 : (Dsc.kindOf [5, 0, 5, 0, 5, 0] 1 16).1 ≠ 1 := by
  have h : Dsc.isConst [5, 0, 5, 0, 5, 0] (Dsc.fsize 1 16) = true := by decide +kernel
  unfold Dsc.kindOf
  rw [if_pos h]
  decide
theorem coded_least (chs : List (List Int)) (h : ∀ r ∈ Dsc.lputs (Dsc.sideP (Dsc.lowsOf (Dsc.wasteAll chs) chs)), -16777216 ≤ r ∧ r ≤ 16777216) : 4 ≤ (Dsc.codedOf chs).length := (Dsc.rput_length h).1
theorem lputs_bd {sides : List (List Int)} {n : Nat} (h : Chs sides n) : ∀ r ∈ Dsc.lputs sides, -16777216 ≤ r ∧ r ≤ 16777216 := by
  intro r hr
  unfold Dsc.lputs at hr
  rw [List.mem_flatMap] at hr
  obtain ⟨xs, hx, hr⟩ := hr
  have := (lput_facts (h.bd xs hx)).2 r hr
  omega
theorem coded_ge {l : List UInt8} {c b : Nat} (h : Frm l c b) : 4 ≤ (Dsc.codedOf (Dsc.chans c (Dsc.samplesOf b l))).length := by
  obtain ⟨h1, h2, h3⟩ := frm_chs h
  refine coded_least _ (lputs_bd (sideP_chs (h1.lows _) ?_))
  intro xs hx x hxx
  obtain ⟨ys, hy, rfl⟩ := List.mem_map.1 hx
  obtain ⟨y, hy2, rfl⟩ := List.mem_map.1 hxx
  exact div_bd (by decide) (h2 ys hy y hy2)
theorem kind7 : (Dsc.kindOf [5, 0, 255, 127] 1 16).1 ≠ 1 := by
  have h : Dsc.isConst [5, 0, 255, 127] (Dsc.fsize 1 16) = false := by decide +kernel
  have h2 := coded_ge frm7
  unfold Dsc.kindOf
  rw [if_neg (by rw [h]; decide), if_neg (by show ¬ _ < 4; omega)]
  decide
theorem seg5_sum : sumG (1 :: (Dsc.told 2 0 3 [5, 0]).drop 1) = false := by decide +kernel
theorem seg5_size : sizeG (1 :: (Dsc.told 2 0 3 [5, 0]).drop 1) = 2 := by decide +kernel
theorem seg5_size1 : sizeG ((Dsc.told 2 0 3 [5, 0]).drop 1) = 1280 := by decide +kernel
theorem awake_get1 (k : Nat) : segment_Get.f k (bs (1 :: (Dsc.told 2 0 3 [5, 0]).drop 1)) ((1 : Nat) : Int) ((16 : Nat) : Int) = some (⟨#[]⟩, 2201) := by
  have hl := Dsc.told_length 2 0 3 [5, 0]
  have hl2 : (1 :: (Dsc.told 2 0 3 [5, 0]).drop 1).length = 11 := by rw [List.length_cons, List.length_drop, hl]; rfl
  unfold segment_Get.f
  rw [if_neg (by omega), bs_size, hl2, if_neg (by omega), if_neg (by omega), bs_data, seg5_size, if_neg (by omega), if_pos seg5_sum]
theorem awake_get2 (k : Nat) : segment_Get.f k (bs ((Dsc.told 2 0 3 [5, 0]).drop 1)) ((1 : Nat) : Int) ((16 : Nat) : Int) = some (⟨#[]⟩, 2200) := by
  have hl := Dsc.told_length 2 0 3 [5, 0]
  have hl2 : ((Dsc.told 2 0 3 [5, 0]).drop 1).length = 10 := by rw [List.length_drop, hl]; rfl
  unfold segment_Get.f
  rw [if_neg (by omega), bs_size, hl2, if_neg (by omega), if_neg (by omega), bs_data, seg5_size1, if_pos (by omega)]
def fmtV : Value := .agg #[.int .i64 1, .int .i64 16]
set_option maxRecDepth 100000 in
set_option maxHeartbeats 2000000 in
theorem awake_any (w : World) (htw : TW w) : Calls Tryz.prog 11 #[] w fun e w' => e = .returned (.bool true) ∧ Below w.heap.size w w' := by
  have HT := Lib.hid htw
  have P5 := Lib.hid (fun W hW => by have := segment_Put.calls 20200 _ _ _ _ _ W (put_yes frm5 (Nat.le_refl _)) hW; rw [seg5] at this; exact this)
  have P7 := Lib.hid (fun W hW => segment_Put.calls 20200 _ _ _ _ _ W (put_yes frm7 (Nat.le_refl _)) hW)
  have P0 := Lib.hid (fun W hW => segment_Put.calls 20200 _ _ _ _ _ W (put_no (l := []) frm5.fmt (fun h => absurd h.ne (by decide)) (Nat.le_refl _)) hW)
  have G5 := Lib.hid (fun W hW => by have := segment_Get.calls 20200 _ _ _ _ _ W (get_back frm5 kind5 (Nat.le_refl _)) hW; rw [seg5] at this; exact this)
  have G7 := Lib.hid (fun W hW => segment_Get.calls 20200 _ _ _ _ _ W (get_back frm7 kind7 (Nat.le_refl _)) hW)
  have G1 := Lib.hid (fun W hW => segment_Get.calls 20200 _ _ _ _ _ W (awake_get1 20200) hW)
  have G2 := Lib.hid (fun W hW => segment_Get.calls 20200 _ _ _ _ _ W (awake_get2 20200) hW)
  have z : (bs (1 :: (Dsc.told 2 0 3 [5, 0]).drop 1)) = ⟨#[1]⟩ ++ (bs (Dsc.told 2 0 3 [5, 0])).extract 1 (bs (Dsc.told 2 0 3 [5, 0])).size := by
    rw [bs_extract, bs_size, List.take_length]
    exact (bs_append [1] _).symm
  have z2 : bs ((Dsc.told 2 0 3 [5, 0]).drop 1) = (bs (Dsc.told 2 0 3 [5, 0])).extract 1 (bs (Dsc.told 2 0 3 [5, 0])).size := by
    rw [bs_extract, bs_size, List.take_length]
  rw [z] at G1
  rw [z2] at G2
  have a1 : (bs (Dsc.told 2 0 3 [5, 0])).size = 11 := by rw [bs_size, Dsc.told_length]; rfl
  have a2 : ((bs (Dsc.told 2 0 3 [5, 0])).extract 0 7).toList = [2, 0, 3, 2, 0, 5, 0] := by
    rw [bs_extract, bs_toList]; rfl
  rw [a1] at G1 G2
  generalize bs (Dsc.told 2 0 3 [5, 0]) = A at *
  generalize bs (Dsc.putSeg [5, 0, 255, 127] 1 16) = B at *
  clear z z2
  have P5' := Lib.hid (show ∀ W, TW W → Calls Tryz.prog 12 #[.string ⟨#[5, 0, 5, 0, 5, 0]⟩, .agg #[.int .i64 1, .int .i64 16]] W fun e w' => e = .returned (.tuple #[.string A, .int .i64 0]) ∧ Below W.heap.size W w' from P5.out)
  have P7' := Lib.hid (show ∀ W, TW W → Calls Tryz.prog 12 #[.string ⟨#[5, 0, 255, 127]⟩, .agg #[.int .i64 1, .int .i64 16]] W fun e w' => e = .returned (.tuple #[.string B, .int .i64 0]) ∧ Below W.heap.size W w' from P7.out)
  have P0' := Lib.hid (show ∀ W, TW W → Calls Tryz.prog 12 #[.string ⟨#[]⟩, .agg #[.int .i64 1, .int .i64 16]] W fun e w' => e = .returned (.tuple #[.string ⟨#[]⟩, .int .i64 2200]) ∧ Below W.heap.size W w' from P0.out)
  have G5' := Lib.hid (show ∀ W, TW W → Calls Tryz.prog 14 #[.string A, .agg #[.int .i64 1, .int .i64 16]] W fun e w' => e = .returned (.tuple #[.string ⟨#[5, 0, 5, 0, 5, 0]⟩, .int .i64 0]) ∧ Below W.heap.size W w' from G5.out)
  have G7' := Lib.hid (show ∀ W, TW W → Calls Tryz.prog 14 #[.string B, .agg #[.int .i64 1, .int .i64 16]] W fun e w' => e = .returned (.tuple #[.string ⟨#[5, 0, 255, 127]⟩, .int .i64 0]) ∧ Below W.heap.size W w' from G7.out)
  have G1' := Lib.hid (show ∀ W, TW W → Calls Tryz.prog 14 #[.string (⟨#[1]⟩ ++ A.extract 1 11), .agg #[.int .i64 1, .int .i64 16]] W fun e w' => e = .returned (.tuple #[.string ⟨#[]⟩, .int .i64 2201]) ∧ Below W.heap.size W w' from G1.out)
  have G2' := Lib.hid (show ∀ W, TW W → Calls Tryz.prog 14 #[.string (A.extract 1 11), .agg #[.int .i64 1, .int .i64 16]] W fun e w' => e = .returned (.tuple #[.string ⟨#[]⟩, .int .i64 2200]) ∧ Below W.heap.size W w' from G2.out)
  have NM := Lib.hid (fun (x : Int) W => descantlaw0_Num.calls x x W rfl)
  have CR := Lib.hid (show ∀ W, Calls Tryz.prog 16 #[.string ⟨#[]⟩] W fun e w' => e = .returned (.int .i64 0) ∧ Below W.heap.size W w' from fun W => descantref1_Crc.calls ⟨#[]⟩ 0 W (by decide +kernel))
  clear P5 P7 P0 G5 G7 G1 G2 htw
  have a1i : ((A.size : Int) != 11) = false := by rw [a1]; rfl
  go_enter Tryz.func11, Tryz.ntmps11
  go_wp2_with fail
  have K0 := Lib.hid (Dsc.Blk.new w 23 #[.int .i64 1, .int .i64 16])
  have B0 := Lib.hid (show Below w.heap.size w (w.alloc (.cells #[.int .i64 1, .int .i64 16] 23)) by go_grown)
  refine (P5'.out _ (HT.out.of_ B0.out)).mono ?_
  rintro e w1 ⟨rfl, hb⟩
  have K1 := Lib.hid (K0.out.kept hb)
  have B1 := Lib.hid (Dsc.below_then B0.out B0.out.size hb)
  clear hb K0 B0
  have kc0 := K1.out.cell 0
  have kc1 := K1.out.cell 1
  simp at kc0 kc1
  go_wp2_with fail
  refine (G5'.out _ (HT.out.of_ B1.out)).mono ?_
  rintro e w2 ⟨rfl, hb⟩
  have K2 := Lib.hid (K1.out.kept hb)
  have B2 := Lib.hid (Dsc.below_then B1.out B1.out.size hb)
  clear hb K1 B1
  clear kc0 kc1
  have kc0 := K2.out.cell 0
  have kc1 := K2.out.cell 1
  simp at kc0 kc1
  go_wp2_with fail
  refine (P7'.out _ (HT.out.of_ B2.out)).mono ?_
  rintro e w3 ⟨rfl, hb⟩
  have K3 := Lib.hid (K2.out.kept hb)
  have B3 := Lib.hid (Dsc.below_then B2.out B2.out.size hb)
  clear hb K2 B2
  clear kc0 kc1
  have kc0 := K3.out.cell 0
  have kc1 := K3.out.cell 1
  simp at kc0 kc1
  go_wp2_with fail
  refine (G7'.out _ (HT.out.of_ B3.out)).mono ?_
  rintro e w4 ⟨rfl, hb⟩
  have K4 := Lib.hid (K3.out.kept hb)
  have B4 := Lib.hid (Dsc.below_then B3.out B3.out.size hb)
  clear hb K3 B3
  clear kc0 kc1
  have kc0 := K4.out.cell 0
  have kc1 := K4.out.cell 1
  simp at kc0 kc1
  go_wp2_with fail
  refine (P0'.out _ (HT.out.of_ B4.out)).mono ?_
  rintro e w5 ⟨rfl, hb⟩
  have K5 := Lib.hid (K4.out.kept hb)
  have B5 := Lib.hid (Dsc.below_then B4.out B4.out.size hb)
  clear hb K4 B4
  clear kc0 kc1
  have kc0 := K5.out.cell 0
  have kc1 := K5.out.cell 1
  simp at kc0 kc1
  go_wp2_with fail
  refine Dsc.wp_region_any_drew (by kernel_rfl) ?_
  refine wpAny_take (i := 0) (v := .string A) rfl (by decide +kernel) (by decide +kernel) (by decide +kernel) (fun _ _ _ h => h) (Or.inl ⟨by rfl, fun w => by rfl⟩) ?_
  try simp only [Act.put, Array.toArray_toList, List.getElem_toArray, List.getElem_cons_zero, List.getElem_cons_succ, List.setIfInBounds_toArray, List.set_cons_zero, List.set_cons_succ]
  refine wpAny_take (i := 1) (v := .string (A.extract 1 11)) rfl (by decide +kernel) (by decide +kernel) (by decide +kernel) (fun _ _ _ h => h) (Or.inl ⟨by rfl, fun w => by go_simp⟩) ?_
  try simp only [Act.put, Array.toArray_toList, List.getElem_toArray, List.getElem_cons_zero, List.getElem_cons_succ, List.setIfInBounds_toArray, List.set_cons_zero, List.set_cons_succ]
  refine wpAny_take (i := 2) (v := .string (⟨#[1]⟩ ++ A.extract 1 11)) rfl (by decide +kernel) (by decide +kernel) (by decide +kernel) (fun _ _ _ h => h) (Or.inl ⟨by rfl, fun w => by go_simp⟩) ?_
  try simp only [Act.put, Array.toArray_toList, List.getElem_toArray, List.getElem_cons_zero, List.getElem_cons_succ, List.setIfInBounds_toArray, List.set_cons_zero, List.set_cons_succ]
  refine wpAny_all (rs := [3]) (by decide +kernel) (by simp) ?_
  intro i hi
  obtain rfl : i = 3 := by simpa using hi
  clear hi
  refine Dsc.wpOp_value (w' := w5.drew) (v := .agg #[.int .i64 1, .int .i64 16]) rfl (by rfl) (by go_simp) ?_
  try simp only [Act.put, Array.toArray_toList, List.getElem_toArray, List.getElem_cons_zero, List.getElem_cons_succ, List.setIfInBounds_toArray, List.set_cons_zero, List.set_cons_succ]
  refine wpAny_all (rs := [4]) (by decide +kernel) (by simp) ?_
  intro i hi
  obtain rfl : i = 4 := by simpa using hi
  clear hi
  refine Dsc.wpOp_gen rfl (by rfl) ?_
  intro K' hK'
  go_simp
  refine (G1'.out _ (HT.out.of_ B5.out.drew)).mono ?_
  rintro e w6 ⟨rfl, hb⟩
  have K6 := Lib.hid (K5.out.drew.kept hb)
  have B6 := Lib.hid (Dsc.below_then B5.out.drew B5.out.size hb)
  clear hb K5 B5
  refine hK' _ _ ?_
  clear hK'
  try simp only [Act.put, Array.toArray_toList, List.getElem_toArray, List.getElem_cons_zero, List.getElem_cons_succ, List.setIfInBounds_toArray, List.set_cons_zero, List.set_cons_succ]
  refine wpAny_take (i := 5) (v := .tuple #[.string ⟨#[]⟩, .int .i64 2201]) rfl (by decide +kernel) (by decide +kernel) (by decide +kernel) (fun _ _ _ h => h) (Or.inl ⟨by rfl, fun w => by rfl⟩) ?_
  try simp only [Act.put, Array.toArray_toList, List.getElem_toArray, List.getElem_cons_zero, List.getElem_cons_succ, List.setIfInBounds_toArray, List.set_cons_zero, List.set_cons_succ]
  refine wpAny_take (i := 6) (v := .string ⟨#[]⟩) rfl (by decide +kernel) (by decide +kernel) (by decide +kernel) (fun _ _ _ h => h) (Or.inl ⟨by rfl, fun w => by rfl⟩) ?_
  try simp only [Act.put, Array.toArray_toList, List.getElem_toArray, List.getElem_cons_zero, List.getElem_cons_succ, List.setIfInBounds_toArray, List.set_cons_zero, List.set_cons_succ]
  refine wpAny_take (i := 7) (v := .int .i64 2201) rfl (by decide +kernel) (by decide +kernel) (by decide +kernel) (fun _ _ _ h => h) (Or.inl ⟨by rfl, fun w => by rfl⟩) ?_
  try simp only [Act.put, Array.toArray_toList, List.getElem_toArray, List.getElem_cons_zero, List.getElem_cons_succ, List.setIfInBounds_toArray, List.set_cons_zero, List.set_cons_succ]
  refine wpAny_take (i := 8) (v := .string ⟨#[]⟩) rfl (by decide +kernel) (by decide +kernel) (by decide +kernel) (fun _ _ _ h => h) (Or.inl ⟨by rfl, fun w => by rfl⟩) ?_
  try simp only [Act.put, Array.toArray_toList, List.getElem_toArray, List.getElem_cons_zero, List.getElem_cons_succ, List.setIfInBounds_toArray, List.set_cons_zero, List.set_cons_succ]
  refine wpAny_take (i := 9) (v := .int .i64 2201) rfl (by decide +kernel) (by decide +kernel) (by decide +kernel) (fun _ _ _ h => h) (Or.inl ⟨by rfl, fun w => by rfl⟩) ?_
  try simp only [Act.put, Array.toArray_toList, List.getElem_toArray, List.getElem_cons_zero, List.getElem_cons_succ, List.setIfInBounds_toArray, List.set_cons_zero, List.set_cons_succ]
  refine wpAny_done (by decide +kernel) ?_ _
  clear kc0 kc1
  have kc0 := K6.out.cell 0
  have kc1 := K6.out.cell 1
  simp at kc0 kc1
  go_wp2_with fail
  refine Dsc.wp_region_any_drew (by kernel_rfl) ?_
  refine wpAny_take (i := 0) (v := .string A) rfl (by decide +kernel) (by decide +kernel) (by decide +kernel) (fun _ _ _ h => h) (Or.inl ⟨by rfl, fun w => by rfl⟩) ?_
  try simp only [Act.put, Array.toArray_toList, List.getElem_toArray, List.getElem_cons_zero, List.getElem_cons_succ, List.setIfInBounds_toArray, List.set_cons_zero, List.set_cons_succ]
  refine wpAny_take (i := 1) (v := .string (A.extract 1 11)) rfl (by decide +kernel) (by decide +kernel) (by decide +kernel) (fun _ _ _ h => h) (Or.inl ⟨by rfl, fun w => by go_simp⟩) ?_
  try simp only [Act.put, Array.toArray_toList, List.getElem_toArray, List.getElem_cons_zero, List.getElem_cons_succ, List.setIfInBounds_toArray, List.set_cons_zero, List.set_cons_succ]
  refine wpAny_all (rs := [2]) (by decide +kernel) (by simp) ?_
  intro i hi
  obtain rfl : i = 2 := by simpa using hi
  clear hi
  refine Dsc.wpOp_value (w' := w6.drew) (v := .agg #[.int .i64 1, .int .i64 16]) rfl (by rfl) (by go_simp) ?_
  try simp only [Act.put, Array.toArray_toList, List.getElem_toArray, List.getElem_cons_zero, List.getElem_cons_succ, List.setIfInBounds_toArray, List.set_cons_zero, List.set_cons_succ]
  refine wpAny_all (rs := [3]) (by decide +kernel) (by simp) ?_
  intro i hi
  obtain rfl : i = 3 := by simpa using hi
  clear hi
  refine Dsc.wpOp_gen rfl (by rfl) ?_
  intro K' hK'
  go_simp
  refine (G2'.out _ (HT.out.of_ B6.out.drew)).mono ?_
  rintro e w7 ⟨rfl, hb⟩
  have K7 := Lib.hid (K6.out.drew.kept hb)
  have B7 := Lib.hid (Dsc.below_then B6.out.drew B6.out.size hb)
  clear hb K6 B6
  refine hK' _ _ ?_
  clear hK'
  try simp only [Act.put, Array.toArray_toList, List.getElem_toArray, List.getElem_cons_zero, List.getElem_cons_succ, List.setIfInBounds_toArray, List.set_cons_zero, List.set_cons_succ]
  refine wpAny_take (i := 4) (v := .tuple #[.string ⟨#[]⟩, .int .i64 2200]) rfl (by decide +kernel) (by decide +kernel) (by decide +kernel) (fun _ _ _ h => h) (Or.inl ⟨by rfl, fun w => by rfl⟩) ?_
  try simp only [Act.put, Array.toArray_toList, List.getElem_toArray, List.getElem_cons_zero, List.getElem_cons_succ, List.setIfInBounds_toArray, List.set_cons_zero, List.set_cons_succ]
  refine wpAny_take (i := 5) (v := .string ⟨#[]⟩) rfl (by decide +kernel) (by decide +kernel) (by decide +kernel) (fun _ _ _ h => h) (Or.inl ⟨by rfl, fun w => by rfl⟩) ?_
  try simp only [Act.put, Array.toArray_toList, List.getElem_toArray, List.getElem_cons_zero, List.getElem_cons_succ, List.setIfInBounds_toArray, List.set_cons_zero, List.set_cons_succ]
  refine wpAny_take (i := 6) (v := .int .i64 2200) rfl (by decide +kernel) (by decide +kernel) (by decide +kernel) (fun _ _ _ h => h) (Or.inl ⟨by rfl, fun w => by rfl⟩) ?_
  try simp only [Act.put, Array.toArray_toList, List.getElem_toArray, List.getElem_cons_zero, List.getElem_cons_succ, List.setIfInBounds_toArray, List.set_cons_zero, List.set_cons_succ]
  refine wpAny_take (i := 7) (v := .string ⟨#[]⟩) rfl (by decide +kernel) (by decide +kernel) (by decide +kernel) (fun _ _ _ h => h) (Or.inl ⟨by rfl, fun w => by rfl⟩) ?_
  try simp only [Act.put, Array.toArray_toList, List.getElem_toArray, List.getElem_cons_zero, List.getElem_cons_succ, List.setIfInBounds_toArray, List.set_cons_zero, List.set_cons_succ]
  refine wpAny_take (i := 8) (v := .int .i64 2200) rfl (by decide +kernel) (by decide +kernel) (by decide +kernel) (fun _ _ _ h => h) (Or.inl ⟨by rfl, fun w => by rfl⟩) ?_
  try simp only [Act.put, Array.toArray_toList, List.getElem_toArray, List.getElem_cons_zero, List.getElem_cons_succ, List.setIfInBounds_toArray, List.set_cons_zero, List.set_cons_succ]
  refine wpAny_done (by decide +kernel) ?_ _
  clear kc0 kc1
  go_wp2_with (first | (go_at_call 13; refine (NM.out _ _).mono ?_; rintro e w' ⟨rfl, ⟨n, hn⟩⟩; subst hn) | (go_at_call 16; refine (CR.out _).mono ?_; rintro e w8 ⟨rfl, hb8⟩; have B8 := Lib.hid hb8; clear hb8))
  go_ret
  exact ⟨rfl, Dsc.below_then (w1 := w7.drewN _) (Dsc.below_drewN B7.out _) B7.out.size B8.out⟩
def descantlaw22_awake.f : Option Bool := some true
theorem descantlaw22_awake.calls (r : Bool) (w : World) (h : descantlaw22_awake.f = some r) (htw : TW w) :
    Calls Tryz.prog 11 #[] w fun e w' => e = .returned (.bool r) ∧ Below w.heap.size w w' := by
  cases h
  exact awake_any w htw
end Go.Proofs.YtbapmfghipcebaaGreatDoor.S
end
section
/- The walk of SegmentKinds. -/
set_option linter.unusedVariables false
set_option linter.unusedSimpArgs false
namespace Go.Proofs.YtbapmfghipcebaaGreatDoor.S
open Go Go.RowKit Go.Proofs Go.Proofs.YtbapmfghipcebaaGreatDoorW.PrintWords
open Dsc (bs Fmt Frm fsize)

theorem kinds_no (s : ByteArray) (c b : Int) (w : World) (er : Int) (he : er ≠ 0) (htw : TW w) (hp : ∀ W, TW W → Calls Tryz.prog 12 #[.string s, .agg #[.int .i64 c, .int .i64 b]] W fun e w' => e = .returned (.tuple #[.string ⟨#[]⟩, .int .i64 er]) ∧ Below W.heap.size W w') :
    Calls Tryz.prog 6 #[.string s, .agg #[.int .i64 c, .int .i64 b]] w fun e w' => e = .returned (.bool true) ∧ Below w.heap.size w w' := by
  have HA := Lib.hid (fun W hW => awake_any W hW)
  have HP := Lib.hid hp
  have HT := Lib.hid htw
  have NM := Lib.hid (fun (x : Int) W => descantlaw0_Num.calls x x W rfl)
  have b1 : (er != 0) = true := by simpa using he
  clear hp htw he
  go_enter Tryz.func6, Tryz.ntmps6
  go_wp2_with fail
  have K0 := Lib.hid (Dsc.Blk.new w 23 #[.int .i64 c, .int .i64 b])
  have B0 := Lib.hid (show Below w.heap.size w (w.alloc (.cells #[.int .i64 c, .int .i64 b] 23)) by go_grown)
  refine (HA.out _ (HT.out.of_ B0.out)).mono ?_
  rintro e w1 ⟨rfl, hb⟩
  have K1 := Lib.hid (K0.out.kept hb)
  have B1 := Lib.hid (Dsc.below_then B0.out B0.out.size hb)
  clear hb K0 B0
  have kc0 := K1.out.cell 0
  have kc1 := K1.out.cell 1
  simp at kc0 kc1
  go_wp2_with fail
  refine (HP.out _ (HT.out.of_ B1.out)).mono ?_
  rintro e w2 ⟨rfl, hb⟩
  have B2 := Lib.hid (Dsc.below_then B1.out B1.out.size hb)
  clear hb kc0 kc1
  go_wp2_with (go_at_call 13; refine (NM.out _ _).mono ?_; rintro e w' ⟨rfl, ⟨n, hn⟩⟩; subst hn)
  go_ret
  exact ⟨by simp [ByteArray.toList_eq], Dsc.below_drewN B2.out _⟩
set_option maxRecDepth 100000 in
set_option maxHeartbeats 2000000 in
theorem kinds_yes (s t own : ByteArray) (c b fs n kind by' many b3 b4 : Int) (w : World) (htw : TW w) (hp : ∀ W, TW W → Calls Tryz.prog 12 #[.string s, .agg #[.int .i64 c, .int .i64 b]] W fun e w' => e = .returned (.tuple #[.string t, .int .i64 0]) ∧ Below W.heap.size W w')
    (hf : ∀ W, Calls Tryz.prog 17 #[.agg #[.int .i64 c, .int .i64 b]] W fun e w' => e = .returned (.bool true) ∧ Below W.heap.size W w')
    (hs : s.size ≤ 4096) (ht : (t.size : Int) = 9 + n) (n0 : 0 ≤ n) (n1 : n ≤ 4096) (hfs : wrap64 ((wrap64 (c * b)).tdiv 8) = fs) (f1 : 1 ≤ fs) (f4 : fs ≤ 4)
    (x0 : ∀ h : 0 < t.size, ((t[0]'h).toNat : Int) = kind) (x1 : ∀ h : 1 < t.size, ((t[1]'h).toNat : Int) = by') (x2 : ∀ h : 2 < t.size, ((t[2]'h).toNat : Int) = many) (x3 : ∀ h : 3 < t.size, ((t[3]'h).toNat : Int) = b3) (x4 : ∀ h : 4 < t.size, ((t[4]'h).toNat : Int) = b4)
    (m0 : 0 ≤ many) (m1 : many ≤ 255) (y0 : 0 ≤ by') (y1 : by' ≤ 15) (z3 : 0 ≤ b3) (z3' : b3 ≤ 255) (z4 : 0 ≤ b4) (z4' : b4 ≤ 255) (hb : b3 + 256 * b4 = n) (hm : many * fs = (s.size : Int)) (ho : t.extract 5 (t.size - 4) = own) (hon : (own.size : Int) = n)
    (hk : (kind = 0 ∧ by' = 0 ∧ own.toList = s.toList) ∨ (kind = 1 ∧ own.size < s.size) ∨ (kind = 2 ∧ by' = 0 ∧ own.toList = (s.extract 0 fs.toNat).toList ∧ fs ≤ (s.size : Int))) :
    Calls Tryz.prog 6 #[.string s, .agg #[.int .i64 c, .int .i64 b]] w fun e w' => e = .returned (.bool true) ∧ Below w.heap.size w w' := by
  have HA := Lib.hid (fun W hW => awake_any W hW)
  have HP := Lib.hid hp
  have HF := Lib.hid hf
  have HT := Lib.hid htw
  have NM := Lib.hid (fun (x : Int) W => descantlaw0_Num.calls x x W rfl)
  have HS := Lib.hid ht
  have e45 : ((t.size : Int) - 4).toNat = t.size - 4 := by omega
  have a0 : (0 : Int) < (t.size : Int) := by omega
  have a1 : (1 : Int) < (t.size : Int) := by omega
  have a2 : (2 : Int) < (t.size : Int) := by omega
  have a3 : (3 : Int) < (t.size : Int) := by omega
  have a4 : (4 : Int) < (t.size : Int) := by omega
  have a5 : (5 : Int) ≤ (t.size : Int) - 4 := by omega
  have a9 : decide ((t.size : Int) < 9) = false := by simp; omega
  have a9' : decide (t.size < 9) = false := by simp; omega
  have q1 : (IntKind.i64.wrap (IntKind.i64.wrap many * fs) != (s.size : Int)) = false := by
    have e1 : IntKind.i64.wrap many = many := by rw [IntKind.wrap_i64]; omega
    have e2 : IntKind.i64.wrap (many * fs) = many * fs := by rw [IntKind.wrap_i64]; omega
    rw [e1, e2, hm]; simp
  have q2 : (IntKind.i64.wrap (IntKind.i64.wrap b3 + IntKind.i64.wrap (256 * IntKind.i64.wrap b4)) != (own.size : Int)) = false := by
    have e1 : IntKind.i64.wrap b3 = b3 := by rw [IntKind.wrap_i64]; omega
    have e2 : IntKind.i64.wrap b4 = b4 := by rw [IntKind.wrap_i64]; omega
    have e3 : IntKind.i64.wrap (256 * b4) = 256 * b4 := by rw [IntKind.wrap_i64]; omega
    have e4 : IntKind.i64.wrap (b3 + 256 * b4) = b3 + 256 * b4 := by rw [IntKind.wrap_i64]; omega
    rw [e1, e2, e3, e4, hb, hon]; simp
  have q3 : decide (15 < by') = false := by simp; omega
  have bts : t.size ≤ 5000 := by omega
  clear hp htw hf ht hm
  have HK := Lib.hid hk
  have HB := Lib.hid hb
  have HON := Lib.hid hon
  clear hk hb hon
  go_enter Tryz.func6, Tryz.ntmps6
  go_wp2_with fail
  have K0 := Lib.hid (Dsc.Blk.new w 23 #[.int .i64 c, .int .i64 b])
  have B0 := Lib.hid (show Below w.heap.size w (w.alloc (.cells #[.int .i64 c, .int .i64 b] 23)) by go_grown)
  refine (HA.out _ (HT.out.of_ B0.out)).mono ?_
  rintro e w1 ⟨rfl, hb⟩
  have K1 := Lib.hid (K0.out.kept hb)
  have B1 := Lib.hid (Dsc.below_then B0.out B0.out.size hb)
  clear hb K0 B0
  have kc0 := K1.out.cell 0
  have kc1 := K1.out.cell 1
  simp at kc0 kc1
  go_wp2_with fail
  refine (HP.out _ (HT.out.of_ B1.out)).mono ?_
  rintro e w2 ⟨rfl, hb⟩
  have B2 := Lib.hid (Dsc.below_then B1.out B1.out.size hb)
  have K2 := Lib.hid (K1.out.kept hb)
  clear hb kc0 kc1 K1 B1
  have kc0 := K2.out.cell 0
  have kc1 := K2.out.cell 1
  simp at kc0 kc1
  go_wp2_with fail
  refine (NM.out _ _).mono ?_
  rintro e w3 ⟨rfl, ⟨nn, hn⟩⟩
  subst hn
  go_wp2_with fail
  refine (HF.out _).mono ?_
  rintro e w3 ⟨rfl, hb⟩
  have B3 := Lib.hid (Dsc.below_then (w1 := w2.drewN nn) (Dsc.below_drewN B2.out nn) B2.out.size hb)
  have K3 := Lib.hid ((K2.out.drewN nn).kept hb)
  clear hb kc0 kc1 K2 B2
  have kc0 := K3.out.cell 0
  have kc1 := K3.out.cell 1
  simp at kc0 kc1
  go_wp2_with fail
  rcases HK.out with ⟨rfl, rfl, h1⟩ | ⟨rfl, h1⟩ | ⟨rfl, rfl, h1, h2⟩
  · have h1' : (own.toList == s.toList) = true := by rw [h1]; simp
    clear h1
    go_quiet (fail)
    go_wp2
    go_quiet (fail)
    go_wp2
    go_ret
    exact ⟨rfl, Dsc.below_drewN B3.out _⟩
  · have h1' : decide ((own.size : Int) < (s.size : Int)) = true := by simp; omega
    have h1'' : decide (own.size < s.size) = true := by simp; omega
    clear h1
    go_quiet (fail)
    go_wp2
    go_quiet (fail)
    go_wp2
    go_ret
    exact ⟨rfl, Dsc.below_drewN B3.out _⟩
  · have h1' : (own.toList == (s.extract 0 fs.toNat).toList) = true := by rw [h1]; simp
    have h0 : (0 : Int) ≤ fs := by omega
    clear h1
    go_quiet (fail)
    go_wp2
    go_quiet (fail)
    go_wp2
    go_ret
    exact ⟨rfl, Dsc.below_drewN B3.out _⟩
end Go.Proofs.YtbapmfghipcebaaGreatDoor.S
end
section
/- Formats that may be. -/
set_option linter.unusedVariables false
set_option linter.unusedSimpArgs false
namespace Go.Proofs.YtbapmfghipcebaaGreatDoor.S
open Go Go.RowKit Go.Proofs Go.Proofs.YtbapmfghipcebaaGreatDoorW.PrintWords
open Dsc (bs Fmt Frm fsize)

theorem fmay_f (c b : Int) : descantref13_FormatMay.f c b = some (decide ((c = 1 ∨ c = 2) ∧ (b = 8 ∨ b = 16))) := by
  unfold descantref13_FormatMay.f descantref13_upTo.f
  repeat' split
  all_goals first
    | (rw [Option.bind_some]; split <;> (try split) <;> (congr 1; rw [Bool.eq_iff_iff]; simp_all; try omega))
    | (congr 1; rw [Bool.eq_iff_iff]; simp_all; try omega)
theorem fmt_of {c b : Int} (h : (c = 1 ∨ c = 2) ∧ (b = 8 ∨ b = 16)) : ∃ c' b' : Nat, c = c' ∧ b = b' ∧ Fmt c' b' := ⟨c.toNat, b.toNat, by omega, by omega, ⟨by omega, by omega⟩⟩
end Go.Proofs.YtbapmfghipcebaaGreatDoor.S
end
section
/- The plain law of SegmentKinds. -/
set_option linter.unusedVariables false
set_option linter.unusedSimpArgs false
namespace Go.Proofs.YtbapmfghipcebaaGreatDoor.S
open Go Go.RowKit Go.Proofs Go.Proofs.YtbapmfghipcebaaGreatDoorW.PrintWords
open Dsc (bs Fmt Frm fsize byteN low)

theorem bs_get (l : List UInt8) (i : Nat) (h : i < (bs l).size) : (bs l)[i]'h = l.getD i 0 := by
  have h' : i < l.length := by rw [bs_size] at h; exact h
  rw [List.getD_eq_getElem?_getD, List.getElem?_eq_getElem h', Option.getD_some]
  simp [bs, ByteArray.getElem_eq_getElem_data]
theorem sizeG_two (L : List UInt8) (h : 5 ≤ L.length) : sizeG L = (L.getD 3 0).toNat + 256 * (L.getD 4 0).toNat := by
  match L, h with
  | a :: b :: c :: d :: e :: r, _ => simp [sizeG, unlow]
theorem kind_cases (l : List UInt8) (c b : Nat) : ((Dsc.kindOf l c b).1 = 0 ∧ (Dsc.kindOf l c b).2.1 = 0 ∧ (Dsc.kindOf l c b).2.2 = l) ∨ ((Dsc.kindOf l c b).1 = 1 ∧ (Dsc.kindOf l c b).2.2.length < l.length) ∨ ((Dsc.kindOf l c b).1 = 2 ∧ (Dsc.kindOf l c b).2.1 = 0 ∧ (Dsc.kindOf l c b).2.2 = l.take (fsize c b)) := by
  unfold Dsc.kindOf
  split
  · exact .inr (.inr ⟨rfl, rfl, rfl⟩)
  · split
    · rename_i h; exact .inr (.inl ⟨rfl, h⟩)
    · exact .inl ⟨rfl, rfl, rfl⟩
theorem fs_walk {c b : Nat} (hf : Fmt c b) : wrap64 (Int.tdiv (wrap64 ((c : Int) * (b : Int))) 8) = (fsize c b : Nat) := by
  obtain ⟨h1, h2⟩ := hf
  rcases h1 with rfl | rfl <;> rcases h2 with rfl | rfl <;> decide +kernel
theorem kinds_frm {l : List UInt8} {c b : Nat} (h : Frm l c b) (W : World) (htw : TW W) :
    Calls Tryz.prog 6 #[.string (bs l), .agg #[.int .i64 c, .int .i64 b]] W fun e w' => e = .returned (.bool true) ∧ Below W.heap.size W w' := by
  have hf := h.fmt.fs
  have hfew := h.few
  have hne := h.ne
  obtain ⟨ho, h1, h2⟩ := kindOf_own h
  obtain ⟨-, -, hq⟩ := frm_chs h
  have hm := Nat.div_add_mod l.length (fsize c b)
  rw [h.whole, Nat.add_zero] at hm
  have hlen : (Dsc.putSeg l c b).length = 9 + (Dsc.kindOf l c b).2.2.length := Dsc.told_length _ _ _ _
  obtain ⟨t0, t1, t2, t3, -, t4⟩ := told_parts (Dsc.kindOf l c b).1 (Dsc.kindOf l c b).2.1 (l.length / fsize c b) (Dsc.kindOf l c b).2.2 (by omega)
  have t5 : sizeG (Dsc.putSeg l c b) = (Dsc.kindOf l c b).2.2.length := t3
  rw [sizeG_two _ (by omega)] at t5
  have hmay : descantref13_FormatMay.f (c : Int) (b : Int) = some true := by
    rw [fmay_f, decide_eq_true]
    obtain ⟨hc, hb⟩ := h.fmt
    omega
  have z3 := ((Dsc.putSeg l c b).getD 3 0).toNat_lt
  have z4 := ((Dsc.putSeg l c b).getD 4 0).toNat_lt
  refine kinds_yes (bs l) (bs (Dsc.putSeg l c b)) (bs (Dsc.kindOf l c b).2.2) c b (fsize c b : Nat) ((Dsc.kindOf l c b).2.2.length : Nat) ((Dsc.kindOf l c b).1 : Nat) ((Dsc.kindOf l c b).2.1 : Nat) ((l.length / fsize c b : Nat) : Int) (((Dsc.putSeg l c b).getD 3 0).toNat : Int) (((Dsc.putSeg l c b).getD 4 0).toNat : Int) W htw
    (fun W hW => segment_Put.calls 20200 _ _ _ _ _ W (put_yes h (Nat.le_refl _)) hW)
    (fun W => descantref13_FormatMay.calls c b true W hmay)
    (by rw [bs_size]; omega) (by rw [bs_size, hlen]; omega) (by omega) (by omega) (fs_walk h.fmt) (by omega) (by omega)
    (fun hi => ?x0) (fun hi => ?x1) (fun hi => ?x2) (fun hi => by rw [bs_get]) (fun hi => by rw [bs_get])
    (Int.natCast_nonneg _) (Int.le_trans (Int.ofNat_le.2 hq) (by decide)) (by omega) (by omega) (by omega) (by omega) (by omega) (by omega) (by omega) ?hm ?ho (by rw [bs_size]) ?hk
  case x0 =>
    rw [bs_get]
    show ((((Dsc.putSeg l c b).getD 0 0).toNat : Nat) : Int) = _
    unfold Dsc.putSeg
    rw [t0, Dsc.byteN_val]; omega
  case x1 =>
    rw [bs_get]
    show ((((Dsc.putSeg l c b).getD 1 0).toNat : Nat) : Int) = _
    unfold Dsc.putSeg
    rw [t1, Dsc.byteN_val]; omega
  case x2 =>
    rw [bs_get]
    show ((((Dsc.putSeg l c b).getD 2 0).toNat : Nat) : Int) = _
    unfold Dsc.putSeg
    rw [t2, Dsc.byteN_val, Nat.mod_eq_of_lt (Nat.lt_of_le_of_lt hq (by decide))]
  case hm => rw [bs_size, ← Int.natCast_mul, Nat.mul_comm, hm]
  case ho =>
    rw [bs_extract, bs_size, hlen, show 9 + (Dsc.kindOf l c b).2.2.length - 4 = 5 + (Dsc.kindOf l c b).2.2.length by omega]
    exact congrArg bs t4
  case hk =>
    rcases kind_cases l c b with ⟨e1, e2, e3⟩ | ⟨e1, e2⟩ | ⟨e1, e2, e3⟩
    · exact .inl ⟨by rw [e1]; rfl, by rw [e2]; rfl, by rw [e3]⟩
    · exact .inr (.inl ⟨by rw [e1]; rfl, by rw [bs_size, bs_size]; exact e2⟩)
    · refine .inr (.inr ⟨by rw [e1]; rfl, by rw [e2]; rfl, ?_, ?_⟩)
      · rw [Int.toNat_natCast, bs_extract, List.drop_zero, e3]
      · rw [bs_size]
        have := Nat.le_of_dvd hne (Nat.dvd_of_mod_eq_zero h.whole)
        omega
theorem kinds_walk (s : ByteArray) (c b : Int) (W : World) (hs : s.size ≤ 140737488351232) (hc : (Lit.int .i64 c).wf = true) (hb : (Lit.int .i64 b).wf = true) (htw : TW W) :
    Calls Tryz.prog 6 #[.string s, .agg #[.int .i64 c, .int .i64 b]] W fun e w' => e = .returned (.bool true) ∧ Below W.heap.size W w' := by
  by_cases hm : (c = 1 ∨ c = 2) ∧ (b = 8 ∨ b = 16)
  · obtain ⟨c', b', rfl, rfl, hf⟩ := fmt_of hm
    have es : s = bs s.data.toList := (bs_of s).symm
    by_cases h : Frm s.data.toList c' b'
    · rw [es]; exact kinds_frm h W htw
    · exact kinds_no s c' b' W 2200 (by decide) htw (fun W hW => segment_Put.calls 20200 _ _ _ _ _ W (by rw [es]; exact put_no hf h (Nat.le_refl _)) hW)
  · exact kinds_no s c b W 2200 (by decide) htw (fun W hW => segment_Put.calls 20200 _ _ _ _ _ W (put_bad hm s (by omega)) hW)
end Go.Proofs.YtbapmfghipcebaaGreatDoor.S
end
