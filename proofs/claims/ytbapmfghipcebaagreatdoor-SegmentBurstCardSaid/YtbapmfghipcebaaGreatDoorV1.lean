/- Texts of this claim, put together: BackF, AwakeW, BytesW, PureF, BurstP, BurstW, PureV. -/
import Derived.Test.YtbapmfghipcebaaGreatDoorB3
import Derived.Lib.ConvBytes
section
/- What is put comes back, where it was not coded. -/
set_option linter.unusedVariables false
set_option linter.unusedSimpArgs false
namespace Go.Proofs.YtbapmfghipcebaaGreatDoor.S
open Go Go.RowKit Go.Proofs Go.Proofs.YtbapmfghipcebaaGreatDoorW.PrintWords Go.Proofs.YtbapmfghipcebaaGreatDoorW.PrintLast Go.Proofs.YtbapmfghipcebaaGreatDoorW.PrintMore
open Dsc (bs samp1 samp2 samplesOf samples16 chans evens odds Fmt Frm fsize byteN low)

theorem told_parts (kind by' many : Nat) (own : List UInt8) (ho : own.length < 65536) :
    (Dsc.told kind by' many own).getD 0 0 = byteN kind ∧ (Dsc.told kind by' many own).getD 1 0 = byteN by' ∧ (Dsc.told kind by' many own).getD 2 0 = byteN many ∧ sizeG (Dsc.told kind by' many own) = own.length ∧ sumG (Dsc.told kind by' many own) = true ∧
    ((Dsc.told kind by' many own).take (5 + own.length)).drop 5 = own := by
  have hl := Dsc.told_length kind by' many own
  have hh := Dsc.headOf_length kind by' many own
  have e1 : Dsc.told kind by' many own = byteN kind :: byteN by' :: byteN many :: byteN own.length :: byteN (own.length / 256) :: (own ++ low (Dsc.crcN (Dsc.headOf kind by' many own)) 4) := by
    simp [Dsc.told, Dsc.headOf, low]
  refine ⟨by rw [e1]; rfl, by rw [e1]; rfl, by rw [e1]; rfl, ?_, ?_, ?_⟩
  · unfold sizeG
    rw [e1]
    simp only [List.take_succ_cons, List.drop_succ_cons, List.drop_zero, List.take_zero, unlow, Dsc.byteN_val]
    omega
  · unfold sumG
    have ht : (Dsc.told kind by' many own).take ((Dsc.told kind by' many own).length - 4) = Dsc.headOf kind by' many own := by
      rw [hl, show 9 + own.length - 4 = (Dsc.headOf kind by' many own).length by omega]
      unfold Dsc.told
      rw [List.take_left]
    have hd : (Dsc.told kind by' many own).drop ((Dsc.told kind by' many own).length - 4) = low (Dsc.crcN (Dsc.headOf kind by' many own)) 4 := by
      rw [hl, show 9 + own.length - 4 = (Dsc.headOf kind by' many own).length by omega]
      unfold Dsc.told
      rw [List.drop_left]
    rw [ht, hd, unlow_low 4 _ (Dsc.crcN_lt _)]
    simp
  · rw [e1, show 5 + own.length = own.length + 1 + 1 + 1 + 1 + 1 by omega]
    simp only [List.take_succ_cons, List.drop_succ_cons, List.drop_zero]
    rw [List.take_left]
theorem kindOf_own {l : List UInt8} {c b : Nat} (h : Frm l c b) : (Dsc.kindOf l c b).2.2.length ≤ l.length ∧ (Dsc.kindOf l c b).1 ≤ 2 ∧ (Dsc.kindOf l c b).2.1 ≤ 15 := by
  have hfs := h.fmt.fs
  unfold Dsc.kindOf
  split
  · exact ⟨by show (l.take _).length ≤ _; rw [List.length_take]; omega, by show 2 ≤ 2; omega, by show 0 ≤ 15; omega⟩
  · split
    · rename_i hlt
      exact ⟨Nat.le_of_lt hlt, by show 1 ≤ 2; omega, Dsc.wasteAll_le _⟩
    · exact ⟨Nat.le_refl _, by show 0 ≤ 2; omega, by show 0 ≤ 15; omega⟩
theorem kind_raw {l : List UInt8} {c b : Nat} (h : (Dsc.kindOf l c b).1 = 0) : (Dsc.kindOf l c b).2.2 = l := by
  unfold Dsc.kindOf at h ⊢
  split
  · rename_i hc; rw [if_pos hc] at h; cases h
  · rename_i hc
    rw [if_neg hc] at h
    split
    · rename_i hc2; rw [if_pos hc2] at h; cases h
    · rfl
theorem kind_const {l : List UInt8} {c b : Nat} (h : (Dsc.kindOf l c b).1 = 2) : Dsc.isConst l (fsize c b) = true ∧ (Dsc.kindOf l c b).2.2 = l.take (fsize c b) := by
  unfold Dsc.kindOf at h ⊢
  split
  · rename_i hc; exact ⟨hc, rfl⟩
  · rename_i hc
    rw [if_neg hc] at h
    split at h <;> cases h
/-- What stands in a put segment, seen by Get. -/
theorem get_put {l : List UInt8} {c b : Nat} (h : Frm l c b) {k : Nat} :
    segment_Get.f k (bs (Dsc.putSeg l c b)) c b = (openG k (Dsc.kindOf l c b).1 (bs (Dsc.kindOf l c b).2.2) c b (Dsc.kindOf l c b).2.1 (l.length / fsize c b)).bind fun d => endG k (bs (Dsc.putSeg l c b)) c b d := by
  have hfs := h.fmt.fs
  obtain ⟨h1, h2, h3⟩ := kindOf_own h
  have hfew := h.few
  obtain ⟨-, -, hq⟩ := frm_chs h
  unfold Dsc.putSeg
  generalize Dsc.kindOf l c b = K at *
  obtain ⟨kind, by', own⟩ := K
  simp only at h1 h2 h3 ⊢
  generalize l.length / fsize c b = many at *
  obtain ⟨p0, p1, p2, p3, p4, p5⟩ := told_parts kind by' many own (by omega)
  have hl := Dsc.told_length kind by' many own
  have hf := h.fmt
  have v0 : (byteN kind).toNat = kind := by rw [Dsc.byteN_val]; omega
  have v1 : (byteN by').toNat = by' := by rw [Dsc.byteN_val]; omega
  have v2 : (byteN many).toNat = many := by rw [Dsc.byteN_val]; omega
  unfold segment_Get.f
  rw [if_neg (by have := hf.c; have := hf.b; omega), bs_size, if_neg (by omega), if_neg (by omega), bs_data, p3, if_neg (by omega), p4, if_neg (by simp), p2, v2, if_neg (by omega), p0, p1, v0, v1, bs_extract, p5]
theorem end_back {l : List UInt8} {c b : Nat} (h : Frm l c b) {k : Nat} (hk : 20200 ≤ k) : endG k (bs (Dsc.putSeg l c b)) c b (bs l) = some (bs l, 0) := by
  unfold endG
  rw [put_yes h hk, Option.bind_some]
  simp
theorem get_back {l : List UInt8} {c b : Nat} (h : Frm l c b) (hn : (Dsc.kindOf l c b).1 ≠ 1) {k : Nat} (hk : 20200 ≤ k) : segment_Get.f k (bs (Dsc.putSeg l c b)) c b = some (bs l, 0) := by
  obtain ⟨h1, h2, h3⟩ := kindOf_own h
  have hfs := h.fmt.fs
  have hfew := h.few
  have hne := h.ne
  obtain ⟨-, -, hq⟩ := frm_chs h
  rw [get_put h]
  unfold openG
  rw [if_neg hn]
  by_cases h2' : (Dsc.kindOf l c b).1 = 2
  · obtain ⟨hc, ho⟩ := kind_const h2'
    rw [if_pos h2', ho]
    have hr : strings_Repeat.f (bs (l.take (fsize c b))) ((l.length / fsize c b : Nat) : Int) = some (bs l) := by
      have hs : (bs (l.take (fsize c b))).size ≤ 4 := by rw [bs_size, List.length_take]; omega
      unfold strings_Repeat.f
      have e : l = (List.replicate (l.length / fsize c b) (l.take (fsize c b))).flatten := by unfold Dsc.isConst at hc; simpa using hc
      generalize l.length / fsize c b = q at *
      have hm : (bs (l.take (fsize c b))).size * q ≤ 4 * 64 := Nat.mul_le_mul hs hq
      rw [Int.toNat_natCast, if_pos ⟨by omega, by omega, by omega⟩, bs_data, repeatL_eq, ← e]
      rfl
    rw [hr, Option.bind_some]
    exact end_back h hk
  · rw [if_neg h2', kind_raw (by omega), Option.bind_some]
    exact end_back h hk
end Go.Proofs.YtbapmfghipcebaaGreatDoor.S
end
section
/- The walk of descantlaw22.awake. -/
set_option linter.unusedVariables false
set_option linter.unusedSimpArgs false
namespace Go.Proofs.YtbapmfghipcebaaGreatDoor.S
open Go Go.RowKit Go.Proofs Go.Proofs.YtbapmfghipcebaaGreatDoorW.PrintWords
open Dsc (bs Fmt Frm)

theorem frm5 : Frm [5, 0, 5, 0, 5, 0] 1 16 := ⟨⟨.inl rfl, .inr rfl⟩, by decide, by decide, by decide⟩
theorem frm7 : Frm [5, 0, 255, 127] 1 16 := ⟨⟨.inl rfl, .inr rfl⟩, by decide, by decide, by decide⟩
theorem seg5 : Dsc.putSeg [5, 0, 5, 0, 5, 0] 1 16 = Dsc.told 2 0 3 [5, 0] := by
  have h : Dsc.isConst [5, 0, 5, 0, 5, 0] (Dsc.fsize 1 16) = true := by decide +kernel
  unfold Dsc.putSeg Dsc.kindOf
  rw [if_pos h]
  rfl
theorem kind5 : (Dsc.kindOf [5, 0, 5, 0, 5, 0] 1 16).1 ≠ 1 := by
  have h : Dsc.isConst [5, 0, 5, 0, 5, 0] (Dsc.fsize 1 16) = true := by decide +kernel
  unfold Dsc.kindOf
  rw [if_pos h]
  decide
theorem coded_least (chs : List (List Int)) (h : ∀ r ∈ Dsc.lputs (Dsc.sideP (Dsc.lowsOf (Dsc.wasteAll chs) chs)), -16777216 ≤ r ∧ r ≤ 16777216) : 4 ≤ (Dsc.codedOf chs).length := (Dsc.rput_length h).1
theorem lputs_bd {sides : List (List Int)} {n : Nat} (h : Chs sides n) : ∀ r ∈ Dsc.lputs sides, -16777216 ≤ r ∧ r ≤ 16777216 := by
  intro r hr
  unfold Dsc.lputs at hr
  rw [List.mem_flatMap] at hr
  obtain ⟨xs, hx, hr⟩ := hr
  have := (lput_facts (h.bd xs hx)).2 r hr
  omega
theorem coded_ge {l : List UInt8} {c b : Nat} (h : Frm l c b) : 4 ≤ (Dsc.codedOf (Dsc.chans c (Dsc.samplesOf b l))).length := by
  obtain ⟨h1, h2, h3⟩ := frm_chs h
  refine coded_least _ (lputs_bd (sideP_chs (h1.lows _) ?_))
  intro xs hx x hxx
  obtain ⟨ys, hy, rfl⟩ := List.mem_map.1 hx
  obtain ⟨y, hy2, rfl⟩ := List.mem_map.1 hxx
  exact div_bd (by decide) (h2 ys hy y hy2)
theorem kind7 : (Dsc.kindOf [5, 0, 255, 127] 1 16).1 ≠ 1 := by
  have h : Dsc.isConst [5, 0, 255, 127] (Dsc.fsize 1 16) = false := by decide +kernel
  have h2 := coded_ge frm7
  unfold Dsc.kindOf
  rw [if_neg (by rw [h]; decide), if_neg (by show ¬ _ < 4; omega)]
  decide
theorem seg5_sum : sumG (1 :: (Dsc.told 2 0 3 [5, 0]).drop 1) = false := by decide +kernel
theorem seg5_size : sizeG (1 :: (Dsc.told 2 0 3 [5, 0]).drop 1) = 2 := by decide +kernel
theorem seg5_size1 : sizeG ((Dsc.told 2 0 3 [5, 0]).drop 1) = 1280 := by decide +kernel
theorem awake_get1 (k : Nat) : segment_Get.f k (bs (1 :: (Dsc.told 2 0 3 [5, 0]).drop 1)) ((1 : Nat) : Int) ((16 : Nat) : Int) = some (⟨#[]⟩, 2201) := by
  have hl := Dsc.told_length 2 0 3 [5, 0]
  have hl2 : (1 :: (Dsc.told 2 0 3 [5, 0]).drop 1).length = 11 := by rw [List.length_cons, List.length_drop, hl]; rfl
  unfold segment_Get.f
  rw [if_neg (by omega), bs_size, hl2, if_neg (by omega), if_neg (by omega), bs_data, seg5_size, if_neg (by omega), if_pos seg5_sum]
theorem awake_get2 (k : Nat) : segment_Get.f k (bs ((Dsc.told 2 0 3 [5, 0]).drop 1)) ((1 : Nat) : Int) ((16 : Nat) : Int) = some (⟨#[]⟩, 2200) := by
  have hl := Dsc.told_length 2 0 3 [5, 0]
  have hl2 : ((Dsc.told 2 0 3 [5, 0]).drop 1).length = 10 := by rw [List.length_drop, hl]; rfl
  unfold segment_Get.f
  rw [if_neg (by omega), bs_size, hl2, if_neg (by omega), if_neg (by omega), bs_data, seg5_size1, if_pos (by omega)]
def fmtV : Value := .agg #[.int .i64 1, .int .i64 16]
set_option maxRecDepth 100000 in
set_option maxHeartbeats 2000000 in
theorem awake_any (w : World) (htw : TW w) : Calls Tryz.prog 11 #[] w fun e w' => e = .returned (.bool true) ∧ Below w.heap.size w w' := by
  have HT := Lib.hid htw
  have P5 := Lib.hid (fun W hW => by have := segment_Put.calls 20200 _ _ _ _ _ W (put_yes frm5 (Nat.le_refl _)) hW; rw [seg5] at this; exact this)
  have P7 := Lib.hid (fun W hW => segment_Put.calls 20200 _ _ _ _ _ W (put_yes frm7 (Nat.le_refl _)) hW)
  have P0 := Lib.hid (fun W hW => segment_Put.calls 20200 _ _ _ _ _ W (put_no (l := []) frm5.fmt (fun h => absurd h.ne (by decide)) (Nat.le_refl _)) hW)
  have G5 := Lib.hid (fun W hW => by have := segment_Get.calls 20200 _ _ _ _ _ W (get_back frm5 kind5 (Nat.le_refl _)) hW; rw [seg5] at this; exact this)
  have G7 := Lib.hid (fun W hW => segment_Get.calls 20200 _ _ _ _ _ W (get_back frm7 kind7 (Nat.le_refl _)) hW)
  have G1 := Lib.hid (fun W hW => segment_Get.calls 20200 _ _ _ _ _ W (awake_get1 20200) hW)
  have G2 := Lib.hid (fun W hW => segment_Get.calls 20200 _ _ _ _ _ W (awake_get2 20200) hW)
  have z : (bs (1 :: (Dsc.told 2 0 3 [5, 0]).drop 1)) = ⟨#[1]⟩ ++ (bs (Dsc.told 2 0 3 [5, 0])).extract 1 (bs (Dsc.told 2 0 3 [5, 0])).size := by
    rw [bs_extract, bs_size, List.take_length]
    exact (bs_append [1] _).symm
  have z2 : bs ((Dsc.told 2 0 3 [5, 0]).drop 1) = (bs (Dsc.told 2 0 3 [5, 0])).extract 1 (bs (Dsc.told 2 0 3 [5, 0])).size := by
    rw [bs_extract, bs_size, List.take_length]
  rw [z] at G1
  rw [z2] at G2
  have a1 : (bs (Dsc.told 2 0 3 [5, 0])).size = 11 := by rw [bs_size, Dsc.told_length]; rfl
  have a2 : ((bs (Dsc.told 2 0 3 [5, 0])).extract 0 7).toList = [2, 0, 3, 2, 0, 5, 0] := by
    rw [bs_extract, bs_toList]; rfl
  rw [a1] at G1 G2
  generalize bs (Dsc.told 2 0 3 [5, 0]) = A at *
  generalize bs (Dsc.putSeg [5, 0, 255, 127] 1 16) = B at *
  clear z z2
  have P5' := Lib.hid (show ∀ W, TW W → Calls Tryz.prog 12 #[.string ⟨#[5, 0, 5, 0, 5, 0]⟩, .agg #[.int .i64 1, .int .i64 16]] W fun e w' => e = .returned (.tuple #[.string A, .int .i64 0]) ∧ Below W.heap.size W w' from P5.out)
  have P7' := Lib.hid (show ∀ W, TW W → Calls Tryz.prog 12 #[.string ⟨#[5, 0, 255, 127]⟩, .agg #[.int .i64 1, .int .i64 16]] W fun e w' => e = .returned (.tuple #[.string B, .int .i64 0]) ∧ Below W.heap.size W w' from P7.out)
  have P0' := Lib.hid (show ∀ W, TW W → Calls Tryz.prog 12 #[.string ⟨#[]⟩, .agg #[.int .i64 1, .int .i64 16]] W fun e w' => e = .returned (.tuple #[.string ⟨#[]⟩, .int .i64 2200]) ∧ Below W.heap.size W w' from P0.out)
  have G5' := Lib.hid (show ∀ W, TW W → Calls Tryz.prog 14 #[.string A, .agg #[.int .i64 1, .int .i64 16]] W fun e w' => e = .returned (.tuple #[.string ⟨#[5, 0, 5, 0, 5, 0]⟩, .int .i64 0]) ∧ Below W.heap.size W w' from G5.out)
  have G7' := Lib.hid (show ∀ W, TW W → Calls Tryz.prog 14 #[.string B, .agg #[.int .i64 1, .int .i64 16]] W fun e w' => e = .returned (.tuple #[.string ⟨#[5, 0, 255, 127]⟩, .int .i64 0]) ∧ Below W.heap.size W w' from G7.out)
  have G1' := Lib.hid (show ∀ W, TW W → Calls Tryz.prog 14 #[.string (⟨#[1]⟩ ++ A.extract 1 11), .agg #[.int .i64 1, .int .i64 16]] W fun e w' => e = .returned (.tuple #[.string ⟨#[]⟩, .int .i64 2201]) ∧ Below W.heap.size W w' from G1.out)
  have G2' := Lib.hid (show ∀ W, TW W → Calls Tryz.prog 14 #[.string (A.extract 1 11), .agg #[.int .i64 1, .int .i64 16]] W fun e w' => e = .returned (.tuple #[.string ⟨#[]⟩, .int .i64 2200]) ∧ Below W.heap.size W w' from G2.out)
  have NM := Lib.hid (fun (x : Int) W => descantlaw0_Num.calls x x W rfl)
  have CR := Lib.hid (show ∀ W, Calls Tryz.prog 16 #[.string ⟨#[]⟩] W fun e w' => e = .returned (.int .i64 0) ∧ Below W.heap.size W w' from fun W => descantref1_Crc.calls ⟨#[]⟩ 0 W (by decide +kernel))
  clear P5 P7 P0 G5 G7 G1 G2 htw
  have a1i : ((A.size : Int) != 11) = false := by rw [a1]; rfl
  go_enter Tryz.func11, Tryz.ntmps11
  go_wp2_with fail
  have K0 := Lib.hid (Dsc.Blk.new w 23 #[.int .i64 1, .int .i64 16])
  have B0 := Lib.hid (show Below w.heap.size w (w.alloc (.cells #[.int .i64 1, .int .i64 16] 23)) by go_grown)
  refine (P5'.out _ (HT.out.of_ B0.out)).mono ?_
  rintro e w1 ⟨rfl, hb⟩
  have K1 := Lib.hid (K0.out.kept hb)
  have B1 := Lib.hid (Dsc.below_then B0.out B0.out.size hb)
  clear hb K0 B0
  have kc0 := K1.out.cell 0
  have kc1 := K1.out.cell 1
  simp at kc0 kc1
  go_wp2_with fail
  refine (G5'.out _ (HT.out.of_ B1.out)).mono ?_
  rintro e w2 ⟨rfl, hb⟩
  have K2 := Lib.hid (K1.out.kept hb)
  have B2 := Lib.hid (Dsc.below_then B1.out B1.out.size hb)
  clear hb K1 B1
  clear kc0 kc1
  have kc0 := K2.out.cell 0
  have kc1 := K2.out.cell 1
  simp at kc0 kc1
  go_wp2_with fail
  refine (P7'.out _ (HT.out.of_ B2.out)).mono ?_
  rintro e w3 ⟨rfl, hb⟩
  have K3 := Lib.hid (K2.out.kept hb)
  have B3 := Lib.hid (Dsc.below_then B2.out B2.out.size hb)
  clear hb K2 B2
  clear kc0 kc1
  have kc0 := K3.out.cell 0
  have kc1 := K3.out.cell 1
  simp at kc0 kc1
  go_wp2_with fail
  refine (G7'.out _ (HT.out.of_ B3.out)).mono ?_
  rintro e w4 ⟨rfl, hb⟩
  have K4 := Lib.hid (K3.out.kept hb)
  have B4 := Lib.hid (Dsc.below_then B3.out B3.out.size hb)
  clear hb K3 B3
  clear kc0 kc1
  have kc0 := K4.out.cell 0
  have kc1 := K4.out.cell 1
  simp at kc0 kc1
  go_wp2_with fail
  refine (P0'.out _ (HT.out.of_ B4.out)).mono ?_
  rintro e w5 ⟨rfl, hb⟩
  have K5 := Lib.hid (K4.out.kept hb)
  have B5 := Lib.hid (Dsc.below_then B4.out B4.out.size hb)
  clear hb K4 B4
  clear kc0 kc1
  have kc0 := K5.out.cell 0
  have kc1 := K5.out.cell 1
  simp at kc0 kc1
  go_wp2_with fail
  refine Dsc.wp_region_any_drew (by kernel_rfl) ?_
  refine wpAny_take (i := 0) (v := .string A) rfl (by decide +kernel) (by decide +kernel) (by decide +kernel) (fun _ _ _ h => h) (Or.inl ⟨by rfl, fun w => by rfl⟩) ?_
  try simp only [Act.put, Array.toArray_toList, List.getElem_toArray, List.getElem_cons_zero, List.getElem_cons_succ, List.setIfInBounds_toArray, List.set_cons_zero, List.set_cons_succ]
  refine wpAny_take (i := 1) (v := .string (A.extract 1 11)) rfl (by decide +kernel) (by decide +kernel) (by decide +kernel) (fun _ _ _ h => h) (Or.inl ⟨by rfl, fun w => by go_simp⟩) ?_
  try simp only [Act.put, Array.toArray_toList, List.getElem_toArray, List.getElem_cons_zero, List.getElem_cons_succ, List.setIfInBounds_toArray, List.set_cons_zero, List.set_cons_succ]
  refine wpAny_take (i := 2) (v := .string (⟨#[1]⟩ ++ A.extract 1 11)) rfl (by decide +kernel) (by decide +kernel) (by decide +kernel) (fun _ _ _ h => h) (Or.inl ⟨by rfl, fun w => by go_simp⟩) ?_
  try simp only [Act.put, Array.toArray_toList, List.getElem_toArray, List.getElem_cons_zero, List.getElem_cons_succ, List.setIfInBounds_toArray, List.set_cons_zero, List.set_cons_succ]
  refine wpAny_all (rs := [3]) (by decide +kernel) (by simp) ?_
  intro i hi
  obtain rfl : i = 3 := by simpa using hi
  clear hi
  refine Dsc.wpOp_value (w' := w5.drew) (v := .agg #[.int .i64 1, .int .i64 16]) rfl (by rfl) (by go_simp) ?_
  try simp only [Act.put, Array.toArray_toList, List.getElem_toArray, List.getElem_cons_zero, List.getElem_cons_succ, List.setIfInBounds_toArray, List.set_cons_zero, List.set_cons_succ]
  refine wpAny_all (rs := [4]) (by decide +kernel) (by simp) ?_
  intro i hi
  obtain rfl : i = 4 := by simpa using hi
  clear hi
  refine Dsc.wpOp_gen rfl (by rfl) ?_
  intro K' hK'
  go_simp
  refine (G1'.out _ (HT.out.of_ B5.out.drew)).mono ?_
  rintro e w6 ⟨rfl, hb⟩
  have K6 := Lib.hid (K5.out.drew.kept hb)
  have B6 := Lib.hid (Dsc.below_then B5.out.drew B5.out.size hb)
  clear hb K5 B5
  refine hK' _ _ ?_
  clear hK'
  try simp only [Act.put, Array.toArray_toList, List.getElem_toArray, List.getElem_cons_zero, List.getElem_cons_succ, List.setIfInBounds_toArray, List.set_cons_zero, List.set_cons_succ]
  refine wpAny_take (i := 5) (v := .tuple #[.string ⟨#[]⟩, .int .i64 2201]) rfl (by decide +kernel) (by decide +kernel) (by decide +kernel) (fun _ _ _ h => h) (Or.inl ⟨by rfl, fun w => by rfl⟩) ?_
  try simp only [Act.put, Array.toArray_toList, List.getElem_toArray, List.getElem_cons_zero, List.getElem_cons_succ, List.setIfInBounds_toArray, List.set_cons_zero, List.set_cons_succ]
  refine wpAny_take (i := 6) (v := .string ⟨#[]⟩) rfl (by decide +kernel) (by decide +kernel) (by decide +kernel) (fun _ _ _ h => h) (Or.inl ⟨by rfl, fun w => by rfl⟩) ?_
  try simp only [Act.put, Array.toArray_toList, List.getElem_toArray, List.getElem_cons_zero, List.getElem_cons_succ, List.setIfInBounds_toArray, List.set_cons_zero, List.set_cons_succ]
  refine wpAny_take (i := 7) (v := .int .i64 2201) rfl (by decide +kernel) (by decide +kernel) (by decide +kernel) (fun _ _ _ h => h) (Or.inl ⟨by rfl, fun w => by rfl⟩) ?_
  try simp only [Act.put, Array.toArray_toList, List.getElem_toArray, List.getElem_cons_zero, List.getElem_cons_succ, List.setIfInBounds_toArray, List.set_cons_zero, List.set_cons_succ]
  refine wpAny_take (i := 8) (v := .string ⟨#[]⟩) rfl (by decide +kernel) (by decide +kernel) (by decide +kernel) (fun _ _ _ h => h) (Or.inl ⟨by rfl, fun w => by rfl⟩) ?_
  try simp only [Act.put, Array.toArray_toList, List.getElem_toArray, List.getElem_cons_zero, List.getElem_cons_succ, List.setIfInBounds_toArray, List.set_cons_zero, List.set_cons_succ]
  refine wpAny_take (i := 9) (v := .int .i64 2201) rfl (by decide +kernel) (by decide +kernel) (by decide +kernel) (fun _ _ _ h => h) (Or.inl ⟨by rfl, fun w => by rfl⟩) ?_
  try simp only [Act.put, Array.toArray_toList, List.getElem_toArray, List.getElem_cons_zero, List.getElem_cons_succ, List.setIfInBounds_toArray, List.set_cons_zero, List.set_cons_succ]
  refine wpAny_done (by decide +kernel) ?_ _
  clear kc0 kc1
  have kc0 := K6.out.cell 0
  have kc1 := K6.out.cell 1
  simp at kc0 kc1
  go_wp2_with fail
  refine Dsc.wp_region_any_drew (by kernel_rfl) ?_
  refine wpAny_take (i := 0) (v := .string A) rfl (by decide +kernel) (by decide +kernel) (by decide +kernel) (fun _ _ _ h => h) (Or.inl ⟨by rfl, fun w => by rfl⟩) ?_
  try simp only [Act.put, Array.toArray_toList, List.getElem_toArray, List.getElem_cons_zero, List.getElem_cons_succ, List.setIfInBounds_toArray, List.set_cons_zero, List.set_cons_succ]
  refine wpAny_take (i := 1) (v := .string (A.extract 1 11)) rfl (by decide +kernel) (by decide +kernel) (by decide +kernel) (fun _ _ _ h => h) (Or.inl ⟨by rfl, fun w => by go_simp⟩) ?_
  try simp only [Act.put, Array.toArray_toList, List.getElem_toArray, List.getElem_cons_zero, List.getElem_cons_succ, List.setIfInBounds_toArray, List.set_cons_zero, List.set_cons_succ]
  refine wpAny_all (rs := [2]) (by decide +kernel) (by simp) ?_
  intro i hi
  obtain rfl : i = 2 := by simpa using hi
  clear hi
  refine Dsc.wpOp_value (w' := w6.drew) (v := .agg #[.int .i64 1, .int .i64 16]) rfl (by rfl) (by go_simp) ?_
  try simp only [Act.put, Array.toArray_toList, List.getElem_toArray, List.getElem_cons_zero, List.getElem_cons_succ, List.setIfInBounds_toArray, List.set_cons_zero, List.set_cons_succ]
  refine wpAny_all (rs := [3]) (by decide +kernel) (by simp) ?_
  intro i hi
  obtain rfl : i = 3 := by simpa using hi
  clear hi
  refine Dsc.wpOp_gen rfl (by rfl) ?_
  intro K' hK'
  go_simp
  refine (G2'.out _ (HT.out.of_ B6.out.drew)).mono ?_
  rintro e w7 ⟨rfl, hb⟩
  have K7 := Lib.hid (K6.out.drew.kept hb)
  have B7 := Lib.hid (Dsc.below_then B6.out.drew B6.out.size hb)
  clear hb K6 B6
  refine hK' _ _ ?_
  clear hK'
  try simp only [Act.put, Array.toArray_toList, List.getElem_toArray, List.getElem_cons_zero, List.getElem_cons_succ, List.setIfInBounds_toArray, List.set_cons_zero, List.set_cons_succ]
  refine wpAny_take (i := 4) (v := .tuple #[.string ⟨#[]⟩, .int .i64 2200]) rfl (by decide +kernel) (by decide +kernel) (by decide +kernel) (fun _ _ _ h => h) (Or.inl ⟨by rfl, fun w => by rfl⟩) ?_
  try simp only [Act.put, Array.toArray_toList, List.getElem_toArray, List.getElem_cons_zero, List.getElem_cons_succ, List.setIfInBounds_toArray, List.set_cons_zero, List.set_cons_succ]
  refine wpAny_take (i := 5) (v := .string ⟨#[]⟩) rfl (by decide +kernel) (by decide +kernel) (by decide +kernel) (fun _ _ _ h => h) (Or.inl ⟨by rfl, fun w => by rfl⟩) ?_
  try simp only [Act.put, Array.toArray_toList, List.getElem_toArray, List.getElem_cons_zero, List.getElem_cons_succ, List.setIfInBounds_toArray, List.set_cons_zero, List.set_cons_succ]
  refine wpAny_take (i := 6) (v := .int .i64 2200) rfl (by decide +kernel) (by decide +kernel) (by decide +kernel) (fun _ _ _ h => h) (Or.inl ⟨by rfl, fun w => by rfl⟩) ?_
  try simp only [Act.put, Array.toArray_toList, List.getElem_toArray, List.getElem_cons_zero, List.getElem_cons_succ, List.setIfInBounds_toArray, List.set_cons_zero, List.set_cons_succ]
  refine wpAny_take (i := 7) (v := .string ⟨#[]⟩) rfl (by decide +kernel) (by decide +kernel) (by decide +kernel) (fun _ _ _ h => h) (Or.inl ⟨by rfl, fun w => by rfl⟩) ?_
  try simp only [Act.put, Array.toArray_toList, List.getElem_toArray, List.getElem_cons_zero, List.getElem_cons_succ, List.setIfInBounds_toArray, List.set_cons_zero, List.set_cons_succ]
  refine wpAny_take (i := 8) (v := .int .i64 2200) rfl (by decide +kernel) (by decide +kernel) (by decide +kernel) (fun _ _ _ h => h) (Or.inl ⟨by rfl, fun w => by rfl⟩) ?_
  try simp only [Act.put, Array.toArray_toList, List.getElem_toArray, List.getElem_cons_zero, List.getElem_cons_succ, List.setIfInBounds_toArray, List.set_cons_zero, List.set_cons_succ]
  refine wpAny_done (by decide +kernel) ?_ _
  clear kc0 kc1
  go_wp2_with (first | (go_at_call 13; refine (NM.out _ _).mono ?_; rintro e w' ⟨rfl, ⟨n, hn⟩⟩; subst hn) | (go_at_call 16; refine (CR.out _).mono ?_; rintro e w8 ⟨rfl, hb8⟩; have B8 := Lib.hid hb8; clear hb8))
  go_ret
  exact ⟨rfl, Dsc.below_then (w1 := w7.drewN _) (Dsc.below_drewN B7.out _) B7.out.size B8.out⟩
def descantlaw22_awake.f : Option Bool := some true
theorem descantlaw22_awake.calls (r : Bool) (w : World) (h : descantlaw22_awake.f = some r) (htw : TW w) :
    Calls Tryz.prog 11 #[] w fun e w' => e = .returned (.bool r) ∧ Below w.heap.size w w' := by
  cases h
  exact awake_any w htw
end Go.Proofs.YtbapmfghipcebaaGreatDoor.S
end
section
/- Byte rows that a conversion of a string made: what the walks read and store there. -/
set_option linter.unusedVariables false
set_option linter.unusedSimpArgs false
namespace Go.Proofs.YtbapmfghipcebaaGreatDoor.S
open Go Go.RowKit Go.Proofs Go.Proofs.YtbapmfghipcebaaGreatDoorW.PrintWords
open Dsc (bs)

theorem xor8 (a b : UInt8) : bits .xor .u8 (a.toNat : Int) (b.toNat : Int) = ((a ^^^ b).toNat : Int) := by
  have h : bits .xor .u8 (a.toNat : Int) (b.toNat : Int) = IntKind.u8.wrap (((BitVec.ofInt 8 (a.toNat : Int)) ^^^ (BitVec.ofInt 8 (b.toNat : Int))).toNat : Int) := rfl
  have e : ∀ x : UInt8, BitVec.ofInt 8 (x.toNat : Int) = x.toBitVec := fun x => by
    rw [BitVec.ofInt_natCast]; exact BitVec.eq_of_toNat_eq (by rw [BitVec.toNat_ofNat]; exact Nat.mod_eq_of_lt x.toNat_lt)
  have e3 : (((a.toBitVec ^^^ b.toBitVec).toNat : Nat) : Int) = ((a ^^^ b).toNat : Int) := rfl
  rw [h, e, e, e3]
  have h8 := (a ^^^ b).toNat_lt
  generalize (a ^^^ b).toNat = n at h8 ⊢
  rw [IntKind.wrap_u8']
  omega
/-- Row g holds the bytes l first, and they may be written. -/
def Bys (W : World) (g : Nat) (l : List UInt8) : Prop := ∃ cs t fr, W.heap[g]? = some (.cells cs t fr) ∧ l.length ≤ fr.1 ∧ l.length ≤ cs.size ∧ ∀ j, j < l.length → cs[j]? = some (.int .u8 ((l.getD j 0).toNat : Int))
theorem Bys.lt {W : World} {g : Nat} {l : List UInt8} (h : Bys W g l) : g < W.heap.size := by
  obtain ⟨cs, t, fr, h1, -⟩ := h
  rcases Nat.lt_or_ge g W.heap.size with h | h
  · exact h
  · rw [Array.getElem?_eq_none h] at h1; cases h1
theorem Bys.cell {W : World} {g : Nat} {l : List UInt8} (h : Bys W g l) {j : Nat} (hj : j < l.length) : W.cell? ⟨g, j, none⟩ = some (.int .u8 ((l.getD j 0).toNat : Int)) := by
  obtain ⟨cs, t, fr, h1, h2, h4, h3⟩ := h
  rw [cell_of_row W g j cs t fr h1]
  exact h3 j hj
theorem Bys.frozen {W : World} {g : Nat} {l : List UInt8} (h : Bys W g l) {j : Nat} (hj : j < l.length) : W.frozen? ⟨g, j, none⟩ = false := by
  obtain ⟨cs, t, ⟨lo, hi⟩, h1, h2, -⟩ := h
  have h2' : l.length ≤ lo := h2
  simp [World.frozen?, h1]
  intro h
  omega
theorem Bys.drewN {W : World} {g : Nat} {l : List UInt8} (h : Bys W g l) (n : Nat) : Bys (W.drewN n) g l := h
theorem Bys.kept {W W' : World} {g : Nat} {l : List UInt8} (h : Bys W g l) (hb : Below W.heap.size W W') : Bys W' g l := by
  have hl := h.lt
  obtain ⟨cs, t, fr, h1, h2⟩ := h
  exact ⟨cs, t, fr, (hb.block g hl).trans h1, h2⟩
theorem Bys.new (W : World) (e : TypeId) (l : List UInt8) : Bys (Lib.bytesWorld W e (bs l)) W.heap.size l := by
  refine ⟨_, _, _, Lib.bytesWorld_at_new W e (bs l), ?_, ?_, fun j hj => ?_⟩
  · simp [Lib.bytesCells, bs]
  · simp [Lib.bytesCells, bs]
  · simp [Lib.bytesCells, bs, Array.getElem?_append, hj, List.getD_eq_getElem?_getD]
theorem Bys.set {W : World} {g : Nat} {l : List UInt8} (h : Bys W g l) {k : Nat} (hk : k < l.length) (x : UInt8) : Bys (W.setCell ⟨g, k, none⟩ (.int .u8 (x.toNat : Int))) g (l.set k x) := by
  obtain ⟨cs, t, fr, h1, h2, h4, h3⟩ := h
  refine ⟨cs.setIfInBounds k (.int .u8 (x.toNat : Int)), t, fr, by simp [World.setCell, Array.getElem?_modify, h1], by rw [List.length_set]; exact h2, by rw [List.length_set, Array.size_setIfInBounds]; exact h4, fun j hj => ?_⟩
  rw [List.length_set] at hj
  rw [Array.getElem?_setIfInBounds, List.getD_eq_getElem?_getD, List.getElem?_set]
  by_cases e : k = j
  · subst e
    rw [if_pos rfl, if_pos (by omega), if_pos rfl, if_pos hk]
    rfl
  · rw [if_neg e, if_neg e, h3 j hj, List.getD_eq_getElem?_getD]
theorem Bys.str {W : World} {g : Nat} {l : List UInt8} (h : Bys W g l) (cap : Nat) : (convert 29 9 (.slice (some ⟨g, 0, none⟩) l.length cap)).run Tryz.prog W = .ok (.string (bs l)) W := by
  have e := run_convert_bytes_arg (P := Tryz.prog) W 29 5 Tryz.underlying29 Tryz.underlying5 g 0 l.length cap (l.map fun x => (x.toNat : Int)) (by simp) (fun i hi => by
    rw [Nat.zero_add, h.cell hi]
    simp [List.getD_eq_getElem?_getD, hi]) 9 Tryz.underlying9
  have e2 : (l.map fun x => (x.toNat : Int)).map (fun n => UInt8.ofNat n.toNat) = l := by
    rw [List.map_map]
    conv => rhs; rw [← List.map_id l]
    apply List.map_congr_left
    intro x _
    show UInt8.ofNat (Int.toNat (x.toNat : Int)) = x
    rw [Int.toNat_natCast, UInt8.ofNat_toNat]
  rw [e, strNums, e2]
theorem bytes_of (s : ByteArray) (W : World) : (convert 9 29 (.string s)).run Tryz.prog W = .ok (.slice (some ⟨W.heap.size, 0, none⟩) s.size (grownCap W s.size 0 5)) (Lib.bytesWorld W 5 s) := Lib.run_convert_string_bytes W _ _ _ s Tryz.underlying9 Tryz.underlying29 Tryz.underlying5
theorem below_bytes {w W : World} (h : Below w.heap.size w W) (hB : w.heap.size ≤ W.heap.size) (e : TypeId) (s : ByteArray) : Below w.heap.size w (Lib.bytesWorld W e s) :=
  h.trans ⟨rfl, rfl, rfl, by rw [Lib.bytesWorld_size]; omega, fun i hi => Lib.bytesWorld_at_old W e s i (by omega)⟩
end Go.Proofs.YtbapmfghipcebaaGreatDoor.S
end
section
/- Formats that may be. -/
set_option linter.unusedVariables false
set_option linter.unusedSimpArgs false
namespace Go.Proofs.YtbapmfghipcebaaGreatDoor.S
open Go Go.RowKit Go.Proofs Go.Proofs.YtbapmfghipcebaaGreatDoorW.PrintWords
open Dsc (bs Fmt Frm fsize)

theorem fmay_f (c b : Int) : descantref13_FormatMay.f c b = some (decide ((c = 1 ∨ c = 2) ∧ (b = 8 ∨ b = 16))) := by
  unfold descantref13_FormatMay.f descantref13_upTo.f
  repeat' split
  all_goals first
    | (rw [Option.bind_some]; split <;> (try split) <;> (congr 1; rw [Bool.eq_iff_iff]; simp_all; try omega))
    | (congr 1; rw [Bool.eq_iff_iff]; simp_all; try omega)
theorem fmt_of {c b : Int} (h : (c = 1 ∨ c = 2) ∧ (b = 8 ∨ b = 16)) : ∃ c' b' : Nat, c = c' ∧ b = b' ∧ Fmt c' b' := ⟨c.toNat, b.toNat, by omega, by omega, ⟨by omega, by omega⟩⟩
end Go.Proofs.YtbapmfghipcebaaGreatDoor.S
end
section
/- The plain law of SegmentBurst: a turned stretch is seen. -/
set_option linter.unusedVariables false
set_option linter.unusedSimpArgs false
namespace Go.Proofs.YtbapmfghipcebaaGreatDoor.S
open Go Go.RowKit Go.Proofs Go.Proofs.YtbapmfghipcebaaGreatDoorW.PrintWords
open Dsc (bs Fmt Frm fsize byteN low word crcReg stps)

theorem xor_high (a b i : Nat) (ha : a < 2 ^ i) : a ^^^ (b <<< i) = a + 2 ^ i * b := by
  apply Nat.eq_of_testBit_eq
  intro j
  rw [Nat.testBit_xor, Nat.testBit_shiftLeft, Nat.add_comm, Nat.testBit_two_pow_mul_add _ ha]
  by_cases h : j < i
  · rw [if_pos h, decide_eq_false (by omega : ¬ i ≤ j)]; simp
  · rw [if_neg h, decide_eq_true (by omega : i ≤ j), Nat.testBit_lt_two_pow (Nat.lt_of_lt_of_le ha (Nat.pow_le_pow_right (by decide) (by omega)))]
    simp
theorem word_val (b0 b1 b2 b3 : UInt8) : (word b0 b1 b2 b3).toNat = unlow [b0, b1, b2, b3] := by
  have h0 := b0.toNat_lt
  have h1 := b1.toNat_lt
  have h2 := b2.toNat_lt
  have h3 := b3.toNat_lt
  unfold word
  rw [BitVec.toNat_xor, BitVec.toNat_xor, BitVec.toNat_xor, BitVec.toNat_shiftLeft, BitVec.toNat_shiftLeft, BitVec.toNat_shiftLeft, BitVec.toNat_ofNat, BitVec.toNat_ofNat, BitVec.toNat_ofNat, BitVec.toNat_ofNat]
  rw [Nat.mod_eq_of_lt (by omega : b0.toNat < 2 ^ 32), Nat.mod_eq_of_lt (by omega : b1.toNat < 2 ^ 32), Nat.mod_eq_of_lt (by omega : b2.toNat < 2 ^ 32), Nat.mod_eq_of_lt (by omega : b3.toNat < 2 ^ 32)]
  rw [Nat.mod_eq_of_lt (by rw [Nat.shiftLeft_eq]; omega : b1.toNat <<< 8 < 2 ^ 32), Nat.mod_eq_of_lt (by rw [Nat.shiftLeft_eq]; omega : b2.toNat <<< 16 < 2 ^ 32), Nat.mod_eq_of_lt (by rw [Nat.shiftLeft_eq]; omega : b3.toNat <<< 24 < 2 ^ 32)]
  rw [xor_high _ _ 8 (by omega), xor_high _ _ 16 (by omega), xor_high _ _ 24 (by omega)]
  simp only [unlow]
  omega
theorem four_of (l : List UInt8) (h : l.length = 4) : ∃ b0 b1 b2 b3, l = [b0, b1, b2, b3] := by
  match l, h with
  | [a, b, c, d], _ => exact ⟨a, b, c, d, rfl⟩
theorem sumG_reg (l : List UInt8) (h : 4 ≤ l.length) : sumG l = true ↔ crcReg 0xFFFFFFFF#32 l = stps 32 0xFFFFFFFF#32 := by
  obtain ⟨b0, b1, b2, b3, he⟩ := four_of (l.drop (l.length - 4)) (by rw [List.length_drop]; omega)
  unfold sumG
  rw [decide_eq_true_iff, he, ← word_val]
  conv => rhs; rw [← List.take_append_drop (l.length - 4) l, he, Dsc.sum_reg]
  unfold Dsc.crcN
  exact ⟨fun h => BitVec.eq_of_toNat_eq h, fun h => by rw [h]⟩
/-- A stretch of four bytes from k on, turned by the bits of x: its first i bytes. -/
def turnE (k x : Nat) : Nat → List UInt8 → List UInt8
  | 0, l => l
  | i + 1, l => (turnE k x i l).set (k + i) ((turnE k x i l).getD (k + i) 0 ^^^ byteN (x / 2 ^ (8 * i)))
theorem turnE_length (k x : Nat) : ∀ (i : Nat) (l : List UInt8), (turnE k x i l).length = l.length
  | 0, l => rfl
  | i + 1, l => by rw [turnE, List.length_set, turnE_length k x i l]
theorem getD_pre (a z : List UInt8) (i : Nat) : (a ++ z).getD (a.length + i) 0 = z.getD i 0 := by
  rw [List.getD_eq_getElem?_getD, List.getD_eq_getElem?_getD, List.getElem?_append_right (by omega), Nat.add_sub_cancel_left]
theorem set_pre (a z : List UInt8) (i : Nat) (u : UInt8) : (a ++ z).set (a.length + i) u = a ++ z.set i u := by
  rw [List.set_append_right _ _ (by omega), Nat.add_sub_cancel_left]
theorem turnE_four (a z : List UInt8) (x : Nat) (q0 q1 q2 q3 : UInt8) :
    turnE a.length x 4 (a ++ (q0 :: q1 :: q2 :: q3 :: z)) = a ++ [q0 ^^^ byteN x, q1 ^^^ byteN (x / 256), q2 ^^^ byteN (x / 65536), q3 ^^^ byteN (x / 16777216)] ++ z := by
  simp only [turnE, getD_pre, set_pre]
  simp
theorem turn_seen (l : List UInt8) (k x : Nat) (hk : k + 4 ≤ l.length) (hx : 0 < x) (hx2 : x < 4294967296) (h4 : 4 ≤ l.length) (h : sumG l = true) : sumG (turnE k x 4 l) = false := by
  obtain ⟨a, r, rfl, ha⟩ : ∃ a r, l = a ++ r ∧ a.length = k := ⟨l.take k, l.drop k, (List.take_append_drop k l).symm, by rw [List.length_take]; omega⟩
  subst ha
  rw [List.length_append] at hk
  match r, hk, h, h4 with
  | q0 :: q1 :: q2 :: q3 :: z, hk, h, h4 =>
    rw [sumG_reg _ h4] at h
    have hw : word (byteN x) (byteN (x / 256)) (byteN (x / 65536)) (byteN (x / 16777216)) ≠ 0#32 := by
      intro e
      have := congrArg BitVec.toNat e
      rw [word_val] at this
      simp only [unlow, Dsc.byteN_val, BitVec.toNat_ofNat, Nat.zero_mod] at this
      omega
    have hb := Dsc.burst a z q0 q1 q2 q3 _ _ _ _ hw (by rw [List.append_assoc]; exact h)
    rw [Bool.eq_false_iff]
    intro hc
    rw [sumG_reg _ (by rw [turnE_length]; exact h4), turnE_four] at hc
    exact hb hc
  | [], hk, h, h4 => exact absurd hk (by simp only [List.length_cons, List.length_nil]; omega)
  | [_], hk, h, h4 => exact absurd hk (by simp only [List.length_cons, List.length_nil]; omega)
  | [_, _], hk, h, h4 => exact absurd hk (by simp only [List.length_cons, List.length_nil]; omega)
  | [_, _, _], hk, h, h4 => exact absurd hk (by simp only [List.length_cons, List.length_nil]; omega)
/-- What Get answers a turned segment. -/
theorem get_turned {l : List UInt8} {c b : Nat} (h : Frm l c b) (j x : Nat) (hk : j + 4 ≤ (Dsc.putSeg l c b).length) (hx : 0 < x) (hx2 : x < 4294967296) (k : Nat) :
    ∃ e : Int, (e = 2200 ∨ e = 2201) ∧ segment_Get.f k (bs (turnE j x 4 (Dsc.putSeg l c b))) c b = some (⟨#[]⟩, e) := by
  have hfew := h.few
  have hfs := h.fmt.fs
  obtain ⟨ho, h1, h2⟩ := kindOf_own h
  have hlen : (Dsc.putSeg l c b).length = 9 + (Dsc.kindOf l c b).2.2.length := Dsc.told_length _ _ _ _
  obtain ⟨-, -, -, -, t4, -⟩ := told_parts (Dsc.kindOf l c b).1 (Dsc.kindOf l c b).2.1 (l.length / fsize c b) (Dsc.kindOf l c b).2.2 (by omega)
  have ht := turn_seen (Dsc.putSeg l c b) j x hk hx hx2 (by omega) t4
  have hl := turnE_length j x 4 (Dsc.putSeg l c b)
  have hmay : ((c : Int) = 1 ∨ (c : Int) = 2) ∧ ((b : Int) = 8 ∨ (b : Int) = 16) := by
    obtain ⟨hc, hb⟩ := h.fmt
    omega
  unfold segment_Get.f
  rw [if_neg (Decidable.not_not.2 hmay), bs_size, bs_data, if_neg (by omega), if_neg (by omega)]
  by_cases hz : (turnE j x 4 (Dsc.putSeg l c b)).length ≠ 9 + sizeG (turnE j x 4 (Dsc.putSeg l c b))
  · exact ⟨2200, .inl rfl, by rw [if_pos hz]⟩
  · exact ⟨2201, .inr rfl, by rw [if_neg hz, if_pos ht]⟩
end Go.Proofs.YtbapmfghipcebaaGreatDoor.S
end
section
/- The walk of SegmentBurst. -/
set_option linter.unusedVariables false
set_option linter.unusedSimpArgs false
namespace Go.Proofs.YtbapmfghipcebaaGreatDoor.S
open Go Go.RowKit Go.Proofs Go.Proofs.YtbapmfghipcebaaGreatDoorW.PrintWords
open Dsc (bs Fmt Frm fsize byteN region_still_tail)

theorem burst_no (s : ByteArray) (c b at' by' : Int) (w : World) (er : Int) (he : er ≠ 0) (htw : TW w) (hp : ∀ W, TW W → Calls Tryz.prog 12 #[.string s, .agg #[.int .i64 c, .int .i64 b]] W fun e w' => e = .returned (.tuple #[.string ⟨#[]⟩, .int .i64 er]) ∧ Below W.heap.size W w') :
    Calls Tryz.prog 3 #[.string s, .agg #[.int .i64 c, .int .i64 b], .int .i64 at', .int .i64 by'] w fun e w' => e = .returned (.bool true) ∧ Below w.heap.size w w' := by
  have HA := Lib.hid (fun W hW => awake_any W hW)
  have HP := Lib.hid hp
  have HT := Lib.hid htw
  have NM := Lib.hid (fun (x : Int) W => descantlaw0_Num.calls x x W rfl)
  have b1 : (er != 0) = true := by simpa using he
  clear hp htw he
  go_enter Tryz.func3, Tryz.ntmps3
  go_wp2_with fail
  have K0 := Lib.hid (Dsc.Blk.new w 23 #[.int .i64 c, .int .i64 b])
  have B0 := Lib.hid (show Below w.heap.size w (w.alloc (.cells #[.int .i64 c, .int .i64 b] 23)) by go_grown)
  refine (HA.out _ (HT.out.of_ B0.out)).mono ?_
  rintro e w1 ⟨rfl, hb⟩
  have K1 := Lib.hid (K0.out.kept hb)
  have B1 := Lib.hid (Dsc.below_then B0.out B0.out.size hb)
  clear hb K0 B0
  have kc0 := K1.out.cell 0
  have kc1 := K1.out.cell 1
  simp at kc0 kc1
  go_wp2_with fail
  refine (HP.out _ (HT.out.of_ B1.out)).mono ?_
  rintro e w2 ⟨rfl, hb⟩
  have B2 := Lib.hid (Dsc.below_then B1.out B1.out.size hb)
  clear hb kc0 kc1
  go_wp2_with (go_at_call 13; refine (NM.out _ _).mono ?_; rintro e w' ⟨rfl, ⟨n, hn⟩⟩; subst hn)
  go_ret
  exact ⟨by simp [ByteArray.toList_eq], Dsc.below_drewN B2.out _⟩
set_option maxRecDepth 100000 in
set_option maxHeartbeats 2000000 in
theorem burst_yes (s : ByteArray) (L : List UInt8) (c b at' by' er : Int) (k x : Nat) (w : World) (htw : TW w)
    (hp : ∀ W, TW W → Calls Tryz.prog 12 #[.string s, .agg #[.int .i64 c, .int .i64 b]] W fun e w' => e = .returned (.tuple #[.string (bs L), .int .i64 0]) ∧ Below W.heap.size W w')
    (hq : ∀ W, TW W → Calls Tryz.prog 14 #[.string (bs (turnE k x 4 L)), .agg #[.int .i64 c, .int .i64 b]] W fun e w' => e = .returned (.tuple #[.string ⟨#[]⟩, .int .i64 er]) ∧ Below W.heap.size W w')
    (hl : 9 ≤ L.length) (hl4 : L.length ≤ 5000) (hk : k + 4 ≤ L.length) (hk2 : wrap64 ((IntKind.u64.wrap at').tmod ((L.length : Int) - 3)) = (k : Int)) (hx : wrap64 (1 + wrap64 ((IntKind.u64.wrap by').tmod 4294967295)) = (x : Int)) (hx0 : 1 ≤ x) (hx1 : x ≤ 4294967295) (hr : er = 2200 ∨ er = 2201) :
    Calls Tryz.prog 3 #[.string s, .agg #[.int .i64 c, .int .i64 b], .int .i64 at', .int .i64 by'] w fun e w' => e = .returned (.bool true) ∧ Below w.heap.size w w' := by
  have HA := Lib.hid (fun W hW => awake_any W hW)
  have HP := Lib.hid hp
  have HQ := Lib.hid hq
  have HT := Lib.hid htw
  have NM := Lib.hid (fun (x : Int) W => descantlaw0_Num.calls x x W rfl)
  have hsz : (bs L).size = L.length := bs_size L
  have q0 : decide ((L.length : Int) < 9) = false := by clear hk2 hx; simp; omega
  have q0' : decide (L.length < 9) = false := by clear hk2 hx; simp; omega
  clear hp hq htw
  go_enter Tryz.func3, Tryz.ntmps3
  go_wp2_with fail
  have K0 := Lib.hid (Dsc.Blk.new w 23 #[.int .i64 c, .int .i64 b])
  have B0 := Lib.hid (show Below w.heap.size w (w.alloc (.cells #[.int .i64 c, .int .i64 b] 23)) by go_grown)
  refine (HA.out _ (HT.out.of_ B0.out)).mono ?_
  rintro e w1 ⟨rfl, hb⟩
  have K1 := Lib.hid (K0.out.kept hb)
  have B1 := Lib.hid (Dsc.below_then B0.out B0.out.size hb)
  clear hb K0 B0
  have kc0 := K1.out.cell 0
  have kc1 := K1.out.cell 1
  simp at kc0 kc1
  go_wp2_with fail
  refine (HP.out _ (HT.out.of_ B1.out)).mono ?_
  rintro e w2 ⟨rfl, hb⟩
  have B2 := Lib.hid (Dsc.below_then B1.out B1.out.size hb)
  have K2 := Lib.hid (K1.out.kept hb)
  clear hb kc0 kc1 K1 B1
  go_wp2_with fail
  refine (NM.out _ _).mono ?_
  rintro e w3 ⟨rfl, ⟨nn, hn⟩⟩
  subst hn
  obtain ⟨W1, hW1⟩ : ∃ W1, Lib.bytesWorld (w2.drewN nn) 5 (bs L) = W1 := ⟨_, rfl⟩
  obtain ⟨cap, hcap⟩ : ∃ cap, grownCap (w2.drewN nn) L.length 0 5 = cap := ⟨_, rfl⟩
  have kb : (convert 9 29 (.string (bs L))).run Tryz.prog (w2.drewN nn) = .ok (.slice (some ⟨w2.heap.size, 0, none⟩) L.length cap) W1 := by
    have h := bytes_of (bs L) (w2.drewN nn)
    rw [hW1, hsz, hcap] at h
    exact h
  have Y1 := Lib.hid (show Bys W1 w2.heap.size L from hW1 ▸ Bys.new (w2.drewN nn) _ L)
  have B3 := Lib.hid (show Below w.heap.size w W1 from hW1 ▸ below_bytes (Dsc.below_drewN B2.out nn) B2.out.size _ _)
  have K3 := Lib.hid (show Dsc.Blk W1 w.heap.size 23 #[.int .i64 c, .int .i64 b] from hW1 ▸ (Lib.bytesWorld_at_old (w2.drewN nn) _ _ _ K2.out.lt).trans K2.out)
  have ne : w.heap.size ≠ w2.heap.size := by have := K2.out.lt; omega
  have BB := Lib.hid B2.out.size
  clear hW1 hcap B2 K2
  rw [← hsz] at q0 q0'
  go_wp2_with fail
  clear kb q0 q0'
  simp only [hk2, hx]
  go_loopg [14] 4 (fun q a wr => ∃ i : Nat, i ≤ 4 ∧ q = 4 - i ∧ a = .int .i64 i ∧ Bys wr w2.heap.size (turnE k x i L) ∧ Dsc.Blk wr w.heap.size 23 #[.int .i64 c, .int .i64 b] ∧ Below w.heap.size w wr)
  case atStart => exact ⟨0, by omega, rfl, rfl, Y1.out, K3.out, B3.out⟩
  case round =>
    obtain ⟨i, hi, hq, rfl, hY, hK, hB⟩ := hrel
    have hq' := Lib.hid hq
    have hY' := Lib.hid hY
    have hK' := Lib.hid hK
    have hB' := Lib.hid hB
    clear hq hY hK hB
    have hlen : (turnE k x i L).length = L.length := turnE_length k x i L
    by_cases hlt : i < 4
    · have hj : k + i < (turnE k x i L).length := by rw [hlen]; omega
      have c0 := hY'.out.cell hj
      have f0 := hY'.out.frozen hj
      obtain ⟨q, hq⟩ : ∃ q, (turnE k x i L).getD (k + i) 0 = q := ⟨_, rfl⟩
      rw [hq] at c0
      have hq0 := Lib.hid hq
      clear hq
      have q0 : (0 : Int) ≤ i := by omega
      have q1 : (i : Int) < 4 := by omega
      have q2 : IntKind.i64.wrap ((k : Int) + (i : Int)) = (k : Int) + (i : Int) := by rw [IntKind.wrap_i64]; omega
      have q3 : (k : Int) + (i : Int) < (L.length : Int) := by omega
      have q4 : (0 : Int) ≤ (k : Int) + (i : Int) := by omega
      have q5 : ((k : Int) + (i : Int)).toNat = k + i := by omega
      obtain ⟨y, hy⟩ : ∃ y : Nat, x / 2 ^ (8 * i) = y := ⟨_, rfl⟩
      obtain ⟨z, hz⟩ : ∃ z : UInt8, q ^^^ byteN y = z := ⟨_, rfl⟩
      have q6 : IntKind.i64.wrap (8 * (i : Int)) = 8 * (i : Int) := by rw [IntKind.wrap_i64]; omega
      have q7 : Op.shift .shr .i64 (x : Int) .i64 (8 * (i : Int)) = pure (.int .i64 (y : Int)) := by
        rw [shift_shr_any _ _ _ _ (by omega)]
        congr 2
        rw [show (8 * (i : Int)).toNat = 8 * i by omega, show IntKind.i64.bits = 64 from rfl, Nat.min_eq_left (by omega), ← hy]
        simp
      have q8 : bits .xor .u8 ((q.toNat : Nat) : Int) ((y : Int) % 256) = (z.toNat : Int) := by
        have e1 : (y : Int) % 256 = ((byteN y).toNat : Int) := by rw [Dsc.byteN_val]; omega
        rw [e1, xor8, hz]
      have q9 : bits .xor .u8 ((q.toNat : Nat) : Int) (IntKind.u8.wrap (y : Int)) = (z.toNat : Int) := by rw [IntKind.wrap_u8', q8]
      have hz0 := Lib.hid (show turnE k x (i + 1) L = (turnE k x i L).set (k + i) z by rw [turnE, hq0.out, hy, hz])
      have q10 := Lib.hid (show bits .xor .u8 ((q.toNat : Nat) : Int) ((x : Int) / 2 ^ (8 * i) % 256) = (z.toNat : Int) by
        have e : (x : Int) / 2 ^ (8 * i) = (y : Int) := by rw [← hy]; simp
        rw [e, q8])
      clear hy hz
      go_wp2_with fail
      refine region_still_tail 16 (by kernel_rfl) (by kernel_rfl) ?_
      simp only [List.take_succ_cons, List.take_zero, List.drop_succ_cons, List.drop_zero]
      iterate 16 still_step
      refine wpStill_nil ?_
      go_wp2
      go_roundg (4 - (i + 1))
      case measure => have := hq'.out; omega
      case rel =>
        refine ⟨i + 1, by omega, rfl, by go_num, ?_, hK'.out.far (p := ⟨w2.heap.size, k + i, none⟩) ne _, (hB'.out.setCell (p := ⟨w2.heap.size, k + i, none⟩) BB.out _).drew⟩
        rw [hz0.out, q10.out]
        exact hY'.out.set hj z
    · obtain rfl : i = 4 := by omega
      have kb2 := hY'.out.str cap
      rw [hlen] at kb2
      have kc0 := hK'.out.cell 0
      have kc1 := hK'.out.cell 1
      simp at kc0 kc1
      go_wp2_with fail
      refine (HQ.out _ (HT.out.of_ hB'.out)).mono ?_
      rintro e w4 ⟨rfl, hb⟩
      have B5 := Lib.hid (Dsc.below_then hB'.out hB'.out.size hb)
      clear hb kc0 kc1 hK' hB' kb2
      rcases hr with rfl | rfl
      · go_wp2_with fail
        refine (NM.out _ _).mono ?_
        rintro e w5 ⟨rfl, ⟨n5, hn⟩⟩
        subst hn
        go_wp2_with fail
        refine (NM.out _ _).mono ?_
        rintro e w5 ⟨rfl, ⟨n6, hn⟩⟩
        subst hn
        go_wp2_with fail
        go_ret
        exact ⟨rfl, Dsc.below_drewN B5.out _⟩
      · go_wp2_with fail
        refine (NM.out _ _).mono ?_
        rintro e w5 ⟨rfl, ⟨n5, hn⟩⟩
        subst hn
        go_wp2_with fail
        go_ret
        exact ⟨rfl, Dsc.below_drewN B5.out _⟩
end Go.Proofs.YtbapmfghipcebaaGreatDoor.S
end
section
/- SegmentBurst, joined. -/
set_option linter.unusedVariables false
set_option linter.unusedSimpArgs false
namespace Go.Proofs.YtbapmfghipcebaaGreatDoor.S
open Go Go.RowKit Go.Proofs Go.Proofs.YtbapmfghipcebaaGreatDoorW.PrintWords
open Dsc (bs Fmt Frm fsize byteN)

theorem u64_mod (x m : Int) (h0 : 0 < m) (h1 : m ≤ 9223372036854775807) : ∃ k : Nat, (k : Int) < m ∧ wrap64 ((IntKind.u64.wrap x).tmod m) = (k : Int) := by
  have e : IntKind.u64.wrap x = x % 18446744073709551616 := by simp [IntKind.wrap, IntKind.bits, IntKind.signed]
  have h2 : 0 ≤ x % 18446744073709551616 := by omega
  rw [e, Int.tmod_eq_emod_of_nonneg h2]
  have h3 : 0 ≤ x % 18446744073709551616 % m := Int.emod_nonneg _ (by omega)
  have h4 : x % 18446744073709551616 % m < m := Int.emod_lt_of_pos _ (by omega)
  generalize x % 18446744073709551616 % m = y at h3 h4 ⊢
  exact ⟨y.toNat, by omega, by rw [w64 (by omega) (by omega)]; omega⟩
theorem burst_walk (s : ByteArray) (c b at' by' : Int) (W : World) (hs : s.size ≤ 140737488351232) (hc : (Lit.int .i64 c).wf = true) (hb : (Lit.int .i64 b).wf = true) (ha : (Lit.int .i64 at').wf = true) (hy : (Lit.int .i64 by').wf = true) (htw : TW W) :
    Calls Tryz.prog 3 #[.string s, .agg #[.int .i64 c, .int .i64 b], .int .i64 at', .int .i64 by'] W fun e w' => e = .returned (.bool true) ∧ Below W.heap.size W w' := by
  by_cases hm : (c = 1 ∨ c = 2) ∧ (b = 8 ∨ b = 16)
  · obtain ⟨c', b', rfl, rfl, hf⟩ := fmt_of hm
    have es : s = bs s.data.toList := (bs_of s).symm
    by_cases h : Frm s.data.toList c' b'
    · have hfs := hf.fs
      have hfew := h.few
      obtain ⟨ho, -, -⟩ := kindOf_own h
      have hlen : (Dsc.putSeg s.data.toList c' b').length = 9 + (Dsc.kindOf s.data.toList c' b').2.2.length := Dsc.told_length _ _ _ _
      obtain ⟨k, hk, hk2⟩ := u64_mod at' (((Dsc.putSeg s.data.toList c' b').length : Int) - 3) (by omega) (by omega)
      obtain ⟨x, hx, hx2⟩ := u64_mod by' 4294967295 (by decide) (by decide)
      have hx3 : wrap64 (1 + wrap64 ((IntKind.u64.wrap by').tmod 4294967295)) = ((x + 1 : Nat) : Int) := by rw [hx2, w64 (by omega) (by omega)]; omega
      obtain ⟨er, hr, hg⟩ := get_turned h k (x + 1) (by omega) (by omega) (by omega) 20200
      rw [es]
      exact burst_yes _ (Dsc.putSeg s.data.toList c' b') c' b' at' by' er k (x + 1) W htw (fun W hW => segment_Put.calls 20200 _ _ _ _ _ W (put_yes h (Nat.le_refl _)) hW) (fun W hW => segment_Get.calls 20200 _ _ _ _ _ W hg hW)
        (by omega) (by omega) (by omega) hk2 hx3 (by omega) (by omega) hr
    · exact burst_no s c' b' at' by' W 2200 (by decide) htw (fun W hW => segment_Put.calls 20200 _ _ _ _ _ W (by rw [es]; exact put_no hf h (Nat.le_refl _)) hW)
  · exact burst_no s c b at' by' W 2200 (by decide) htw (fun W hW => segment_Put.calls 20200 _ _ _ _ _ W (put_bad hm s (by omega)) hW)
end Go.Proofs.YtbapmfghipcebaaGreatDoor.S
end
