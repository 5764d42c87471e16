/- Texts of this claim, put together: BackF, PureF, AwakeW, OneW. -/
import Derived.Test.YtbapmfghipcebaaGreatDoorB3
section
/- What is put comes back, where it was not coded. -/
set_option linter.unusedVariables false
set_option linter.unusedSimpArgs false
namespace Go.Proofs.YtbapmfghipcebaaGreatDoor.S
open Go Go.RowKit Go.Proofs Go.Proofs.YtbapmfghipcebaaGreatDoorW.PrintWords Go.Proofs.YtbapmfghipcebaaGreatDoorW.PrintLast Go.Proofs.YtbapmfghipcebaaGreatDoorW.PrintMore
open Dsc (bs samp1 samp2 samplesOf samples16 chans evens odds Fmt Frm fsize byteN low)

theorem told_parts (kind by' many : Nat) (own : List UInt8) (ho : own.length < 65536) :
    (Dsc.told kind by' many own).getD 0 0 = byteN kind ∧ (Dsc.told kind by' many own).getD 1 0 = byteN by' ∧ (Dsc.told kind by' many own).getD 2 0 = byteN many ∧ sizeG (Dsc.told kind by' many own) = own.length ∧ sumG (Dsc.told kind by' many own) = true ∧
    ((Dsc.told kind by' many own).take (5 + own.length)).drop 5 = own := by
  have hl := Dsc.told_length kind by' many own
  have hh := Dsc.headOf_length kind by' many own
  have e1 : Dsc.told kind by' many own = byteN kind :: byteN by' :: byteN many :: byteN own.length :: byteN (own.length / 256) :: (own ++ low (Dsc.crcN (Dsc.headOf kind by' many own)) 4) := by
    simp [Dsc.told, Dsc.headOf, low]
  refine ⟨by rw [e1]; rfl, by rw [e1]; rfl, by rw [e1]; rfl, ?_, ?_, ?_⟩
  · unfold sizeG
    rw [e1]
    simp only [List.take_succ_cons, List.drop_succ_cons, List.drop_zero, List.take_zero, unlow, Dsc.byteN_val]
    omega
  · unfold sumG
    have ht : (Dsc.told kind by' many own).take ((Dsc.told kind by' many own).length - 4) = Dsc.headOf kind by' many own := by
      rw [hl, show 9 + own.length - 4 = (Dsc.headOf kind by' many own).length by omega]
      unfold Dsc.told
      rw [List.take_left]
    have hd : (Dsc.told kind by' many own).drop ((Dsc.told kind by' many own).length - 4) = low (Dsc.crcN (Dsc.headOf kind by' many own)) 4 := by
      rw [hl, show 9 + own.length - 4 = (Dsc.headOf kind by' many own).length by omega]
      unfold Dsc.told
      rw [List.drop_left]
    rw [ht, hd, unlow_low 4 _ (Dsc.crcN_lt _)]
    simp
  · rw [e1, show 5 + own.length = own.length + 1 + 1 + 1 + 1 + 1 by omega]
    simp only [List.take_succ_cons, List.drop_succ_cons, List.drop_zero]
    rw [List.take_left]
theorem kindOf_own {l : List UInt8} {c b : Nat} (h : Frm l c b) : (Dsc.kindOf l c b).2.2.length ≤ l.length ∧ (Dsc.kindOf l c b).1 ≤ 2 ∧ (Dsc.kindOf l c b).2.1 ≤ 15 := by
  have hfs := h.fmt.fs
  unfold Dsc.kindOf
  split
  · exact ⟨by show (l.take _).length ≤ _; rw [List.length_take]; omega, by show 2 ≤ 2; omega, by show 0 ≤ 15; omega⟩
  · split
    · rename_i hlt
      exact ⟨Nat.le_of_lt hlt, by show 1 ≤ 2; omega, Dsc.wasteAll_le _⟩
    · exact ⟨Nat.le_refl _, by show 0 ≤ 2; omega, by show 0 ≤ 15; omega⟩
theorem kind_raw {l : List UInt8} {c b : Nat} (h : (Dsc.kindOf l c b).1 = 0) : (Dsc.kindOf l c b).2.2 = l := by
  unfold Dsc.kindOf at h ⊢
  split
  · rename_i hc; rw [if_pos hc] at h; cases h
  · rename_i hc
    rw [if_neg hc] at h
    split
    · rename_i hc2; rw [if_pos hc2] at h; cases h
    · rfl
theorem kind_const {l : List UInt8} {c b : Nat} (h : (Dsc.kindOf l c b).1 = 2) : Dsc.isConst l (fsize c b) = true ∧ (Dsc.kindOf l c b).2.2 = l.take (fsize c b) := by
  unfold Dsc.kindOf at h ⊢
  split
  · rename_i hc; exact ⟨hc, rfl⟩
  · rename_i hc
    rw [if_neg hc] at h
    split at h <;> cases h
/-- What stands in a put segment, seen by Get. -/
theorem get_put {l : List UInt8} {c b : Nat} (h : Frm l c b) {k : Nat} :
    segment_Get.f k (bs (Dsc.putSeg l c b)) c b = (openG k (Dsc.kindOf l c b).1 (bs (Dsc.kindOf l c b).2.2) c b (Dsc.kindOf l c b).2.1 (l.length / fsize c b)).bind fun d => endG k (bs (Dsc.putSeg l c b)) c b d := by
  have hfs := h.fmt.fs
  obtain ⟨h1, h2, h3⟩ := kindOf_own h
  have hfew := h.few
  obtain ⟨-, -, hq⟩ := frm_chs h
  unfold Dsc.putSeg
  generalize Dsc.kindOf l c b = K at *
  obtain ⟨kind, by', own⟩ := K
  simp only at h1 h2 h3 ⊢
  generalize l.length / fsize c b = many at *
  obtain ⟨p0, p1, p2, p3, p4, p5⟩ := told_parts kind by' many own (by omega)
  have hl := Dsc.told_length kind by' many own
  have hf := h.fmt
  have v0 : (byteN kind).toNat = kind := by rw [Dsc.byteN_val]; omega
  have v1 : (byteN by').toNat = by' := by rw [Dsc.byteN_val]; omega
  have v2 : (byteN many).toNat = many := by rw [Dsc.byteN_val]; omega
  unfold segment_Get.f
  rw [if_neg (by have := hf.c; have := hf.b; omega), bs_size, if_neg (by omega), if_neg (by omega), bs_data, p3, if_neg (by omega), p4, if_neg (by simp), p2, v2, if_neg (by omega), p0, p1, v0, v1, bs_extract, p5]
theorem end_back {l : List UInt8} {c b : Nat} (h : Frm l c b) {k : Nat} (hk : 20200 ≤ k) : endG k (bs (Dsc.putSeg l c b)) c b (bs l) = some (bs l, 0) := by
  unfold endG
  rw [put_yes h hk, Option.bind_some]
  simp
theorem get_back {l : List UInt8} {c b : Nat} (h : Frm l c b) (hn : (Dsc.kindOf l c b).1 ≠ 1) {k : Nat} (hk : 20200 ≤ k) : segment_Get.f k (bs (Dsc.putSeg l c b)) c b = some (bs l, 0) := by
  obtain ⟨h1, h2, h3⟩ := kindOf_own h
  have hfs := h.fmt.fs
  have hfew := h.few
  have hne := h.ne
  obtain ⟨-, -, hq⟩ := frm_chs h
  rw [get_put h]
  unfold openG
  rw [if_neg hn]
  by_cases h2' : (Dsc.kindOf l c b).1 = 2
  · obtain ⟨hc, ho⟩ := kind_const h2'
    rw [if_pos h2', ho]
    have hr : strings_Repeat.f (bs (l.take (fsize c b))) ((l.length / fsize c b : Nat) : Int) = some (bs l) := by
      have hs : (bs (l.take (fsize c b))).size ≤ 4 := by rw [bs_size, List.length_take]; omega
      unfold strings_Repeat.f
      have e : l = (List.replicate (l.length / fsize c b) (l.take (fsize c b))).flatten := by unfold Dsc.isConst at hc; simpa using hc
      generalize l.length / fsize c b = q at *
      have hm : (bs (l.take (fsize c b))).size * q ≤ 4 * 64 := Nat.mul_le_mul hs hq
      rw [Int.toNat_natCast, if_pos ⟨by omega, by omega, by omega⟩, bs_data, repeatL_eq, ← e]
      rfl
    rw [hr, Option.bind_some]
    exact end_back h hk
  · rw [if_neg h2', kind_raw (by omega), Option.bind_some]
    exact end_back h hk
end Go.Proofs.YtbapmfghipcebaaGreatDoor.S
end
section
/- Formats that may be. -/
set_option linter.unusedVariables false
set_option linter.unusedSimpArgs false
namespace Go.Proofs.YtbapmfghipcebaaGreatDoor.S
open Go Go.RowKit Go.Proofs Go.Proofs.YtbapmfghipcebaaGreatDoorW.PrintWords
open Dsc (bs Fmt Frm fsize)

theorem fmay_f (c b : Int) : descantref13_FormatMay.f c b = some (decide ((c = 1 ∨ c = 2) ∧ (b = 8 ∨ b = 16))) := by
  unfold descantref13_FormatMay.f descantref13_upTo.f
  repeat' split
  all_goals first
    | (rw [Option.bind_some]; split <;> (try split) <;> (congr 1; rw [Bool.eq_iff_iff]; simp_all; try omega))
    | (congr 1; rw [Bool.eq_iff_iff]; simp_all; try omega)
theorem fmt_of {c b : Int} (h : (c = 1 ∨ c = 2) ∧ (b = 8 ∨ b = 16)) : ∃ c' b' : Nat, c = c' ∧ b = b' ∧ Fmt c' b' := ⟨c.toNat, b.toNat, by omega, by omega, ⟨by omega, by omega⟩⟩
end Go.Proofs.YtbapmfghipcebaaGreatDoor.S
end
section
/- The walk of descantlaw22.awake. -/
set_option linter.unusedVariables false
set_option linter.unusedSimpArgs false
namespace Go.Proofs.YtbapmfghipcebaaGreatDoor.S
open Go Go.RowKit Go.Proofs Go.Proofs.YtbapmfghipcebaaGreatDoorW.PrintWords
open Dsc (bs Fmt Frm)

theorem frm5 : Frm [5, 0, 5, 0, 5, 0] 1 16 := ⟨⟨.inl rfl, .inr rfl⟩, by decide, by decide, by decide⟩
theorem frm7 : Frm [5, 0, 255, 127] 1 16 := ⟨⟨.inl rfl, .inr rfl⟩, by decide, by decide, by decide⟩
theorem seg5 : Dsc.putSeg [5, 0, 5, 0, 5, 0] 1 16 = Dsc.told 2 0 3 [5, 0] := by
  have h : Dsc.isConst [5, 0, 5, 0, 5, 0] (Dsc.fsize 1 16) = true := by decide +kernel
  unfold Dsc.putSeg Dsc.kindOf
  rw [if_pos h]
  rfl
theorem kind5 : (Dsc.kindOf [5, 0, 5, 0, 5, 0] 1 16).1 ≠ 1 := by
  have h : Dsc.isConst [5, 0, 5, 0, 5, 0] (Dsc.fsize 1 16) = true := by decide +kernel
  unfold Dsc.kindOf
  rw [if_pos h]
  decide
theorem coded_least (chs : List (List Int)) (h : ∀ r ∈ Dsc.lputs (Dsc.sideP (Dsc.lowsOf (Dsc.wasteAll chs) chs)), -16777216 ≤ r ∧ r ≤ 16777216) : 4 ≤ (Dsc.codedOf chs).length := (Dsc.rput_length h).1
theorem lputs_bd {sides : List (List Int)} {n : Nat} (h : Chs sides n) : ∀ r ∈ Dsc.lputs sides, -16777216 ≤ r ∧ r ≤ 16777216 := by
  intro r hr
  unfold Dsc.lputs at hr
  rw [List.mem_flatMap] at hr
  obtain ⟨xs, hx, hr⟩ := hr
  have := (lput_facts (h.bd xs hx)).2 r hr
  omega
theorem coded_ge {l : List UInt8} {c b : Nat} (h : Frm l c b) : 4 ≤ (Dsc.codedOf (Dsc.chans c (Dsc.samplesOf b l))).length := by
  obtain ⟨h1, h2, h3⟩ := frm_chs h
  refine coded_least _ (lputs_bd (sideP_chs (h1.lows _) ?_))
  intro xs hx x hxx
  obtain ⟨ys, hy, rfl⟩ := List.mem_map.1 hx
  obtain ⟨y, hy2, rfl⟩ := List.mem_map.1 hxx
  exact div_bd (by decide) (h2 ys hy y hy2)
theorem kind7 : (Dsc.kindOf [5, 0, 255, 127] 1 16).1 ≠ 1 := by
  have h : Dsc.isConst [5, 0, 255, 127] (Dsc.fsize 1 16) = false := by decide +kernel
  have h2 := coded_ge frm7
  unfold Dsc.kindOf
  rw [if_neg (by rw [h]; decide), if_neg (by show ¬ _ < 4; omega)]
  decide
theorem seg5_sum : sumG (1 :: (Dsc.told 2 0 3 [5, 0]).drop 1) = false := by decide +kernel
theorem seg5_size : sizeG (1 :: (Dsc.told 2 0 3 [5, 0]).drop 1) = 2 := by decide +kernel
theorem seg5_size1 : sizeG ((Dsc.told 2 0 3 [5, 0]).drop 1) = 1280 := by decide +kernel
theorem awake_get1 (k : Nat) : segment_Get.f k (bs (1 :: (Dsc.told 2 0 3 [5, 0]).drop 1)) ((1 : Nat) : Int) ((16 : Nat) : Int) = some (⟨#[]⟩, 2201) := by
  have hl := Dsc.told_length 2 0 3 [5, 0]
  have hl2 : (1 :: (Dsc.told 2 0 3 [5, 0]).drop 1).length = 11 := by rw [List.length_cons, List.length_drop, hl]; rfl
  unfold segment_Get.f
  rw [if_neg (by omega), bs_size, hl2, if_neg (by omega), if_neg (by omega), bs_data, seg5_size, if_neg (by omega), if_pos seg5_sum]
theorem awake_get2 (k : Nat) : segment_Get.f k (bs ((Dsc.told 2 0 3 [5, 0]).drop 1)) ((1 : Nat) : Int) ((16 : Nat) : Int) = some (⟨#[]⟩, 2200) := by
  have hl := Dsc.told_length 2 0 3 [5, 0]
  have hl2 : ((Dsc.told 2 0 3 [5, 0]).drop 1).length = 10 := by rw [List.length_drop, hl]; rfl
  unfold segment_Get.f
  rw [if_neg (by omega), bs_size, hl2, if_neg (by omega), if_neg (by omega), bs_data, seg5_size1, if_pos (by omega)]
def fmtV : Value := .agg #[.int .i64 1, .int .i64 16]
set_option maxRecDepth 100000 in
set_option maxHeartbeats 2000000 in
theorem awake_any (w : World) (htw : TW w) : Calls Tryz.prog 11 #[] w fun e w' => e = .returned (.bool true) ∧ Below w.heap.size w w' := by
  have HT := Lib.hid htw
  have P5 := Lib.hid (fun W hW => by have := segment_Put.calls 20200 _ _ _ _ _ W (put_yes frm5 (Nat.le_refl _)) hW; rw [seg5] at this; exact this)
  have P7 := Lib.hid (fun W hW => segment_Put.calls 20200 _ _ _ _ _ W (put_yes frm7 (Nat.le_refl _)) hW)
  have P0 := Lib.hid (fun W hW => segment_Put.calls 20200 _ _ _ _ _ W (put_no (l := []) frm5.fmt (fun h => absurd h.ne (by decide)) (Nat.le_refl _)) hW)
  have G5 := Lib.hid (fun W hW => by have := segment_Get.calls 20200 _ _ _ _ _ W (get_back frm5 kind5 (Nat.le_refl _)) hW; rw [seg5] at this; exact this)
  have G7 := Lib.hid (fun W hW => segment_Get.calls 20200 _ _ _ _ _ W (get_back frm7 kind7 (Nat.le_refl _)) hW)
  have G1 := Lib.hid (fun W hW => segment_Get.calls 20200 _ _ _ _ _ W (awake_get1 20200) hW)
  have G2 := Lib.hid (fun W hW => segment_Get.calls 20200 _ _ _ _ _ W (awake_get2 20200) hW)
  have z : (bs (1 :: (Dsc.told 2 0 3 [5, 0]).drop 1)) = ⟨#[1]⟩ ++ (bs (Dsc.told 2 0 3 [5, 0])).extract 1 (bs (Dsc.told 2 0 3 [5, 0])).size := by
    rw [bs_extract, bs_size, List.take_length]
    exact (bs_append [1] _).symm
  have z2 : bs ((Dsc.told 2 0 3 [5, 0]).drop 1) = (bs (Dsc.told 2 0 3 [5, 0])).extract 1 (bs (Dsc.told 2 0 3 [5, 0])).size := by
    rw [bs_extract, bs_size, List.take_length]
  rw [z] at G1
  rw [z2] at G2
  have a1 : (bs (Dsc.told 2 0 3 [5, 0])).size = 11 := by rw [bs_size, Dsc.told_length]; rfl
  have a2 : ((bs (Dsc.told 2 0 3 [5, 0])).extract 0 7).toList = [2, 0, 3, 2, 0, 5, 0] := by
    rw [bs_extract, bs_toList]; rfl
  rw [a1] at G1 G2
  generalize bs (Dsc.told 2 0 3 [5, 0]) = A at *
  generalize bs (Dsc.putSeg [5, 0, 255, 127] 1 16) = B at *
  clear z z2
  have P5' := Lib.hid (show ∀ W, TW W → Calls Tryz.prog 12 #[.string ⟨#[5, 0, 5, 0, 5, 0]⟩, .agg #[.int .i64 1, .int .i64 16]] W fun e w' => e = .returned (.tuple #[.string A, .int .i64 0]) ∧ Below W.heap.size W w' from P5.out)
  have P7' := Lib.hid (show ∀ W, TW W → Calls Tryz.prog 12 #[.string ⟨#[5, 0, 255, 127]⟩, .agg #[.int .i64 1, .int .i64 16]] W fun e w' => e = .returned (.tuple #[.string B, .int .i64 0]) ∧ Below W.heap.size W w' from P7.out)
  have P0' := Lib.hid (show ∀ W, TW W → Calls Tryz.prog 12 #[.string ⟨#[]⟩, .agg #[.int .i64 1, .int .i64 16]] W fun e w' => e = .returned (.tuple #[.string ⟨#[]⟩, .int .i64 2200]) ∧ Below W.heap.size W w' from P0.out)
  have G5' := Lib.hid (show ∀ W, TW W → Calls Tryz.prog 14 #[.string A, .agg #[.int .i64 1, .int .i64 16]] W fun e w' => e = .returned (.tuple #[.string ⟨#[5, 0, 5, 0, 5, 0]⟩, .int .i64 0]) ∧ Below W.heap.size W w' from G5.out)
  have G7' := Lib.hid (show ∀ W, TW W → Calls Tryz.prog 14 #[.string B, .agg #[.int .i64 1, .int .i64 16]] W fun e w' => e = .returned (.tuple #[.string ⟨#[5, 0, 255, 127]⟩, .int .i64 0]) ∧ Below W.heap.size W w' from G7.out)
  have G1' := Lib.hid (show ∀ W, TW W → Calls Tryz.prog 14 #[.string (⟨#[1]⟩ ++ A.extract 1 11), .agg #[.int .i64 1, .int .i64 16]] W fun e w' => e = .returned (.tuple #[.string ⟨#[]⟩, .int .i64 2201]) ∧ Below W.heap.size W w' from G1.out)
  have G2' := Lib.hid (show ∀ W, TW W → Calls Tryz.prog 14 #[.string (A.extract 1 11), .agg #[.int .i64 1, .int .i64 16]] W fun e w' => e = .returned (.tuple #[.string ⟨#[]⟩, .int .i64 2200]) ∧ Below W.heap.size W w' from G2.out)
  have NM := Lib.hid (fun (x : Int) W => descantlaw0_Num.calls x x W rfl)
  have CR := Lib.hid (show ∀ W, Calls Tryz.prog 16 #[.string ⟨#[]⟩] W fun e w' => e = .returned (.int .i64 0) ∧ Below W.heap.size W w' from fun W => descantref1_Crc.calls ⟨#[]⟩ 0 W (by decide +kernel))
  clear P5 P7 P0 G5 G7 G1 G2 htw
  have a1i : ((A.size : Int) != 11) = false := by rw [a1]; rfl
  go_enter Tryz.func11, Tryz.ntmps11
  go_wp2_with fail
  have K0 := Lib.hid (Dsc.Blk.new w 23 #[.int .i64 1, .int .i64 16])
  have B0 := Lib.hid (show Below w.heap.size w (w.alloc (.cells #[.int .i64 1, .int .i64 16] 23)) by go_grown)
  refine (P5'.out _ (HT.out.of_ B0.out)).mono ?_
  rintro e w1 ⟨rfl, hb⟩
  have K1 := Lib.hid (K0.out.kept hb)
  have B1 := Lib.hid (Dsc.below_then B0.out B0.out.size hb)
  clear hb K0 B0
  have kc0 := K1.out.cell 0
  have kc1 := K1.out.cell 1
  simp at kc0 kc1
  go_wp2_with fail
  refine (G5'.out _ (HT.out.of_ B1.out)).mono ?_
  rintro e w2 ⟨rfl, hb⟩
  have K2 := Lib.hid (K1.out.kept hb)
  have B2 := Lib.hid (Dsc.below_then B1.out B1.out.size hb)
  clear hb K1 B1
  clear kc0 kc1
  have kc0 := K2.out.cell 0
  have kc1 := K2.out.cell 1
  simp at kc0 kc1
  go_wp2_with fail
  refine (P7'.out _ (HT.out.of_ B2.out)).mono ?_
  rintro e w3 ⟨rfl, hb⟩
  have K3 := Lib.hid (K2.out.kept hb)
  have B3 := Lib.hid (Dsc.below_then B2.out B2.out.size hb)
  clear hb K2 B2
  clear kc0 kc1
  have kc0 := K3.out.cell 0
  have kc1 := K3.out.cell 1
  simp at kc0 kc1
  go_wp2_with fail
  refine (G7'.out _ (HT.out.of_ B3.out)).mono ?_
  rintro e w4 ⟨rfl, hb⟩
  have K4 := Lib.hid (K3.out.kept hb)
  have B4 := Lib.hid (Dsc.below_then B3.out B3.out.size hb)
  clear hb K3 B3
  clear kc0 kc1
  have kc0 := K4.out.cell 0
  have kc1 := K4.out.cell 1
  simp at kc0 kc1
  go_wp2_with fail
  refine (P0'.out _ (HT.out.of_ B4.out)).mono ?_
  rintro e w5 ⟨rfl, hb⟩
  have K5 := Lib.hid (K4.out.kept hb)
  have B5 := Lib.hid (Dsc.below_then B4.out B4.out.size hb)
  clear hb K4 B4
  clear kc0 kc1
  have kc0 := K5.out.cell 0
  have kc1 := K5.out.cell 1
  simp at kc0 kc1
  go_wp2_with fail
  refine Dsc.wp_region_any_drew (by kernel_rfl) ?_
  refine wpAny_take (i := 0) (v := .string A) rfl (by decide +kernel) (by decide +kernel) (by decide +kernel) (fun _ _ _ h => h) (Or.inl ⟨by rfl, fun w => by rfl⟩) ?_
  try simp only [Act.put, Array.toArray_toList, List.getElem_toArray, List.getElem_cons_zero, List.getElem_cons_succ, List.setIfInBounds_toArray, List.set_cons_zero, List.set_cons_succ]
  refine wpAny_take (i := 1) (v := .string (A.extract 1 11)) rfl (by decide +kernel) (by decide +kernel) (by decide +kernel) (fun _ _ _ h => h) (Or.inl ⟨by rfl, fun w => by go_simp⟩) ?_
  try simp only [Act.put, Array.toArray_toList, List.getElem_toArray, List.getElem_cons_zero, List.getElem_cons_succ, List.setIfInBounds_toArray, List.set_cons_zero, List.set_cons_succ]
  refine wpAny_take (i := 2) (v := .string (⟨#[1]⟩ ++ A.extract 1 11)) rfl (by decide +kernel) (by decide +kernel) (by decide +kernel) (fun _ _ _ h => h) (Or.inl ⟨by rfl, fun w => by go_simp⟩) ?_
  try simp only [Act.put, Array.toArray_toList, List.getElem_toArray, List.getElem_cons_zero, List.getElem_cons_succ, List.setIfInBounds_toArray, List.set_cons_zero, List.set_cons_succ]
  refine wpAny_all (rs := [3]) (by decide +kernel) (by simp) ?_
  intro i hi
  obtain rfl : i = 3 := by simpa using hi
  clear hi
  refine Dsc.wpOp_value (w' := w5.drew) (v := .agg #[.int .i64 1, .int .i64 16]) rfl (by rfl) (by go_simp) ?_
  try simp only [Act.put, Array.toArray_toList, List.getElem_toArray, List.getElem_cons_zero, List.getElem_cons_succ, List.setIfInBounds_toArray, List.set_cons_zero, List.set_cons_succ]
  refine wpAny_all (rs := [4]) (by decide +kernel) (by simp) ?_
  intro i hi
  obtain rfl : i = 4 := by simpa using hi
  clear hi
  refine Dsc.wpOp_gen rfl (by rfl) ?_
  intro K' hK'
  go_simp
  refine (G1'.out _ (HT.out.of_ B5.out.drew)).mono ?_
  rintro e w6 ⟨rfl, hb⟩
  have K6 := Lib.hid (K5.out.drew.kept hb)
  have B6 := Lib.hid (Dsc.below_then B5.out.drew B5.out.size hb)
  clear hb K5 B5
  refine hK' _ _ ?_
  clear hK'
  try simp only [Act.put, Array.toArray_toList, List.getElem_toArray, List.getElem_cons_zero, List.getElem_cons_succ, List.setIfInBounds_toArray, List.set_cons_zero, List.set_cons_succ]
  refine wpAny_take (i := 5) (v := .tuple #[.string ⟨#[]⟩, .int .i64 2201]) rfl (by decide +kernel) (by decide +kernel) (by decide +kernel) (fun _ _ _ h => h) (Or.inl ⟨by rfl, fun w => by rfl⟩) ?_
  try simp only [Act.put, Array.toArray_toList, List.getElem_toArray, List.getElem_cons_zero, List.getElem_cons_succ, List.setIfInBounds_toArray, List.set_cons_zero, List.set_cons_succ]
  refine wpAny_take (i := 6) (v := .string ⟨#[]⟩) rfl (by decide +kernel) (by decide +kernel) (by decide +kernel) (fun _ _ _ h => h) (Or.inl ⟨by rfl, fun w => by rfl⟩) ?_
  try simp only [Act.put, Array.toArray_toList, List.getElem_toArray, List.getElem_cons_zero, List.getElem_cons_succ, List.setIfInBounds_toArray, List.set_cons_zero, List.set_cons_succ]
  refine wpAny_take (i := 7) (v := .int .i64 2201) rfl (by decide +kernel) (by decide +kernel) (by decide +kernel) (fun _ _ _ h => h) (Or.inl ⟨by rfl, fun w => by rfl⟩) ?_
  try simp only [Act.put, Array.toArray_toList, List.getElem_toArray, List.getElem_cons_zero, List.getElem_cons_succ, List.setIfInBounds_toArray, List.set_cons_zero, List.set_cons_succ]
  refine wpAny_take (i := 8) (v := .string ⟨#[]⟩) rfl (by decide +kernel) (by decide +kernel) (by decide +kernel) (fun _ _ _ h => h) (Or.inl ⟨by rfl, fun w => by rfl⟩) ?_
  try simp only [Act.put, Array.toArray_toList, List.getElem_toArray, List.getElem_cons_zero, List.getElem_cons_succ, List.setIfInBounds_toArray, List.set_cons_zero, List.set_cons_succ]
  refine wpAny_take (i := 9) (v := .int .i64 2201) rfl (by decide +kernel) (by decide +kernel) (by decide +kernel) (fun _ _ _ h => h) (Or.inl ⟨by rfl, fun w => by rfl⟩) ?_
  try simp only [Act.put, Array.toArray_toList, List.getElem_toArray, List.getElem_cons_zero, List.getElem_cons_succ, List.setIfInBounds_toArray, List.set_cons_zero, List.set_cons_succ]
  refine wpAny_done (by decide +kernel) ?_ _
  clear kc0 kc1
  have kc0 := K6.out.cell 0
  have kc1 := K6.out.cell 1
  simp at kc0 kc1
  go_wp2_with fail
  refine Dsc.wp_region_any_drew (by kernel_rfl) ?_
  refine wpAny_take (i := 0) (v := .string A) rfl (by decide +kernel) (by decide +kernel) (by decide +kernel) (fun _ _ _ h => h) (Or.inl ⟨by rfl, fun w => by rfl⟩) ?_
  try simp only [Act.put, Array.toArray_toList, List.getElem_toArray, List.getElem_cons_zero, List.getElem_cons_succ, List.setIfInBounds_toArray, List.set_cons_zero, List.set_cons_succ]
  refine wpAny_take (i := 1) (v := .string (A.extract 1 11)) rfl (by decide +kernel) (by decide +kernel) (by decide +kernel) (fun _ _ _ h => h) (Or.inl ⟨by rfl, fun w => by go_simp⟩) ?_
  try simp only [Act.put, Array.toArray_toList, List.getElem_toArray, List.getElem_cons_zero, List.getElem_cons_succ, List.setIfInBounds_toArray, List.set_cons_zero, List.set_cons_succ]
  refine wpAny_all (rs := [2]) (by decide +kernel) (by simp) ?_
  intro i hi
  obtain rfl : i = 2 := by simpa using hi
  clear hi
  refine Dsc.wpOp_value (w' := w6.drew) (v := .agg #[.int .i64 1, .int .i64 16]) rfl (by rfl) (by go_simp) ?_
  try simp only [Act.put, Array.toArray_toList, List.getElem_toArray, List.getElem_cons_zero, List.getElem_cons_succ, List.setIfInBounds_toArray, List.set_cons_zero, List.set_cons_succ]
  refine wpAny_all (rs := [3]) (by decide +kernel) (by simp) ?_
  intro i hi
  obtain rfl : i = 3 := by simpa using hi
  clear hi
  refine Dsc.wpOp_gen rfl (by rfl) ?_
  intro K' hK'
  go_simp
  refine (G2'.out _ (HT.out.of_ B6.out.drew)).mono ?_
  rintro e w7 ⟨rfl, hb⟩
  have K7 := Lib.hid (K6.out.drew.kept hb)
  have B7 := Lib.hid (Dsc.below_then B6.out.drew B6.out.size hb)
  clear hb K6 B6
  refine hK' _ _ ?_
  clear hK'
  try simp only [Act.put, Array.toArray_toList, List.getElem_toArray, List.getElem_cons_zero, List.getElem_cons_succ, List.setIfInBounds_toArray, List.set_cons_zero, List.set_cons_succ]
  refine wpAny_take (i := 4) (v := .tuple #[.string ⟨#[]⟩, .int .i64 2200]) rfl (by decide +kernel) (by decide +kernel) (by decide +kernel) (fun _ _ _ h => h) (Or.inl ⟨by rfl, fun w => by rfl⟩) ?_
  try simp only [Act.put, Array.toArray_toList, List.getElem_toArray, List.getElem_cons_zero, List.getElem_cons_succ, List.setIfInBounds_toArray, List.set_cons_zero, List.set_cons_succ]
  refine wpAny_take (i := 5) (v := .string ⟨#[]⟩) rfl (by decide +kernel) (by decide +kernel) (by decide +kernel) (fun _ _ _ h => h) (Or.inl ⟨by rfl, fun w => by rfl⟩) ?_
  try simp only [Act.put, Array.toArray_toList, List.getElem_toArray, List.getElem_cons_zero, List.getElem_cons_succ, List.setIfInBounds_toArray, List.set_cons_zero, List.set_cons_succ]
  refine wpAny_take (i := 6) (v := .int .i64 2200) rfl (by decide +kernel) (by decide +kernel) (by decide +kernel) (fun _ _ _ h => h) (Or.inl ⟨by rfl, fun w => by rfl⟩) ?_
  try simp only [Act.put, Array.toArray_toList, List.getElem_toArray, List.getElem_cons_zero, List.getElem_cons_succ, List.setIfInBounds_toArray, List.set_cons_zero, List.set_cons_succ]
  refine wpAny_take (i := 7) (v := .string ⟨#[]⟩) rfl (by decide +kernel) (by decide +kernel) (by decide +kernel) (fun _ _ _ h => h) (Or.inl ⟨by rfl, fun w => by rfl⟩) ?_
  try simp only [Act.put, Array.toArray_toList, List.getElem_toArray, List.getElem_cons_zero, List.getElem_cons_succ, List.setIfInBounds_toArray, List.set_cons_zero, List.set_cons_succ]
  refine wpAny_take (i := 8) (v := .int .i64 2200) rfl (by decide +kernel) (by decide +kernel) (by decide +kernel) (fun _ _ _ h => h) (Or.inl ⟨by rfl, fun w => by rfl⟩) ?_
  try simp only [Act.put, Array.toArray_toList, List.getElem_toArray, List.getElem_cons_zero, List.getElem_cons_succ, List.setIfInBounds_toArray, List.set_cons_zero, List.set_cons_succ]
  refine wpAny_done (by decide +kernel) ?_ _
  clear kc0 kc1
  go_wp2_with (first | (go_at_call 13; refine (NM.out _ _).mono ?_; rintro e w' ⟨rfl, ⟨n, hn⟩⟩; subst hn) | (go_at_call 16; refine (CR.out _).mono ?_; rintro e w8 ⟨rfl, hb8⟩; have B8 := Lib.hid hb8; clear hb8))
  go_ret
  exact ⟨rfl, Dsc.below_then (w1 := w7.drewN _) (Dsc.below_drewN B7.out _) B7.out.size B8.out⟩
def descantlaw22_awake.f : Option Bool := some true
theorem descantlaw22_awake.calls (r : Bool) (w : World) (h : descantlaw22_awake.f = some r) (htw : TW w) :
    Calls Tryz.prog 11 #[] w fun e w' => e = .returned (.bool r) ∧ Below w.heap.size w w' := by
  cases h
  exact awake_any w htw
end Go.Proofs.YtbapmfghipcebaaGreatDoor.S
end
section
/- The walk of SegmentOne. -/
set_option linter.unusedVariables false
set_option linter.unusedSimpArgs false
namespace Go.Proofs.YtbapmfghipcebaaGreatDoor.S
open Go Go.RowKit Go.Proofs Go.Proofs.YtbapmfghipcebaaGreatDoorW.PrintWords
open Dsc (bs Fmt Frm fsize byteN low b8)

theorem one_frm {l : List UInt8} {c b : Nat} (hf : Fmt c b) (hl : l.length = fsize c b) : Frm l c b := by
  have h := hf.fs
  exact ⟨hf, by omega, by rw [hl, Nat.mod_self], by omega⟩
theorem one_kind {l : List UInt8} {c b : Nat} (hf : Fmt c b) (hl : l.length = fsize c b) : Dsc.kindOf l c b = (2, 0, l) := by
  have h := hf.fs
  have ht : l.take (fsize c b) = l := by rw [← hl, List.take_length]
  have hc : Dsc.isConst l (fsize c b) = true := by
    unfold Dsc.isConst
    rw [ht, hl, Nat.div_self (by omega), beq_iff_eq]
    simp
  unfold Dsc.kindOf
  rw [if_pos hc, ht]
theorem one_seg {l : List UInt8} {c b : Nat} (hf : Fmt c b) (hl : l.length = fsize c b) : Dsc.putSeg l c b = Dsc.told 2 0 1 l := by
  have h := hf.fs
  unfold Dsc.putSeg
  rw [one_kind hf hl, hl, Nat.div_self (by omega)]
theorem one_head {l : List UInt8} (hl : l.length ≤ 4) : (Dsc.told 2 0 1 l).take 5 = [2, 0, 1, byteN l.length, 0] := by
  have e : byteN (l.length / 256) = 0 := by rw [Nat.div_eq_of_lt (by omega)]; rfl
  simp only [Dsc.told, Dsc.headOf, low, List.cons_append, List.nil_append, List.append_assoc, List.take_succ_cons, List.take_zero, e]
  rfl
theorem one_conv {W : World} {g : Nat} {x0 x1 x2 x3 : Int} {D : ByteArray} (h : Dsc.Blk W g 5 #[.int .u8 x0, .int .u8 x1, .int .u8 x2, .int .u8 x3]) (hD : bs [b8 x0, b8 x1, b8 x2, b8 x3] = D) : (convert 29 9 (.slice (some ⟨g, 0, none⟩) 4 4)).run Tryz.prog W = .ok (.string D) W := by
  rw [← hD]
  exact run_convert_bytes_arg _ _ _ Tryz.underlying29 Tryz.underlying5 _ 0 4 4 [x0, x1, x2, x3] rfl (fun i hi => by
    rw [h.cell]
    match i, hi with
    | 0, _ => rfl
    | 1, _ => rfl
    | 2, _ => rfl
    | 3, _ => rfl
    ) _ Tryz.underlying9
theorem one_conv5 {W : World} {g : Nat} {x0 x1 x2 x3 x4 : Int} {D : ByteArray} (h : Dsc.Blk W g 5 #[.int .u8 x0, .int .u8 x1, .int .u8 x2, .int .u8 x3, .int .u8 x4]) (hD : bs [b8 x0, b8 x1, b8 x2, b8 x3, b8 x4] = D) : (convert 29 9 (.slice (some ⟨g, 0, none⟩) 5 5)).run Tryz.prog W = .ok (.string D) W := by
  rw [← hD]
  exact run_convert_bytes_arg _ _ _ Tryz.underlying29 Tryz.underlying5 _ 0 5 5 [x0, x1, x2, x3, x4] rfl (fun i hi => by
    rw [h.cell]
    match i, hi with
    | 0, _ => rfl
    | 1, _ => rfl
    | 2, _ => rfl
    | 3, _ => rfl
    | 4, _ => rfl
    ) _ Tryz.underlying9
def oneFst : Code → Code
  | .seq x _ => x
  | x => x
def oneSnd : Code → Code
  | .seq _ y => y
  | x => x
set_option maxRecDepth 100000 in
set_option maxHeartbeats 8000000 in
theorem one_r8 (Q : Exit → Act → World → Prop) (hQ : ∀ c (a : Act) d v w, Q (.panic c) (a.put d v) w → Q (.panic c) a w) (v c b x0 x1 x2 x3 : Int) (fs F : Nat) (D : ByteArray) (l : List UInt8) (z1 z2 z3 z4 z5 z13 z14 z15 z16 z17 z18 z19 : Value) (w W0 : World)
    (e0 : v % 256 = x0) (e1 : v / 256 % 256 = x1) (e2 : v / 65536 % 256 = x2) (e3 : v / 16777216 % 256 = x3) (hD0 : bs [b8 x0, b8 x1, b8 x2, b8 x3] = D) (hl : D.extract 0 fs = bs l) (hf1 : fs ≤ 4)
    (hK : Dsc.Blk W0 F 23 #[.int .i64 c, .int .i64 b]) (hB : Below w.heap.size w W0) (HS0 : ∀ W, Calls Tryz.prog 19 #[.agg #[.int .i64 c, .int .i64 b]] W fun e w' => e = .returned (.int .i64 (fs : Int)) ∧ Below W.heap.size W w')
    (H0 : ∀ (g : Nat) (W : World), Below w.heap.size w W → Dsc.Blk W F 23 #[.int .i64 c, .int .i64 b] → Q .normal ⟨#[.int .i64 v, z1, z2, z3, z4, z5, .bool false, .pointer (some ⟨F, 0, none⟩), .string (bs l), undef, undef, undef, undef, z13, z14, z15, z16, z17, z18, z19, .int .i64 v, .int .u8 x0, .int .i64 v, .int .i64 (v / 256), .int .u8 x1, .int .i64 v, .int .i64 (v / 65536), .int .u8 x2, .int .i64 v, .int .i64 (v / 16777216), .int .u8 x3, .slice (some ⟨g, 0, none⟩) 4 4, .string D, .agg #[.int .i64 c, .int .i64 b], .int .i64 (fs : Int), .string (bs l), undef, undef, undef, undef, undef, undef, undef, undef, undef, undef, undef, undef, undef, undef, undef, undef, undef, undef, undef, undef, undef, undef, undef, undef, undef, undef, undef, undef, undef, undef, undef, undef, undef, undef, undef, undef, undef, undef, undef, undef, undef, undef, undef], []⟩ W) : Code.wp Tryz.prog (oneFst (oneSnd (oneSnd (oneSnd (oneSnd (oneSnd (Tryz.f10.body.getD Code.skip))))))) Q ⟨#[.int .i64 v, z1, z2, z3, z4, z5, .bool false, .pointer (some ⟨F, 0, none⟩), undef, undef, undef, undef, undef, z13, z14, z15, z16, z17, z18, z19, undef, undef, undef, undef, undef, undef, undef, undef, undef, undef, undef, undef, undef, undef, undef, undef, undef, undef, undef, undef, undef, undef, undef, undef, undef, undef, undef, undef, undef, undef, undef, undef, undef, undef, undef, undef, undef, undef, undef, undef, undef, undef, undef, undef, undef, undef, undef, undef, undef, undef, undef, undef, undef, undef, undef, undef, undef, undef, undef], []⟩ W0 := by
  have KF := Lib.hid hK
  have BF := Lib.hid hB
  have HS := Lib.hid HS0
  have H := Lib.hid H0
  have hD := Lib.hid hD0
  have hDl := Lib.hid hl
  have hDs := Lib.hid (show D.size = 4 by rw [← hD0]; rfl)
  have f0 : (0 : Int) ≤ (fs : Int) := by omega
  have f4 : (fs : Int) ≤ 4 := by omega
  have f5 : (fs : Int).toNat = fs := by omega
  clear hK hB HS0 H0 hD0 hl
  refine Dsc.wp_region_any_drew (by kernel_rfl) ?_
  have KF := Lib.hid (KF.out.drew)
  have BF := Lib.hid (BF.out.drew)
  generalize W0.drew = W1 at KF BF ⊢
  try simp only [Act.put, Array.toArray_toList, List.getElem_toArray, List.getElem_cons_zero, List.getElem_cons_succ, List.setIfInBounds_toArray, List.set_cons_zero, List.set_cons_succ]
  refine wpAny_take (i := 0) (v := .int .i64 v) rfl (by decide +kernel) (by decide +kernel) (by decide +kernel) (fun _ _ _ h => hQ _ _ _ _ _ h) (Or.inl ⟨by rfl, fun w => by go_simp⟩) ?_
  try simp only [Act.put, Array.toArray_toList, List.getElem_toArray, List.getElem_cons_zero, List.getElem_cons_succ, List.setIfInBounds_toArray, List.set_cons_zero, List.set_cons_succ]
  refine wpAny_take (i := 1) (v := .int .u8 x0) rfl (by decide +kernel) (by decide +kernel) (by decide +kernel) (fun _ _ _ h => hQ _ _ _ _ _ h) (Or.inl ⟨by rfl, fun w => by go_simp; exact (IntKind.wrap_u8' _).trans e0⟩) ?_
  try simp only [Act.put, Array.toArray_toList, List.getElem_toArray, List.getElem_cons_zero, List.getElem_cons_succ, List.setIfInBounds_toArray, List.set_cons_zero, List.set_cons_succ]
  refine wpAny_take (i := 2) (v := .int .i64 v) rfl (by decide +kernel) (by decide +kernel) (by decide +kernel) (fun _ _ _ h => hQ _ _ _ _ _ h) (Or.inl ⟨by rfl, fun w => by go_simp⟩) ?_
  try simp only [Act.put, Array.toArray_toList, List.getElem_toArray, List.getElem_cons_zero, List.getElem_cons_succ, List.setIfInBounds_toArray, List.set_cons_zero, List.set_cons_succ]
  refine wpAny_take (i := 3) (v := .int .i64 (v / 256)) rfl (by decide +kernel) (by decide +kernel) (by decide +kernel) (fun _ _ _ h => hQ _ _ _ _ _ h) (Or.inl ⟨by rfl, fun w => by go_simp⟩) ?_
  try simp only [Act.put, Array.toArray_toList, List.getElem_toArray, List.getElem_cons_zero, List.getElem_cons_succ, List.setIfInBounds_toArray, List.set_cons_zero, List.set_cons_succ]
  refine wpAny_take (i := 4) (v := .int .u8 x1) rfl (by decide +kernel) (by decide +kernel) (by decide +kernel) (fun _ _ _ h => hQ _ _ _ _ _ h) (Or.inl ⟨by rfl, fun w => by go_simp; exact (IntKind.wrap_u8' _).trans e1⟩) ?_
  try simp only [Act.put, Array.toArray_toList, List.getElem_toArray, List.getElem_cons_zero, List.getElem_cons_succ, List.setIfInBounds_toArray, List.set_cons_zero, List.set_cons_succ]
  refine wpAny_take (i := 5) (v := .int .i64 v) rfl (by decide +kernel) (by decide +kernel) (by decide +kernel) (fun _ _ _ h => hQ _ _ _ _ _ h) (Or.inl ⟨by rfl, fun w => by go_simp⟩) ?_
  try simp only [Act.put, Array.toArray_toList, List.getElem_toArray, List.getElem_cons_zero, List.getElem_cons_succ, List.setIfInBounds_toArray, List.set_cons_zero, List.set_cons_succ]
  refine wpAny_take (i := 6) (v := .int .i64 (v / 65536)) rfl (by decide +kernel) (by decide +kernel) (by decide +kernel) (fun _ _ _ h => hQ _ _ _ _ _ h) (Or.inl ⟨by rfl, fun w => by go_simp⟩) ?_
  try simp only [Act.put, Array.toArray_toList, List.getElem_toArray, List.getElem_cons_zero, List.getElem_cons_succ, List.setIfInBounds_toArray, List.set_cons_zero, List.set_cons_succ]
  refine wpAny_take (i := 7) (v := .int .u8 x2) rfl (by decide +kernel) (by decide +kernel) (by decide +kernel) (fun _ _ _ h => hQ _ _ _ _ _ h) (Or.inl ⟨by rfl, fun w => by go_simp; exact (IntKind.wrap_u8' _).trans e2⟩) ?_
  try simp only [Act.put, Array.toArray_toList, List.getElem_toArray, List.getElem_cons_zero, List.getElem_cons_succ, List.setIfInBounds_toArray, List.set_cons_zero, List.set_cons_succ]
  refine wpAny_take (i := 8) (v := .int .i64 v) rfl (by decide +kernel) (by decide +kernel) (by decide +kernel) (fun _ _ _ h => hQ _ _ _ _ _ h) (Or.inl ⟨by rfl, fun w => by go_simp⟩) ?_
  try simp only [Act.put, Array.toArray_toList, List.getElem_toArray, List.getElem_cons_zero, List.getElem_cons_succ, List.setIfInBounds_toArray, List.set_cons_zero, List.set_cons_succ]
  refine wpAny_take (i := 9) (v := .int .i64 (v / 16777216)) rfl (by decide +kernel) (by decide +kernel) (by decide +kernel) (fun _ _ _ h => hQ _ _ _ _ _ h) (Or.inl ⟨by rfl, fun w => by go_simp⟩) ?_
  try simp only [Act.put, Array.toArray_toList, List.getElem_toArray, List.getElem_cons_zero, List.getElem_cons_succ, List.setIfInBounds_toArray, List.set_cons_zero, List.set_cons_succ]
  refine wpAny_take (i := 10) (v := .int .u8 x3) rfl (by decide +kernel) (by decide +kernel) (by decide +kernel) (fun _ _ _ h => hQ _ _ _ _ _ h) (Or.inl ⟨by rfl, fun w => by go_simp; exact (IntKind.wrap_u8' _).trans e3⟩) ?_
  try simp only [Act.put, Array.toArray_toList, List.getElem_toArray, List.getElem_cons_zero, List.getElem_cons_succ, List.setIfInBounds_toArray, List.set_cons_zero, List.set_cons_succ]
  refine wpAny_all (rs := [11, 13]) (by decide +kernel) (by simp) ?_
  intro i hi
  rcases (show i = 11 ∨ i = 13 by simpa using hi) with rfl | rfl
  · clear hi
    refine Dsc.wpOp_value (w' := W1.alloc (.cells #[.int .u8 x0, .int .u8 x1, .int .u8 x2, .int .u8 x3] 5)) (v := .slice (some ⟨W1.heap.size, 0, none⟩) 4 4) rfl (by rfl) (by go_simp) ?_
    try simp only [Act.put, Array.toArray_toList, List.getElem_toArray, List.getElem_cons_zero, List.getElem_cons_succ, List.setIfInBounds_toArray, List.set_cons_zero, List.set_cons_succ]
    have KB := Lib.hid (Dsc.Blk.new W1 5 #[.int .u8 x0, .int .u8 x1, .int .u8 x2, .int .u8 x3])
    have KF := Lib.hid (KF.out.alloc (.cells #[.int .u8 x0, .int .u8 x1, .int .u8 x2, .int .u8 x3] 5))
    have BF := Lib.hid (show Below w.heap.size w (W1.alloc (.cells #[.int .u8 x0, .int .u8 x1, .int .u8 x2, .int .u8 x3] 5)) from Dsc.below_then BF.out BF.out.size (by go_grown))
    obtain ⟨g, hg⟩ : ∃ g, W1.heap.size = g := ⟨_, rfl⟩
    rw [hg] at KB ⊢
    generalize W1.alloc (.cells #[.int .u8 x0, .int .u8 x1, .int .u8 x2, .int .u8 x3] 5) = W5 at KB KF BF ⊢
    clear hg
    refine wpAny_all (rs := [12, 13]) (by decide +kernel) (by simp) ?_
    intro i hi
    rcases (show i = 12 ∨ i = 13 by simpa using hi) with rfl | rfl
    · clear hi
      have hcv := one_conv KB.out hD.out
      refine Dsc.wpOp_value (w' := W5) (v := .string D) rfl (by rfl) (by go_simp) ?_
      try simp only [Act.put, Array.toArray_toList, List.getElem_toArray, List.getElem_cons_zero, List.getElem_cons_succ, List.setIfInBounds_toArray, List.set_cons_zero, List.set_cons_succ]
      clear hcv
      refine wpAny_all (rs := [13]) (by decide +kernel) (by simp) ?_
      intro i hi
      obtain rfl : i = 13 := by simpa using hi
      clear hi
      have kc0 := KF.out.cell 0
      have kc1 := KF.out.cell 1
      simp at kc0 kc1
      refine Dsc.wpOp_value (w' := W5) (v := .agg #[.int .i64 c, .int .i64 b]) rfl (by rfl) (by go_simp) ?_
      try simp only [Act.put, Array.toArray_toList, List.getElem_toArray, List.getElem_cons_zero, List.getElem_cons_succ, List.setIfInBounds_toArray, List.set_cons_zero, List.set_cons_succ]
      clear kc0 kc1
      refine wpAny_all (rs := [14]) (by decide +kernel) (by simp) ?_
      intro i hi
      obtain rfl : i = 14 := by simpa using hi
      clear hi
      refine Dsc.wpOp_gen rfl (by rfl) ?_
      intro K' hK'
      go_simp
      refine (HS.out _).mono ?_
      rintro e W8 ⟨rfl, hb⟩
      have KF := Lib.hid (KF.out.kept hb)
      have KB := Lib.hid (KB.out.kept hb)
      have BF := Lib.hid (Dsc.below_then BF.out BF.out.size hb)
      clear hb
      refine hK' _ _ ?_
      clear hK'
      try simp only [Act.put, Array.toArray_toList, List.getElem_toArray, List.getElem_cons_zero, List.getElem_cons_succ, List.setIfInBounds_toArray, List.set_cons_zero, List.set_cons_succ]
      refine wpAny_take (i := 15) (v := .string (bs l)) rfl (by decide +kernel) (by decide +kernel) (by decide +kernel) (fun _ _ _ h => hQ _ _ _ _ _ h) (Or.inl ⟨by rfl, fun w => by have hds := hDs.out; have hdl := hDl.out; go_simp⟩) ?_
      try simp only [Act.put, Array.toArray_toList, List.getElem_toArray, List.getElem_cons_zero, List.getElem_cons_succ, List.setIfInBounds_toArray, List.set_cons_zero, List.set_cons_succ]
      refine wpAny_take (i := 16) (v := .string (bs l)) rfl (by decide +kernel) (by decide +kernel) (by decide +kernel) (fun _ _ _ h => hQ _ _ _ _ _ h) (Or.inl ⟨by rfl, fun w => by go_simp⟩) ?_
      try simp only [Act.put, Array.toArray_toList, List.getElem_toArray, List.getElem_cons_zero, List.getElem_cons_succ, List.setIfInBounds_toArray, List.set_cons_zero, List.set_cons_succ]
      refine wpAny_done (by decide +kernel) ?_ _
      exact H.out _ _ BF.out KF.out
    · clear hi
      have kc0 := KF.out.cell 0
      have kc1 := KF.out.cell 1
      simp at kc0 kc1
      refine Dsc.wpOp_value (w' := W5) (v := .agg #[.int .i64 c, .int .i64 b]) rfl (by rfl) (by go_simp) ?_
      try simp only [Act.put, Array.toArray_toList, List.getElem_toArray, List.getElem_cons_zero, List.getElem_cons_succ, List.setIfInBounds_toArray, List.set_cons_zero, List.set_cons_succ]
      clear kc0 kc1
      refine wpAny_all (rs := [12, 14]) (by decide +kernel) (by simp) ?_
      intro i hi
      rcases (show i = 12 ∨ i = 14 by simpa using hi) with rfl | rfl
      · clear hi
        have hcv := one_conv KB.out hD.out
        refine Dsc.wpOp_value (w' := W5) (v := .string D) rfl (by rfl) (by go_simp) ?_
        try simp only [Act.put, Array.toArray_toList, List.getElem_toArray, List.getElem_cons_zero, List.getElem_cons_succ, List.setIfInBounds_toArray, List.set_cons_zero, List.set_cons_succ]
        clear hcv
        refine wpAny_all (rs := [14]) (by decide +kernel) (by simp) ?_
        intro i hi
        obtain rfl : i = 14 := by simpa using hi
        clear hi
        refine Dsc.wpOp_gen rfl (by rfl) ?_
        intro K' hK'
        go_simp
        refine (HS.out _).mono ?_
        rintro e W8 ⟨rfl, hb⟩
        have KF := Lib.hid (KF.out.kept hb)
        have KB := Lib.hid (KB.out.kept hb)
        have BF := Lib.hid (Dsc.below_then BF.out BF.out.size hb)
        clear hb
        refine hK' _ _ ?_
        clear hK'
        try simp only [Act.put, Array.toArray_toList, List.getElem_toArray, List.getElem_cons_zero, List.getElem_cons_succ, List.setIfInBounds_toArray, List.set_cons_zero, List.set_cons_succ]
        refine wpAny_take (i := 15) (v := .string (bs l)) rfl (by decide +kernel) (by decide +kernel) (by decide +kernel) (fun _ _ _ h => hQ _ _ _ _ _ h) (Or.inl ⟨by rfl, fun w => by have hds := hDs.out; have hdl := hDl.out; go_simp⟩) ?_
        try simp only [Act.put, Array.toArray_toList, List.getElem_toArray, List.getElem_cons_zero, List.getElem_cons_succ, List.setIfInBounds_toArray, List.set_cons_zero, List.set_cons_succ]
        refine wpAny_take (i := 16) (v := .string (bs l)) rfl (by decide +kernel) (by decide +kernel) (by decide +kernel) (fun _ _ _ h => hQ _ _ _ _ _ h) (Or.inl ⟨by rfl, fun w => by go_simp⟩) ?_
        try simp only [Act.put, Array.toArray_toList, List.getElem_toArray, List.getElem_cons_zero, List.getElem_cons_succ, List.setIfInBounds_toArray, List.set_cons_zero, List.set_cons_succ]
        refine wpAny_done (by decide +kernel) ?_ _
        exact H.out _ _ BF.out KF.out
      · clear hi
        refine Dsc.wpOp_gen rfl (by rfl) ?_
        intro K' hK'
        go_simp
        refine (HS.out _).mono ?_
        rintro e W7 ⟨rfl, hb⟩
        have KF := Lib.hid (KF.out.kept hb)
        have KB := Lib.hid (KB.out.kept hb)
        have BF := Lib.hid (Dsc.below_then BF.out BF.out.size hb)
        clear hb
        refine hK' _ _ ?_
        clear hK'
        try simp only [Act.put, Array.toArray_toList, List.getElem_toArray, List.getElem_cons_zero, List.getElem_cons_succ, List.setIfInBounds_toArray, List.set_cons_zero, List.set_cons_succ]
        refine wpAny_all (rs := [12]) (by decide +kernel) (by simp) ?_
        intro i hi
        obtain rfl : i = 12 := by simpa using hi
        clear hi
        have hcv := one_conv KB.out hD.out
        refine Dsc.wpOp_value (w' := W7) (v := .string D) rfl (by rfl) (by go_simp) ?_
        try simp only [Act.put, Array.toArray_toList, List.getElem_toArray, List.getElem_cons_zero, List.getElem_cons_succ, List.setIfInBounds_toArray, List.set_cons_zero, List.set_cons_succ]
        clear hcv
        refine wpAny_take (i := 15) (v := .string (bs l)) rfl (by decide +kernel) (by decide +kernel) (by decide +kernel) (fun _ _ _ h => hQ _ _ _ _ _ h) (Or.inl ⟨by rfl, fun w => by have hds := hDs.out; have hdl := hDl.out; go_simp⟩) ?_
        try simp only [Act.put, Array.toArray_toList, List.getElem_toArray, List.getElem_cons_zero, List.getElem_cons_succ, List.setIfInBounds_toArray, List.set_cons_zero, List.set_cons_succ]
        refine wpAny_take (i := 16) (v := .string (bs l)) rfl (by decide +kernel) (by decide +kernel) (by decide +kernel) (fun _ _ _ h => hQ _ _ _ _ _ h) (Or.inl ⟨by rfl, fun w => by go_simp⟩) ?_
        try simp only [Act.put, Array.toArray_toList, List.getElem_toArray, List.getElem_cons_zero, List.getElem_cons_succ, List.setIfInBounds_toArray, List.set_cons_zero, List.set_cons_succ]
        refine wpAny_done (by decide +kernel) ?_ _
        exact H.out _ _ BF.out KF.out
  · clear hi
    have kc0 := KF.out.cell 0
    have kc1 := KF.out.cell 1
    simp at kc0 kc1
    refine Dsc.wpOp_value (w' := W1) (v := .agg #[.int .i64 c, .int .i64 b]) rfl (by rfl) (by go_simp) ?_
    try simp only [Act.put, Array.toArray_toList, List.getElem_toArray, List.getElem_cons_zero, List.getElem_cons_succ, List.setIfInBounds_toArray, List.set_cons_zero, List.set_cons_succ]
    clear kc0 kc1
    refine wpAny_all (rs := [11, 14]) (by decide +kernel) (by simp) ?_
    intro i hi
    rcases (show i = 11 ∨ i = 14 by simpa using hi) with rfl | rfl
    · clear hi
      refine Dsc.wpOp_value (w' := W1.alloc (.cells #[.int .u8 x0, .int .u8 x1, .int .u8 x2, .int .u8 x3] 5)) (v := .slice (some ⟨W1.heap.size, 0, none⟩) 4 4) rfl (by rfl) (by go_simp) ?_
      try simp only [Act.put, Array.toArray_toList, List.getElem_toArray, List.getElem_cons_zero, List.getElem_cons_succ, List.setIfInBounds_toArray, List.set_cons_zero, List.set_cons_succ]
      have KB := Lib.hid (Dsc.Blk.new W1 5 #[.int .u8 x0, .int .u8 x1, .int .u8 x2, .int .u8 x3])
      have KF := Lib.hid (KF.out.alloc (.cells #[.int .u8 x0, .int .u8 x1, .int .u8 x2, .int .u8 x3] 5))
      have BF := Lib.hid (show Below w.heap.size w (W1.alloc (.cells #[.int .u8 x0, .int .u8 x1, .int .u8 x2, .int .u8 x3] 5)) from Dsc.below_then BF.out BF.out.size (by go_grown))
      obtain ⟨g, hg⟩ : ∃ g, W1.heap.size = g := ⟨_, rfl⟩
      rw [hg] at KB ⊢
      generalize W1.alloc (.cells #[.int .u8 x0, .int .u8 x1, .int .u8 x2, .int .u8 x3] 5) = W6 at KB KF BF ⊢
      clear hg
      refine wpAny_all (rs := [12, 14]) (by decide +kernel) (by simp) ?_
      intro i hi
      rcases (show i = 12 ∨ i = 14 by simpa using hi) with rfl | rfl
      · clear hi
        have hcv := one_conv KB.out hD.out
        refine Dsc.wpOp_value (w' := W6) (v := .string D) rfl (by rfl) (by go_simp) ?_
        try simp only [Act.put, Array.toArray_toList, List.getElem_toArray, List.getElem_cons_zero, List.getElem_cons_succ, List.setIfInBounds_toArray, List.set_cons_zero, List.set_cons_succ]
        clear hcv
        refine wpAny_all (rs := [14]) (by decide +kernel) (by simp) ?_
        intro i hi
        obtain rfl : i = 14 := by simpa using hi
        clear hi
        refine Dsc.wpOp_gen rfl (by rfl) ?_
        intro K' hK'
        go_simp
        refine (HS.out _).mono ?_
        rintro e W8 ⟨rfl, hb⟩
        have KF := Lib.hid (KF.out.kept hb)
        have KB := Lib.hid (KB.out.kept hb)
        have BF := Lib.hid (Dsc.below_then BF.out BF.out.size hb)
        clear hb
        refine hK' _ _ ?_
        clear hK'
        try simp only [Act.put, Array.toArray_toList, List.getElem_toArray, List.getElem_cons_zero, List.getElem_cons_succ, List.setIfInBounds_toArray, List.set_cons_zero, List.set_cons_succ]
        refine wpAny_take (i := 15) (v := .string (bs l)) rfl (by decide +kernel) (by decide +kernel) (by decide +kernel) (fun _ _ _ h => hQ _ _ _ _ _ h) (Or.inl ⟨by rfl, fun w => by have hds := hDs.out; have hdl := hDl.out; go_simp⟩) ?_
        try simp only [Act.put, Array.toArray_toList, List.getElem_toArray, List.getElem_cons_zero, List.getElem_cons_succ, List.setIfInBounds_toArray, List.set_cons_zero, List.set_cons_succ]
        refine wpAny_take (i := 16) (v := .string (bs l)) rfl (by decide +kernel) (by decide +kernel) (by decide +kernel) (fun _ _ _ h => hQ _ _ _ _ _ h) (Or.inl ⟨by rfl, fun w => by go_simp⟩) ?_
        try simp only [Act.put, Array.toArray_toList, List.getElem_toArray, List.getElem_cons_zero, List.getElem_cons_succ, List.setIfInBounds_toArray, List.set_cons_zero, List.set_cons_succ]
        refine wpAny_done (by decide +kernel) ?_ _
        exact H.out _ _ BF.out KF.out
      · clear hi
        refine Dsc.wpOp_gen rfl (by rfl) ?_
        intro K' hK'
        go_simp
        refine (HS.out _).mono ?_
        rintro e W7 ⟨rfl, hb⟩
        have KF := Lib.hid (KF.out.kept hb)
        have KB := Lib.hid (KB.out.kept hb)
        have BF := Lib.hid (Dsc.below_then BF.out BF.out.size hb)
        clear hb
        refine hK' _ _ ?_
        clear hK'
        try simp only [Act.put, Array.toArray_toList, List.getElem_toArray, List.getElem_cons_zero, List.getElem_cons_succ, List.setIfInBounds_toArray, List.set_cons_zero, List.set_cons_succ]
        refine wpAny_all (rs := [12]) (by decide +kernel) (by simp) ?_
        intro i hi
        obtain rfl : i = 12 := by simpa using hi
        clear hi
        have hcv := one_conv KB.out hD.out
        refine Dsc.wpOp_value (w' := W7) (v := .string D) rfl (by rfl) (by go_simp) ?_
        try simp only [Act.put, Array.toArray_toList, List.getElem_toArray, List.getElem_cons_zero, List.getElem_cons_succ, List.setIfInBounds_toArray, List.set_cons_zero, List.set_cons_succ]
        clear hcv
        refine wpAny_take (i := 15) (v := .string (bs l)) rfl (by decide +kernel) (by decide +kernel) (by decide +kernel) (fun _ _ _ h => hQ _ _ _ _ _ h) (Or.inl ⟨by rfl, fun w => by have hds := hDs.out; have hdl := hDl.out; go_simp⟩) ?_
        try simp only [Act.put, Array.toArray_toList, List.getElem_toArray, List.getElem_cons_zero, List.getElem_cons_succ, List.setIfInBounds_toArray, List.set_cons_zero, List.set_cons_succ]
        refine wpAny_take (i := 16) (v := .string (bs l)) rfl (by decide +kernel) (by decide +kernel) (by decide +kernel) (fun _ _ _ h => hQ _ _ _ _ _ h) (Or.inl ⟨by rfl, fun w => by go_simp⟩) ?_
        try simp only [Act.put, Array.toArray_toList, List.getElem_toArray, List.getElem_cons_zero, List.getElem_cons_succ, List.setIfInBounds_toArray, List.set_cons_zero, List.set_cons_succ]
        refine wpAny_done (by decide +kernel) ?_ _
        exact H.out _ _ BF.out KF.out
    · clear hi
      refine Dsc.wpOp_gen rfl (by rfl) ?_
      intro K' hK'
      go_simp
      refine (HS.out _).mono ?_
      rintro e W6 ⟨rfl, hb⟩
      have KF := Lib.hid (KF.out.kept hb)
      have BF := Lib.hid (Dsc.below_then BF.out BF.out.size hb)
      clear hb
      refine hK' _ _ ?_
      clear hK'
      try simp only [Act.put, Array.toArray_toList, List.getElem_toArray, List.getElem_cons_zero, List.getElem_cons_succ, List.setIfInBounds_toArray, List.set_cons_zero, List.set_cons_succ]
      refine wpAny_all (rs := [11]) (by decide +kernel) (by simp) ?_
      intro i hi
      obtain rfl : i = 11 := by simpa using hi
      clear hi
      refine Dsc.wpOp_value (w' := W6.alloc (.cells #[.int .u8 x0, .int .u8 x1, .int .u8 x2, .int .u8 x3] 5)) (v := .slice (some ⟨W6.heap.size, 0, none⟩) 4 4) rfl (by rfl) (by go_simp) ?_
      try simp only [Act.put, Array.toArray_toList, List.getElem_toArray, List.getElem_cons_zero, List.getElem_cons_succ, List.setIfInBounds_toArray, List.set_cons_zero, List.set_cons_succ]
      have KB := Lib.hid (Dsc.Blk.new W6 5 #[.int .u8 x0, .int .u8 x1, .int .u8 x2, .int .u8 x3])
      have KF := Lib.hid (KF.out.alloc (.cells #[.int .u8 x0, .int .u8 x1, .int .u8 x2, .int .u8 x3] 5))
      have BF := Lib.hid (show Below w.heap.size w (W6.alloc (.cells #[.int .u8 x0, .int .u8 x1, .int .u8 x2, .int .u8 x3] 5)) from Dsc.below_then BF.out BF.out.size (by go_grown))
      obtain ⟨g, hg⟩ : ∃ g, W6.heap.size = g := ⟨_, rfl⟩
      rw [hg] at KB ⊢
      generalize W6.alloc (.cells #[.int .u8 x0, .int .u8 x1, .int .u8 x2, .int .u8 x3] 5) = W7 at KB KF BF ⊢
      clear hg
      refine wpAny_all (rs := [12]) (by decide +kernel) (by simp) ?_
      intro i hi
      obtain rfl : i = 12 := by simpa using hi
      clear hi
      have hcv := one_conv KB.out hD.out
      refine Dsc.wpOp_value (w' := W7) (v := .string D) rfl (by rfl) (by go_simp) ?_
      try simp only [Act.put, Array.toArray_toList, List.getElem_toArray, List.getElem_cons_zero, List.getElem_cons_succ, List.setIfInBounds_toArray, List.set_cons_zero, List.set_cons_succ]
      clear hcv
      refine wpAny_take (i := 15) (v := .string (bs l)) rfl (by decide +kernel) (by decide +kernel) (by decide +kernel) (fun _ _ _ h => hQ _ _ _ _ _ h) (Or.inl ⟨by rfl, fun w => by have hds := hDs.out; have hdl := hDl.out; go_simp⟩) ?_
      try simp only [Act.put, Array.toArray_toList, List.getElem_toArray, List.getElem_cons_zero, List.getElem_cons_succ, List.setIfInBounds_toArray, List.set_cons_zero, List.set_cons_succ]
      refine wpAny_take (i := 16) (v := .string (bs l)) rfl (by decide +kernel) (by decide +kernel) (by decide +kernel) (fun _ _ _ h => hQ _ _ _ _ _ h) (Or.inl ⟨by rfl, fun w => by go_simp⟩) ?_
      try simp only [Act.put, Array.toArray_toList, List.getElem_toArray, List.getElem_cons_zero, List.getElem_cons_succ, List.setIfInBounds_toArray, List.set_cons_zero, List.set_cons_succ]
      refine wpAny_done (by decide +kernel) ?_ _
      exact H.out _ _ BF.out KF.out
set_option maxRecDepth 100000 in
set_option maxHeartbeats 8000000 in
theorem one_r11 (Q : Exit → Act → World → Prop) (hQ : ∀ c (a : Act) d v w, Q (.panic c) (a.put d v) w → Q (.panic c) a w) (fs : Nat) (E : ByteArray) (l S : List UInt8) (y0 y1 y2 y3 y4 y5 y6 y7 y13 y14 y15 y16 y17 y18 y19 y20 y21 y22 y23 y24 y25 y26 y27 y28 y29 y30 y31 y32 y33 y34 y35 y36 y37 y38 y39 y40 y41 y42 y43 y44 y45 y46 y47 : Value) (w w4 : World)
    (hf1 : fs ≤ 4) (hs9 : (bs S).size = 9 + fs) (hl9 : (bs l).size = fs) (hE : (bs S).extract 0 5 = E) (hE0 : bs [b8 2, b8 0, b8 1, b8 (fs : Int), b8 0] = E) (hB : Below w.heap.size w w4)
    (H0 : ∀ (h : Nat) (W : World), Below w.heap.size w W → Q .normal ⟨#[y0, y1, y2, y3, y4, y5, .bool true, y7, .string (bs l), .string (bs S), .int .i64 0, .string (bs l), .int .i64 0, y13, y14, y15, y16, y17, y18, y19, y20, y21, y22, y23, y24, y25, y26, y27, y28, y29, y30, y31, y32, y33, y34, y35, y36, y37, y38, y39, y40, y41, y42, y43, y44, y45, y46, y47, .int .i64 0, .int .i64 0, .bool true, .bool true, .string (bs S), .int .i64 (9 + (fs : Int)), .string (bs l), .int .i64 (fs : Int), .int .i64 (9 + (fs : Int)), .bool true, .bool true, .bool true, .string (bs S), .string E, .string (bs l), .int .i64 (fs : Int), .int .u8 (fs : Int), .slice (some ⟨h, 0, none⟩) 5 5, .string E, .bool true, .bool true, .bool true, .string (bs l), .string (bs l), .bool true, .bool true, .bool true, .int .i64 0, .int .i64 0, .bool true, .bool true], []⟩ W) : Code.wp Tryz.prog (oneFst (oneSnd (oneSnd (oneSnd (oneSnd (oneSnd (oneSnd (oneSnd (oneSnd (Tryz.f10.body.getD Code.skip)))))))))) Q ⟨#[y0, y1, y2, y3, y4, y5, y6, y7, .string (bs l), .string (bs S), .int .i64 0, .string (bs l), .int .i64 0, y13, y14, y15, y16, y17, y18, y19, y20, y21, y22, y23, y24, y25, y26, y27, y28, y29, y30, y31, y32, y33, y34, y35, y36, y37, y38, y39, y40, y41, y42, y43, y44, y45, y46, y47, undef, undef, undef, undef, undef, undef, undef, undef, undef, undef, undef, undef, undef, undef, undef, undef, undef, undef, undef, undef, undef, undef, undef, undef, undef, undef, undef, undef, undef, undef, undef], []⟩ w4 := by
  have NM := Lib.hid (fun (x : Int) W => descantlaw0_Num.calls x x W rfl)
  have B4 := Lib.hid hB
  have H := Lib.hid H0
  have hE5 := Lib.hid hE0
  have u0 : IntKind.i64.wrap (9 + (fs : Int)) = 9 + (fs : Int) := by rw [IntKind.wrap_i64]; omega
  have u1 : IntKind.u8.wrap (fs : Int) = (fs : Int) := by rw [IntKind.wrap_u8']; omega
  have u2 : ((9 + fs : Nat) : Int) = 9 + (fs : Int) := by omega
  have u3 : (5 : Int) ≤ 9 + (fs : Int) := by omega
  have u4 : 5 ≤ 9 + fs := by omega
  clear hB H0 hE0
  refine Dsc.wp_region_any_drew (by kernel_rfl) ?_
  have B5 := Lib.hid (B4.out.drew)
  generalize w4.drew = V0 at B5 ⊢
  try simp only [Act.put, Array.toArray_toList, List.getElem_toArray, List.getElem_cons_zero, List.getElem_cons_succ, List.setIfInBounds_toArray, List.set_cons_zero, List.set_cons_succ]
  refine wpAny_take (i := 0) (v := .int .i64 0) rfl (by decide +kernel) (by decide +kernel) (by decide +kernel) (fun _ _ _ h => hQ _ _ _ _ _ h) (Or.inl ⟨by rfl, fun w => by go_simp⟩) ?_
  try simp only [Act.put, Array.toArray_toList, List.getElem_toArray, List.getElem_cons_zero, List.getElem_cons_succ, List.setIfInBounds_toArray, List.set_cons_zero, List.set_cons_succ]
  refine wpAny_all (rs := [1]) (by decide +kernel) (by simp) ?_
  intro i hi
  obtain rfl : i = 1 := by simpa using hi
  clear hi
  refine Dsc.wpOp_gen rfl (by rfl) ?_
  intro K' hK'
  go_simp
  refine (NM.out _ _).mono ?_
  rintro e V ⟨rfl, ⟨n, hn⟩⟩
  subst hn
  refine hK' _ _ ?_
  clear hK'
  try simp only [Act.put, Array.toArray_toList, List.getElem_toArray, List.getElem_cons_zero, List.getElem_cons_succ, List.setIfInBounds_toArray, List.set_cons_zero, List.set_cons_succ]
  have B6 := Lib.hid (Dsc.below_drewN B5.out n)
  generalize World.drewN _ n = V1 at B6 ⊢
  refine wpAny_take (i := 2) (v := .bool true) rfl (by decide +kernel) (by decide +kernel) (by decide +kernel) (fun _ _ _ h => hQ _ _ _ _ _ h) (Or.inl ⟨by rfl, fun w => by go_simp⟩) ?_
  try simp only [Act.put, Array.toArray_toList, List.getElem_toArray, List.getElem_cons_zero, List.getElem_cons_succ, List.setIfInBounds_toArray, List.set_cons_zero, List.set_cons_succ]
  refine wpAny_take (i := 3) (v := .bool true) rfl (by decide +kernel) (by decide +kernel) (by decide +kernel) (fun _ _ _ h => hQ _ _ _ _ _ h) (Or.inl ⟨by rfl, fun w => by go_simp⟩) ?_
  try simp only [Act.put, Array.toArray_toList, List.getElem_toArray, List.getElem_cons_zero, List.getElem_cons_succ, List.setIfInBounds_toArray, List.set_cons_zero, List.set_cons_succ]
  refine wpAny_take (i := 4) (v := .string (bs S)) rfl (by decide +kernel) (by decide +kernel) (by decide +kernel) (fun _ _ _ h => hQ _ _ _ _ _ h) (Or.inl ⟨by rfl, fun w => by go_simp⟩) ?_
  try simp only [Act.put, Array.toArray_toList, List.getElem_toArray, List.getElem_cons_zero, List.getElem_cons_succ, List.setIfInBounds_toArray, List.set_cons_zero, List.set_cons_succ]
  refine wpAny_take (i := 5) (v := .int .i64 (9 + (fs : Int))) rfl (by decide +kernel) (by decide +kernel) (by decide +kernel) (fun _ _ _ h => hQ _ _ _ _ _ h) (Or.inl ⟨by rfl, fun w => by go_simp⟩) ?_
  try simp only [Act.put, Array.toArray_toList, List.getElem_toArray, List.getElem_cons_zero, List.getElem_cons_succ, List.setIfInBounds_toArray, List.set_cons_zero, List.set_cons_succ]
  refine wpAny_take (i := 6) (v := .string (bs l)) rfl (by decide +kernel) (by decide +kernel) (by decide +kernel) (fun _ _ _ h => hQ _ _ _ _ _ h) (Or.inl ⟨by rfl, fun w => by go_simp⟩) ?_
  try simp only [Act.put, Array.toArray_toList, List.getElem_toArray, List.getElem_cons_zero, List.getElem_cons_succ, List.setIfInBounds_toArray, List.set_cons_zero, List.set_cons_succ]
  refine wpAny_take (i := 7) (v := .int .i64 (fs : Int)) rfl (by decide +kernel) (by decide +kernel) (by decide +kernel) (fun _ _ _ h => hQ _ _ _ _ _ h) (Or.inl ⟨by rfl, fun w => by go_simp⟩) ?_
  try simp only [Act.put, Array.toArray_toList, List.getElem_toArray, List.getElem_cons_zero, List.getElem_cons_succ, List.setIfInBounds_toArray, List.set_cons_zero, List.set_cons_succ]
  refine wpAny_take (i := 8) (v := .int .i64 (9 + (fs : Int))) rfl (by decide +kernel) (by decide +kernel) (by decide +kernel) (fun _ _ _ h => hQ _ _ _ _ _ h) (Or.inl ⟨by rfl, fun w => by go_simp⟩) ?_
  try simp only [Act.put, Array.toArray_toList, List.getElem_toArray, List.getElem_cons_zero, List.getElem_cons_succ, List.setIfInBounds_toArray, List.set_cons_zero, List.set_cons_succ]
  refine wpAny_take (i := 9) (v := .bool true) rfl (by decide +kernel) (by decide +kernel) (by decide +kernel) (fun _ _ _ h => hQ _ _ _ _ _ h) (Or.inl ⟨by rfl, fun w => by go_simp⟩) ?_
  try simp only [Act.put, Array.toArray_toList, List.getElem_toArray, List.getElem_cons_zero, List.getElem_cons_succ, List.setIfInBounds_toArray, List.set_cons_zero, List.set_cons_succ]
  refine wpAny_take (i := 10) (v := .bool true) rfl (by decide +kernel) (by decide +kernel) (by decide +kernel) (fun _ _ _ h => hQ _ _ _ _ _ h) (Or.inl ⟨by rfl, fun w => by go_simp⟩) ?_
  try simp only [Act.put, Array.toArray_toList, List.getElem_toArray, List.getElem_cons_zero, List.getElem_cons_succ, List.setIfInBounds_toArray, List.set_cons_zero, List.set_cons_succ]
  refine wpAny_take (i := 11) (v := .bool true) rfl (by decide +kernel) (by decide +kernel) (by decide +kernel) (fun _ _ _ h => hQ _ _ _ _ _ h) (Or.inl ⟨by rfl, fun w => by go_simp⟩) ?_
  try simp only [Act.put, Array.toArray_toList, List.getElem_toArray, List.getElem_cons_zero, List.getElem_cons_succ, List.setIfInBounds_toArray, List.set_cons_zero, List.set_cons_succ]
  refine wpAny_take (i := 12) (v := .string (bs S)) rfl (by decide +kernel) (by decide +kernel) (by decide +kernel) (fun _ _ _ h => hQ _ _ _ _ _ h) (Or.inl ⟨by rfl, fun w => by go_simp⟩) ?_
  try simp only [Act.put, Array.toArray_toList, List.getElem_toArray, List.getElem_cons_zero, List.getElem_cons_succ, List.setIfInBounds_toArray, List.set_cons_zero, List.set_cons_succ]
  refine wpAny_take (i := 13) (v := .string E) rfl (by decide +kernel) (by decide +kernel) (by decide +kernel) (fun _ _ _ h => hQ _ _ _ _ _ h) (Or.inl ⟨by rfl, fun w => by go_simp⟩) ?_
  try simp only [Act.put, Array.toArray_toList, List.getElem_toArray, List.getElem_cons_zero, List.getElem_cons_succ, List.setIfInBounds_toArray, List.set_cons_zero, List.set_cons_succ]
  refine wpAny_take (i := 14) (v := .string (bs l)) rfl (by decide +kernel) (by decide +kernel) (by decide +kernel) (fun _ _ _ h => hQ _ _ _ _ _ h) (Or.inl ⟨by rfl, fun w => by go_simp⟩) ?_
  try simp only [Act.put, Array.toArray_toList, List.getElem_toArray, List.getElem_cons_zero, List.getElem_cons_succ, List.setIfInBounds_toArray, List.set_cons_zero, List.set_cons_succ]
  refine wpAny_take (i := 15) (v := .int .i64 (fs : Int)) rfl (by decide +kernel) (by decide +kernel) (by decide +kernel) (fun _ _ _ h => hQ _ _ _ _ _ h) (Or.inl ⟨by rfl, fun w => by go_simp⟩) ?_
  try simp only [Act.put, Array.toArray_toList, List.getElem_toArray, List.getElem_cons_zero, List.getElem_cons_succ, List.setIfInBounds_toArray, List.set_cons_zero, List.set_cons_succ]
  refine wpAny_take (i := 16) (v := .int .u8 (fs : Int)) rfl (by decide +kernel) (by decide +kernel) (by decide +kernel) (fun _ _ _ h => hQ _ _ _ _ _ h) (Or.inl ⟨by rfl, fun w => by go_simp⟩) ?_
  try simp only [Act.put, Array.toArray_toList, List.getElem_toArray, List.getElem_cons_zero, List.getElem_cons_succ, List.setIfInBounds_toArray, List.set_cons_zero, List.set_cons_succ]
  refine wpAny_all (rs := [17]) (by decide +kernel) (by simp) ?_
  intro i hi
  obtain rfl : i = 17 := by simpa using hi
  clear hi
  refine Dsc.wpOp_value (w' := V1.alloc (.cells #[.int .u8 2, .int .u8 0, .int .u8 1, .int .u8 (fs : Int), .int .u8 0] 5)) (v := .slice (some ⟨V1.heap.size, 0, none⟩) 5 5) rfl (by rfl) (by go_simp) ?_
  try simp only [Act.put, Array.toArray_toList, List.getElem_toArray, List.getElem_cons_zero, List.getElem_cons_succ, List.setIfInBounds_toArray, List.set_cons_zero, List.set_cons_succ]
  have KB := Lib.hid (Dsc.Blk.new V1 5 #[.int .u8 2, .int .u8 0, .int .u8 1, .int .u8 (fs : Int), .int .u8 0])
  have B7 := Lib.hid (show Below w.heap.size w (V1.alloc (.cells #[.int .u8 2, .int .u8 0, .int .u8 1, .int .u8 (fs : Int), .int .u8 0] 5)) from Dsc.below_then B6.out B6.out.size (by go_grown))
  generalize V1.alloc (.cells #[.int .u8 2, .int .u8 0, .int .u8 1, .int .u8 (fs : Int), .int .u8 0] 5) = V2 at KB B7 ⊢
  generalize V1.heap.size = h at KB ⊢
  refine wpAny_all (rs := [18]) (by decide +kernel) (by simp) ?_
  intro i hi
  obtain rfl : i = 18 := by simpa using hi
  clear hi
  have hcv := one_conv5 KB.out hE5.out
  refine Dsc.wpOp_value (w' := V2) (v := .string E) rfl (by rfl) (by go_simp) ?_
  try simp only [Act.put, Array.toArray_toList, List.getElem_toArray, List.getElem_cons_zero, List.getElem_cons_succ, List.setIfInBounds_toArray, List.set_cons_zero, List.set_cons_succ]
  clear hcv
  refine wpAny_take (i := 19) (v := .bool true) rfl (by decide +kernel) (by decide +kernel) (by decide +kernel) (fun _ _ _ h => hQ _ _ _ _ _ h) (Or.inl ⟨by rfl, fun w => by go_simp⟩) ?_
  try simp only [Act.put, Array.toArray_toList, List.getElem_toArray, List.getElem_cons_zero, List.getElem_cons_succ, List.setIfInBounds_toArray, List.set_cons_zero, List.set_cons_succ]
  refine wpAny_take (i := 20) (v := .bool true) rfl (by decide +kernel) (by decide +kernel) (by decide +kernel) (fun _ _ _ h => hQ _ _ _ _ _ h) (Or.inl ⟨by rfl, fun w => by go_simp⟩) ?_
  try simp only [Act.put, Array.toArray_toList, List.getElem_toArray, List.getElem_cons_zero, List.getElem_cons_succ, List.setIfInBounds_toArray, List.set_cons_zero, List.set_cons_succ]
  refine wpAny_take (i := 21) (v := .bool true) rfl (by decide +kernel) (by decide +kernel) (by decide +kernel) (fun _ _ _ h => hQ _ _ _ _ _ h) (Or.inl ⟨by rfl, fun w => by go_simp⟩) ?_
  try simp only [Act.put, Array.toArray_toList, List.getElem_toArray, List.getElem_cons_zero, List.getElem_cons_succ, List.setIfInBounds_toArray, List.set_cons_zero, List.set_cons_succ]
  refine wpAny_take (i := 22) (v := .string (bs l)) rfl (by decide +kernel) (by decide +kernel) (by decide +kernel) (fun _ _ _ h => hQ _ _ _ _ _ h) (Or.inl ⟨by rfl, fun w => by go_simp⟩) ?_
  try simp only [Act.put, Array.toArray_toList, List.getElem_toArray, List.getElem_cons_zero, List.getElem_cons_succ, List.setIfInBounds_toArray, List.set_cons_zero, List.set_cons_succ]
  refine wpAny_take (i := 23) (v := .string (bs l)) rfl (by decide +kernel) (by decide +kernel) (by decide +kernel) (fun _ _ _ h => hQ _ _ _ _ _ h) (Or.inl ⟨by rfl, fun w => by go_simp⟩) ?_
  try simp only [Act.put, Array.toArray_toList, List.getElem_toArray, List.getElem_cons_zero, List.getElem_cons_succ, List.setIfInBounds_toArray, List.set_cons_zero, List.set_cons_succ]
  refine wpAny_take (i := 24) (v := .bool true) rfl (by decide +kernel) (by decide +kernel) (by decide +kernel) (fun _ _ _ h => hQ _ _ _ _ _ h) (Or.inl ⟨by rfl, fun w => by go_simp⟩) ?_
  try simp only [Act.put, Array.toArray_toList, List.getElem_toArray, List.getElem_cons_zero, List.getElem_cons_succ, List.setIfInBounds_toArray, List.set_cons_zero, List.set_cons_succ]
  refine wpAny_take (i := 25) (v := .bool true) rfl (by decide +kernel) (by decide +kernel) (by decide +kernel) (fun _ _ _ h => hQ _ _ _ _ _ h) (Or.inl ⟨by rfl, fun w => by go_simp⟩) ?_
  try simp only [Act.put, Array.toArray_toList, List.getElem_toArray, List.getElem_cons_zero, List.getElem_cons_succ, List.setIfInBounds_toArray, List.set_cons_zero, List.set_cons_succ]
  refine wpAny_take (i := 26) (v := .bool true) rfl (by decide +kernel) (by decide +kernel) (by decide +kernel) (fun _ _ _ h => hQ _ _ _ _ _ h) (Or.inl ⟨by rfl, fun w => by go_simp⟩) ?_
  try simp only [Act.put, Array.toArray_toList, List.getElem_toArray, List.getElem_cons_zero, List.getElem_cons_succ, List.setIfInBounds_toArray, List.set_cons_zero, List.set_cons_succ]
  refine wpAny_take (i := 27) (v := .int .i64 0) rfl (by decide +kernel) (by decide +kernel) (by decide +kernel) (fun _ _ _ h => hQ _ _ _ _ _ h) (Or.inl ⟨by rfl, fun w => by go_simp⟩) ?_
  try simp only [Act.put, Array.toArray_toList, List.getElem_toArray, List.getElem_cons_zero, List.getElem_cons_succ, List.setIfInBounds_toArray, List.set_cons_zero, List.set_cons_succ]
  refine wpAny_all (rs := [28]) (by decide +kernel) (by simp) ?_
  intro i hi
  obtain rfl : i = 28 := by simpa using hi
  clear hi
  refine Dsc.wpOp_gen rfl (by rfl) ?_
  intro K' hK'
  go_simp
  refine (NM.out _ _).mono ?_
  rintro e V ⟨rfl, ⟨n, hn⟩⟩
  subst hn
  refine hK' _ _ ?_
  clear hK'
  try simp only [Act.put, Array.toArray_toList, List.getElem_toArray, List.getElem_cons_zero, List.getElem_cons_succ, List.setIfInBounds_toArray, List.set_cons_zero, List.set_cons_succ]
  have B8 := Lib.hid (Dsc.below_drewN B7.out n)
  generalize World.drewN _ n = V3 at B8 ⊢
  refine wpAny_take (i := 29) (v := .bool true) rfl (by decide +kernel) (by decide +kernel) (by decide +kernel) (fun _ _ _ h => hQ _ _ _ _ _ h) (Or.inl ⟨by rfl, fun w => by go_simp⟩) ?_
  try simp only [Act.put, Array.toArray_toList, List.getElem_toArray, List.getElem_cons_zero, List.getElem_cons_succ, List.setIfInBounds_toArray, List.set_cons_zero, List.set_cons_succ]
  refine wpAny_take (i := 30) (v := .bool true) rfl (by decide +kernel) (by decide +kernel) (by decide +kernel) (fun _ _ _ h => hQ _ _ _ _ _ h) (Or.inl ⟨by rfl, fun w => by go_simp⟩) ?_
  try simp only [Act.put, Array.toArray_toList, List.getElem_toArray, List.getElem_cons_zero, List.getElem_cons_succ, List.setIfInBounds_toArray, List.set_cons_zero, List.set_cons_succ]
  refine wpAny_take (i := 31) (v := .bool true) rfl (by decide +kernel) (by decide +kernel) (by decide +kernel) (fun _ _ _ h => hQ _ _ _ _ _ h) (Or.inl ⟨by rfl, fun w => by go_simp⟩) ?_
  try simp only [Act.put, Array.toArray_toList, List.getElem_toArray, List.getElem_cons_zero, List.getElem_cons_succ, List.setIfInBounds_toArray, List.set_cons_zero, List.set_cons_succ]
  refine wpAny_done (by decide +kernel) ?_ _
  exact H.out _ _ B8.out
set_option maxRecDepth 100000 in
set_option maxHeartbeats 8000000 in
theorem one_00 (v : Int) (w : World) (htw : TW w) : Calls Tryz.prog 10 #[.int .i64 v, .bool false, .bool false] w fun e w' => e = .returned (.bool true) ∧ Below w.heap.size w w' := by
  have hff : Fmt 1 8 := ⟨by decide, by decide⟩
  have hfs : fsize 1 8 = 1 := rfl
  obtain ⟨x0, e0⟩ : ∃ x, v % 256 = x := ⟨_, rfl⟩
  obtain ⟨x1, e1⟩ : ∃ x, v / 256 % 256 = x := ⟨_, rfl⟩
  obtain ⟨x2, e2⟩ : ∃ x, v / 65536 % 256 = x := ⟨_, rfl⟩
  obtain ⟨x3, e3⟩ : ∃ x, v / 16777216 % 256 = x := ⟨_, rfl⟩
  obtain ⟨D, hD0⟩ : ∃ D, bs [b8 x0, b8 x1, b8 x2, b8 x3] = D := ⟨_, rfl⟩
  obtain ⟨l, hl0⟩ : ∃ l, l = [b8 x0, b8 x1, b8 x2, b8 x3].take 1 := ⟨_, rfl⟩
  have hDl : D.extract 0 1 = bs l := by rw [← hD0, hl0, bs_extract]; rfl
  have hll : l.length = fsize 1 8 := by rw [hl0]; rfl
  have hl1 : l.length = 1 := by rw [hl0]; rfl
  have HP := Lib.hid (fun W hW => by have := segment_Put.calls 20200 _ _ _ _ _ W (put_yes (one_frm hff hll) (Nat.le_refl _)) hW; rw [one_seg hff hll] at this; exact this)
  have HG := Lib.hid (fun W hW => by have := segment_Get.calls 20200 _ _ _ _ _ W (get_back (one_frm hff hll) (by rw [one_kind hff hll]; show (2 : Nat) ≠ 1; decide) (Nat.le_refl _)) hW; rw [one_seg hff hll] at this; exact this)
  obtain ⟨S, hS⟩ : ∃ S, Dsc.told 2 0 1 l = S := ⟨_, rfl⟩
  have hSl : (bs S).size = 9 + 1 := by rw [bs_size, ← hS, Dsc.told_length, hl1]
  have hEx : (bs S).extract 0 5 = bs [2, 0, 1, 1, 0] := by rw [bs_extract, List.drop_zero, ← hS, one_head (l := l) (by rw [hl1]; decide), hl1]; rfl
  have hbl : (bs l).size = 1 := by rw [bs_size, hl1]
  rw [hS] at HP HG
  have HA := Lib.hid (fun W hW => awake_any W hW)
  have HT := Lib.hid htw
  have hDl' := Lib.hid hDl
  have hSl' := Lib.hid hSl
  have hEx' := Lib.hid hEx
  have hbl' := Lib.hid hbl
  have e0' := Lib.hid e0
  have e1' := Lib.hid e1
  have e2' := Lib.hid e2
  have e3' := Lib.hid e3
  have hD0' := Lib.hid hD0
  clear htw hl0 hS hff hll hl1 hfs hDl hSl hEx hbl e0 e1 e2 e3 hD0
  go_enter Tryz.func10, Tryz.ntmps10
  go_wp2_with fail
  refine (HA.out _ (HT.out)).mono ?_
  rintro e w1 ⟨rfl, hb⟩
  have B1 := Lib.hid hb
  clear hb
  go_wp2_with fail
  have KF := Lib.hid (show Dsc.Blk (w1.alloc (.cells #[.int .i64 1, .int .i64 8] 23)) w1.heap.size 23 #[.int .i64 1, .int .i64 8] from (Dsc.Blk.new w1 23 #[.int .i64 1, .int .i64 8]))
  have BF := Lib.hid (Dsc.below_then B1.out B1.out.size (show Below w1.heap.size w1 (w1.alloc (.cells #[.int .i64 1, .int .i64 8] 23)) by go_grown))
  generalize (w1.alloc (.cells #[.int .i64 1, .int .i64 8] 23)) = W0 at KF BF ⊢
  obtain ⟨F, hF⟩ : ∃ F, w1.heap.size = F := ⟨_, rfl⟩
  rw [hF] at KF ⊢
  clear hF B1
  rename_i K hK
  refine one_r8 _ (fun _ _ d _ _ h => by cases d <;> exact h) v 1 8 x0 x1 x2 x3 1 F D l _ _ _ _ _ _ _ _ _ _ _ _ w W0 e0'.out e1'.out e2'.out e3'.out hD0'.out hDl'.out (by decide) KF.out BF.out (fun W => descantref13_FrameSize.calls 1 8 1 W (by decide +kernel)) ?_
  intro g W2 hB0 hK0
  have B2 := Lib.hid hB0
  have K2 := Lib.hid hK0
  clear hB0 hK0 BF KF
  refine hK _ _ ?_
  clear hK
  have kc0 := K2.out.cell 0
  have kc1 := K2.out.cell 1
  simp at kc0 kc1
  go_wp2_with fail
  refine (HP.out _ (HT.out.of_ B2.out)).mono ?_
  rintro e w3 ⟨rfl, hb⟩
  have K3 := Lib.hid (K2.out.kept hb)
  have B3 := Lib.hid (Dsc.below_then B2.out B2.out.size hb)
  clear hb kc0 kc1 K2 B2
  have kc0 := K3.out.cell 0
  have kc1 := K3.out.cell 1
  simp at kc0 kc1
  go_wp2_with fail
  refine (HG.out _ (HT.out.of_ B3.out)).mono ?_
  rintro e w4 ⟨rfl, hb⟩
  have B4 := Lib.hid (Dsc.below_then B3.out B3.out.size hb)
  clear hb kc0 kc1 K3 B3
  go_wp2_with fail
  rename_i K2 hK2
  refine one_r11 _ (fun _ _ d _ _ h => by cases d <;> exact h) 1 (bs [2, 0, 1, 1, 0]) l S _ _ _ _ _ _ _ _ _ _ _ _ _ _ _ _ _ _ _ _ _ _ _ _ _ _ _ _ _ _ _ _ _ _ _ _ _ _ _ _ _ _ _ w w4 (by decide) hSl'.out hbl'.out hEx'.out rfl B4.out ?_
  intro h W hB
  refine hK2 _ _ ?_
  go_wp2
  go_ret
  exact ⟨rfl, hB⟩
set_option maxRecDepth 100000 in
set_option maxHeartbeats 8000000 in
theorem one_01 (v : Int) (w : World) (htw : TW w) : Calls Tryz.prog 10 #[.int .i64 v, .bool false, .bool true] w fun e w' => e = .returned (.bool true) ∧ Below w.heap.size w w' := by
  have hff : Fmt 1 16 := ⟨by decide, by decide⟩
  have hfs : fsize 1 16 = 2 := rfl
  obtain ⟨x0, e0⟩ : ∃ x, v % 256 = x := ⟨_, rfl⟩
  obtain ⟨x1, e1⟩ : ∃ x, v / 256 % 256 = x := ⟨_, rfl⟩
  obtain ⟨x2, e2⟩ : ∃ x, v / 65536 % 256 = x := ⟨_, rfl⟩
  obtain ⟨x3, e3⟩ : ∃ x, v / 16777216 % 256 = x := ⟨_, rfl⟩
  obtain ⟨D, hD0⟩ : ∃ D, bs [b8 x0, b8 x1, b8 x2, b8 x3] = D := ⟨_, rfl⟩
  obtain ⟨l, hl0⟩ : ∃ l, l = [b8 x0, b8 x1, b8 x2, b8 x3].take 2 := ⟨_, rfl⟩
  have hDl : D.extract 0 2 = bs l := by rw [← hD0, hl0, bs_extract]; rfl
  have hll : l.length = fsize 1 16 := by rw [hl0]; rfl
  have hl1 : l.length = 2 := by rw [hl0]; rfl
  have HP := Lib.hid (fun W hW => by have := segment_Put.calls 20200 _ _ _ _ _ W (put_yes (one_frm hff hll) (Nat.le_refl _)) hW; rw [one_seg hff hll] at this; exact this)
  have HG := Lib.hid (fun W hW => by have := segment_Get.calls 20200 _ _ _ _ _ W (get_back (one_frm hff hll) (by rw [one_kind hff hll]; show (2 : Nat) ≠ 1; decide) (Nat.le_refl _)) hW; rw [one_seg hff hll] at this; exact this)
  obtain ⟨S, hS⟩ : ∃ S, Dsc.told 2 0 1 l = S := ⟨_, rfl⟩
  have hSl : (bs S).size = 9 + 2 := by rw [bs_size, ← hS, Dsc.told_length, hl1]
  have hEx : (bs S).extract 0 5 = bs [2, 0, 1, 2, 0] := by rw [bs_extract, List.drop_zero, ← hS, one_head (l := l) (by rw [hl1]; decide), hl1]; rfl
  have hbl : (bs l).size = 2 := by rw [bs_size, hl1]
  rw [hS] at HP HG
  have HA := Lib.hid (fun W hW => awake_any W hW)
  have HT := Lib.hid htw
  have hDl' := Lib.hid hDl
  have hSl' := Lib.hid hSl
  have hEx' := Lib.hid hEx
  have hbl' := Lib.hid hbl
  have e0' := Lib.hid e0
  have e1' := Lib.hid e1
  have e2' := Lib.hid e2
  have e3' := Lib.hid e3
  have hD0' := Lib.hid hD0
  clear htw hl0 hS hff hll hl1 hfs hDl hSl hEx hbl e0 e1 e2 e3 hD0
  go_enter Tryz.func10, Tryz.ntmps10
  go_wp2_with fail
  refine (HA.out _ (HT.out)).mono ?_
  rintro e w1 ⟨rfl, hb⟩
  have B1 := Lib.hid hb
  clear hb
  go_wp2_with fail
  have KF := Lib.hid (show Dsc.Blk (w1.alloc (.cells #[.int .i64 1, .int .i64 16] 23)) w1.heap.size 23 #[.int .i64 1, .int .i64 16] from (Dsc.Blk.new w1 23 #[.int .i64 1, .int .i64 16]))
  have BF := Lib.hid (Dsc.below_then B1.out B1.out.size (show Below w1.heap.size w1 (w1.alloc (.cells #[.int .i64 1, .int .i64 16] 23)) by go_grown))
  generalize (w1.alloc (.cells #[.int .i64 1, .int .i64 16] 23)) = W0 at KF BF ⊢
  obtain ⟨F, hF⟩ : ∃ F, w1.heap.size = F := ⟨_, rfl⟩
  rw [hF] at KF ⊢
  clear hF B1
  rename_i K hK
  refine one_r8 _ (fun _ _ d _ _ h => by cases d <;> exact h) v 1 16 x0 x1 x2 x3 2 F D l _ _ _ _ _ _ _ _ _ _ _ _ w W0 e0'.out e1'.out e2'.out e3'.out hD0'.out hDl'.out (by decide) KF.out BF.out (fun W => descantref13_FrameSize.calls 1 16 2 W (by decide +kernel)) ?_
  intro g W2 hB0 hK0
  have B2 := Lib.hid hB0
  have K2 := Lib.hid hK0
  clear hB0 hK0 BF KF
  refine hK _ _ ?_
  clear hK
  have kc0 := K2.out.cell 0
  have kc1 := K2.out.cell 1
  simp at kc0 kc1
  go_wp2_with fail
  refine (HP.out _ (HT.out.of_ B2.out)).mono ?_
  rintro e w3 ⟨rfl, hb⟩
  have K3 := Lib.hid (K2.out.kept hb)
  have B3 := Lib.hid (Dsc.below_then B2.out B2.out.size hb)
  clear hb kc0 kc1 K2 B2
  have kc0 := K3.out.cell 0
  have kc1 := K3.out.cell 1
  simp at kc0 kc1
  go_wp2_with fail
  refine (HG.out _ (HT.out.of_ B3.out)).mono ?_
  rintro e w4 ⟨rfl, hb⟩
  have B4 := Lib.hid (Dsc.below_then B3.out B3.out.size hb)
  clear hb kc0 kc1 K3 B3
  go_wp2_with fail
  rename_i K2 hK2
  refine one_r11 _ (fun _ _ d _ _ h => by cases d <;> exact h) 2 (bs [2, 0, 1, 2, 0]) l S _ _ _ _ _ _ _ _ _ _ _ _ _ _ _ _ _ _ _ _ _ _ _ _ _ _ _ _ _ _ _ _ _ _ _ _ _ _ _ _ _ _ _ w w4 (by decide) hSl'.out hbl'.out hEx'.out rfl B4.out ?_
  intro h W hB
  refine hK2 _ _ ?_
  go_wp2
  go_ret
  exact ⟨rfl, hB⟩
set_option maxRecDepth 100000 in
set_option maxHeartbeats 8000000 in
theorem one_10 (v : Int) (w : World) (htw : TW w) : Calls Tryz.prog 10 #[.int .i64 v, .bool true, .bool false] w fun e w' => e = .returned (.bool true) ∧ Below w.heap.size w w' := by
  have hff : Fmt 2 8 := ⟨by decide, by decide⟩
  have hfs : fsize 2 8 = 2 := rfl
  obtain ⟨x0, e0⟩ : ∃ x, v % 256 = x := ⟨_, rfl⟩
  obtain ⟨x1, e1⟩ : ∃ x, v / 256 % 256 = x := ⟨_, rfl⟩
  obtain ⟨x2, e2⟩ : ∃ x, v / 65536 % 256 = x := ⟨_, rfl⟩
  obtain ⟨x3, e3⟩ : ∃ x, v / 16777216 % 256 = x := ⟨_, rfl⟩
  obtain ⟨D, hD0⟩ : ∃ D, bs [b8 x0, b8 x1, b8 x2, b8 x3] = D := ⟨_, rfl⟩
  obtain ⟨l, hl0⟩ : ∃ l, l = [b8 x0, b8 x1, b8 x2, b8 x3].take 2 := ⟨_, rfl⟩
  have hDl : D.extract 0 2 = bs l := by rw [← hD0, hl0, bs_extract]; rfl
  have hll : l.length = fsize 2 8 := by rw [hl0]; rfl
  have hl1 : l.length = 2 := by rw [hl0]; rfl
  have HP := Lib.hid (fun W hW => by have := segment_Put.calls 20200 _ _ _ _ _ W (put_yes (one_frm hff hll) (Nat.le_refl _)) hW; rw [one_seg hff hll] at this; exact this)
  have HG := Lib.hid (fun W hW => by have := segment_Get.calls 20200 _ _ _ _ _ W (get_back (one_frm hff hll) (by rw [one_kind hff hll]; show (2 : Nat) ≠ 1; decide) (Nat.le_refl _)) hW; rw [one_seg hff hll] at this; exact this)
  obtain ⟨S, hS⟩ : ∃ S, Dsc.told 2 0 1 l = S := ⟨_, rfl⟩
  have hSl : (bs S).size = 9 + 2 := by rw [bs_size, ← hS, Dsc.told_length, hl1]
  have hEx : (bs S).extract 0 5 = bs [2, 0, 1, 2, 0] := by rw [bs_extract, List.drop_zero, ← hS, one_head (l := l) (by rw [hl1]; decide), hl1]; rfl
  have hbl : (bs l).size = 2 := by rw [bs_size, hl1]
  rw [hS] at HP HG
  have HA := Lib.hid (fun W hW => awake_any W hW)
  have HT := Lib.hid htw
  have hDl' := Lib.hid hDl
  have hSl' := Lib.hid hSl
  have hEx' := Lib.hid hEx
  have hbl' := Lib.hid hbl
  have e0' := Lib.hid e0
  have e1' := Lib.hid e1
  have e2' := Lib.hid e2
  have e3' := Lib.hid e3
  have hD0' := Lib.hid hD0
  clear htw hl0 hS hff hll hl1 hfs hDl hSl hEx hbl e0 e1 e2 e3 hD0
  go_enter Tryz.func10, Tryz.ntmps10
  go_wp2_with fail
  refine (HA.out _ (HT.out)).mono ?_
  rintro e w1 ⟨rfl, hb⟩
  have B1 := Lib.hid hb
  clear hb
  go_wp2_with fail
  have KF := Lib.hid (show Dsc.Blk (w1.alloc (.cells #[.int .i64 2, .int .i64 8] 23)) w1.heap.size 23 #[.int .i64 2, .int .i64 8] from (Dsc.Blk.new w1 23 #[.int .i64 2, .int .i64 8]))
  have BF := Lib.hid (Dsc.below_then B1.out B1.out.size (show Below w1.heap.size w1 (w1.alloc (.cells #[.int .i64 2, .int .i64 8] 23)) by go_grown))
  generalize (w1.alloc (.cells #[.int .i64 2, .int .i64 8] 23)) = W0 at KF BF ⊢
  obtain ⟨F, hF⟩ : ∃ F, w1.heap.size = F := ⟨_, rfl⟩
  rw [hF] at KF ⊢
  clear hF B1
  rename_i K hK
  refine one_r8 _ (fun _ _ d _ _ h => by cases d <;> exact h) v 2 8 x0 x1 x2 x3 2 F D l _ _ _ _ _ _ _ _ _ _ _ _ w W0 e0'.out e1'.out e2'.out e3'.out hD0'.out hDl'.out (by decide) KF.out BF.out (fun W => descantref13_FrameSize.calls 2 8 2 W (by decide +kernel)) ?_
  intro g W2 hB0 hK0
  have B2 := Lib.hid hB0
  have K2 := Lib.hid hK0
  clear hB0 hK0 BF KF
  refine hK _ _ ?_
  clear hK
  have kc0 := K2.out.cell 0
  have kc1 := K2.out.cell 1
  simp at kc0 kc1
  go_wp2_with fail
  refine (HP.out _ (HT.out.of_ B2.out)).mono ?_
  rintro e w3 ⟨rfl, hb⟩
  have K3 := Lib.hid (K2.out.kept hb)
  have B3 := Lib.hid (Dsc.below_then B2.out B2.out.size hb)
  clear hb kc0 kc1 K2 B2
  have kc0 := K3.out.cell 0
  have kc1 := K3.out.cell 1
  simp at kc0 kc1
  go_wp2_with fail
  refine (HG.out _ (HT.out.of_ B3.out)).mono ?_
  rintro e w4 ⟨rfl, hb⟩
  have B4 := Lib.hid (Dsc.below_then B3.out B3.out.size hb)
  clear hb kc0 kc1 K3 B3
  go_wp2_with fail
  rename_i K2 hK2
  refine one_r11 _ (fun _ _ d _ _ h => by cases d <;> exact h) 2 (bs [2, 0, 1, 2, 0]) l S _ _ _ _ _ _ _ _ _ _ _ _ _ _ _ _ _ _ _ _ _ _ _ _ _ _ _ _ _ _ _ _ _ _ _ _ _ _ _ _ _ _ _ w w4 (by decide) hSl'.out hbl'.out hEx'.out rfl B4.out ?_
  intro h W hB
  refine hK2 _ _ ?_
  go_wp2
  go_ret
  exact ⟨rfl, hB⟩
set_option maxRecDepth 100000 in
set_option maxHeartbeats 8000000 in
theorem one_11 (v : Int) (w : World) (htw : TW w) : Calls Tryz.prog 10 #[.int .i64 v, .bool true, .bool true] w fun e w' => e = .returned (.bool true) ∧ Below w.heap.size w w' := by
  have hff : Fmt 2 16 := ⟨by decide, by decide⟩
  have hfs : fsize 2 16 = 4 := rfl
  obtain ⟨x0, e0⟩ : ∃ x, v % 256 = x := ⟨_, rfl⟩
  obtain ⟨x1, e1⟩ : ∃ x, v / 256 % 256 = x := ⟨_, rfl⟩
  obtain ⟨x2, e2⟩ : ∃ x, v / 65536 % 256 = x := ⟨_, rfl⟩
  obtain ⟨x3, e3⟩ : ∃ x, v / 16777216 % 256 = x := ⟨_, rfl⟩
  obtain ⟨D, hD0⟩ : ∃ D, bs [b8 x0, b8 x1, b8 x2, b8 x3] = D := ⟨_, rfl⟩
  obtain ⟨l, hl0⟩ : ∃ l, l = [b8 x0, b8 x1, b8 x2, b8 x3].take 4 := ⟨_, rfl⟩
  have hDl : D.extract 0 4 = bs l := by rw [← hD0, hl0, bs_extract]; rfl
  have hll : l.length = fsize 2 16 := by rw [hl0]; rfl
  have hl1 : l.length = 4 := by rw [hl0]; rfl
  have HP := Lib.hid (fun W hW => by have := segment_Put.calls 20200 _ _ _ _ _ W (put_yes (one_frm hff hll) (Nat.le_refl _)) hW; rw [one_seg hff hll] at this; exact this)
  have HG := Lib.hid (fun W hW => by have := segment_Get.calls 20200 _ _ _ _ _ W (get_back (one_frm hff hll) (by rw [one_kind hff hll]; show (2 : Nat) ≠ 1; decide) (Nat.le_refl _)) hW; rw [one_seg hff hll] at this; exact this)
  obtain ⟨S, hS⟩ : ∃ S, Dsc.told 2 0 1 l = S := ⟨_, rfl⟩
  have hSl : (bs S).size = 9 + 4 := by rw [bs_size, ← hS, Dsc.told_length, hl1]
  have hEx : (bs S).extract 0 5 = bs [2, 0, 1, 4, 0] := by rw [bs_extract, List.drop_zero, ← hS, one_head (l := l) (by rw [hl1]; decide), hl1]; rfl
  have hbl : (bs l).size = 4 := by rw [bs_size, hl1]
  rw [hS] at HP HG
  have HA := Lib.hid (fun W hW => awake_any W hW)
  have HT := Lib.hid htw
  have hDl' := Lib.hid hDl
  have hSl' := Lib.hid hSl
  have hEx' := Lib.hid hEx
  have hbl' := Lib.hid hbl
  have e0' := Lib.hid e0
  have e1' := Lib.hid e1
  have e2' := Lib.hid e2
  have e3' := Lib.hid e3
  have hD0' := Lib.hid hD0
  clear htw hl0 hS hff hll hl1 hfs hDl hSl hEx hbl e0 e1 e2 e3 hD0
  go_enter Tryz.func10, Tryz.ntmps10
  go_wp2_with fail
  refine (HA.out _ (HT.out)).mono ?_
  rintro e w1 ⟨rfl, hb⟩
  have B1 := Lib.hid hb
  clear hb
  go_wp2_with fail
  have KF := Lib.hid (show Dsc.Blk (w1.alloc (.cells #[.int .i64 2, .int .i64 16] 23)) w1.heap.size 23 #[.int .i64 2, .int .i64 16] from (Dsc.Blk.new w1 23 #[.int .i64 2, .int .i64 16]))
  have BF := Lib.hid (Dsc.below_then B1.out B1.out.size (show Below w1.heap.size w1 (w1.alloc (.cells #[.int .i64 2, .int .i64 16] 23)) by go_grown))
  generalize (w1.alloc (.cells #[.int .i64 2, .int .i64 16] 23)) = W0 at KF BF ⊢
  obtain ⟨F, hF⟩ : ∃ F, w1.heap.size = F := ⟨_, rfl⟩
  rw [hF] at KF ⊢
  clear hF B1
  rename_i K hK
  refine one_r8 _ (fun _ _ d _ _ h => by cases d <;> exact h) v 2 16 x0 x1 x2 x3 4 F D l _ _ _ _ _ _ _ _ _ _ _ _ w W0 e0'.out e1'.out e2'.out e3'.out hD0'.out hDl'.out (by decide) KF.out BF.out (fun W => descantref13_FrameSize.calls 2 16 4 W (by decide +kernel)) ?_
  intro g W2 hB0 hK0
  have B2 := Lib.hid hB0
  have K2 := Lib.hid hK0
  clear hB0 hK0 BF KF
  refine hK _ _ ?_
  clear hK
  have kc0 := K2.out.cell 0
  have kc1 := K2.out.cell 1
  simp at kc0 kc1
  go_wp2_with fail
  refine (HP.out _ (HT.out.of_ B2.out)).mono ?_
  rintro e w3 ⟨rfl, hb⟩
  have K3 := Lib.hid (K2.out.kept hb)
  have B3 := Lib.hid (Dsc.below_then B2.out B2.out.size hb)
  clear hb kc0 kc1 K2 B2
  have kc0 := K3.out.cell 0
  have kc1 := K3.out.cell 1
  simp at kc0 kc1
  go_wp2_with fail
  refine (HG.out _ (HT.out.of_ B3.out)).mono ?_
  rintro e w4 ⟨rfl, hb⟩
  have B4 := Lib.hid (Dsc.below_then B3.out B3.out.size hb)
  clear hb kc0 kc1 K3 B3
  go_wp2_with fail
  rename_i K2 hK2
  refine one_r11 _ (fun _ _ d _ _ h => by cases d <;> exact h) 4 (bs [2, 0, 1, 4, 0]) l S _ _ _ _ _ _ _ _ _ _ _ _ _ _ _ _ _ _ _ _ _ _ _ _ _ _ _ _ _ _ _ _ _ _ _ _ _ _ _ _ _ _ _ w w4 (by decide) hSl'.out hbl'.out hEx'.out rfl B4.out ?_
  intro h W hB
  refine hK2 _ _ ?_
  go_wp2
  go_ret
  exact ⟨rfl, hB⟩
theorem one_walk (v : Int) (two wide : Bool) (w : World) (hv : (Lit.int .i64 v).wf = true) (htw : TW w) :
    Calls Tryz.prog 10 #[.int .i64 v, .bool two, .bool wide] w fun e w' => e = .returned (.bool true) ∧ Below w.heap.size w w' := by
  cases two <;> cases wide
  · exact one_00 v w htw
  · exact one_01 v w htw
  · exact one_10 v w htw
  · exact one_11 v w htw
end Go.Proofs.YtbapmfghipcebaaGreatDoor.S
end
