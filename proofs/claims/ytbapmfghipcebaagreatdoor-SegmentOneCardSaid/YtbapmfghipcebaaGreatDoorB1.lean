/- Texts of this claim, put together: Crc, Base, DrawW, Words, CrcW, Line, Coder, Resid, Model, ModelW, MixW, Ints, LmsW, GammaW, CtxW, LibW, Shelf, BitsW, CoderW, EndW, ModW, Mod2W, StateW, LearnW. -/
import Derived.WalkKit
import Derived.Handy
import Derived.WalkLawsBesides
import Derived.WalkSpells
import Derived.Lib.Hide
import Derived.Deep.QuietTactic
import Derived.BigQuiet
import Derived.Deep.OwnRows
import Derived.Deep.AppendLies
import Derived.Deep.Draws
import Derived.Laws.BytesArg
import Derived.Laws.Rows
import Derived.Deep.LoopGhost
import Derived.Deep.RegionWith
import Derived.StillTailTactics
import Derived.Deep.DeepCutAuto
import Derived.Laws.ResultCell
import Derived.BigFrame
import Derived.Deep.DeepFit
import Derived.Deep.DeepMust
import Derived.Deep.MidRow
import Derived.LoopN
import Derived.Test.YtbapmfghipcebaaGreatDoorProg
import Derived.KernelRfl
import Derived.Shelf.Spec.TrailingZeros
import Derived.Maps.AppendAt
import Derived.Laws.CopyOwn
import Derived.Laws.MakeOwn
import Derived.Deep.RegionLaw
import Derived.Shelf.Strings.Builder1
import Derived.Shelf.Strings.Builder2
import Derived.Shelf.Small.Bits
import Derived.Shelf.Strings.BuilderF
import Derived.Shelf.Strings.BuilderK
import Derived.Shelf.Strings.Builder2Cap
import Derived.Shelf.Strconv.Itoa0
import Derived.Shelf.Strings.Prefix
import Derived.Shelf.Bits.Mul64
import Derived.Shelf.Strings.Repeat
import Derived.Shelf.Strings.BuilderCap
import Derived.Shelf.Slices.Equal
import Derived.Ground.Names2Prog
import Derived.Shelf.Slices.Clone
import Derived.Shelf.Slices.Empties2
import Derived.Lib.ItoaNum
import Derived.Deep.RegionHeld3
section
namespace Dsc

/-- One bit goes out of a sum's register. -/
def stp (x : BitVec 32) : BitVec 32 := (x >>> 1) ^^^ (if x.getLsbD 0 then 0xEDB88320#32 else 0#32)
def stps : Nat → BitVec 32 → BitVec 32
  | 0, x => x
  | n + 1, x => stps n (stp x)
def crcByte (r : BitVec 32) (b : UInt8) : BitVec 32 := stps 8 (r ^^^ BitVec.ofNat 32 b.toNat)
def crcReg (r : BitVec 32) (s : List UInt8) : BitVec 32 := s.foldl crcByte r
def crc (s : List UInt8) : Int := ((~~~ (crcReg 0xFFFFFFFF#32 s)).toNat : Int)

theorem stp_xor (a b : BitVec 32) : stp (a ^^^ b) = stp a ^^^ stp b := by
  unfold stp
  rw [BitVec.getLsbD_xor, BitVec.ushiftRight_xor_distrib]
  cases a.getLsbD 0 <;> cases b.getLsbD 0 <;> simp
  · ac_rfl
  · ac_rfl
  · have : ∀ x y z : BitVec 32, x ^^^ y = x ^^^ z ^^^ (y ^^^ z) := fun x y z => by
      rw [show x ^^^ z ^^^ (y ^^^ z) = x ^^^ y ^^^ (z ^^^ z) by ac_rfl, BitVec.xor_self, BitVec.xor_zero]
    exact this _ _ _
theorem stps_xor (n : Nat) : ∀ a b : BitVec 32, stps n (a ^^^ b) = stps n a ^^^ stps n b := by
  induction n with
  | zero => intro a b; rfl
  | succ n ih => intro a b; simp only [stps, stp_xor, ih]
theorem stps_add (m n : Nat) : ∀ x, stps (m + n) x = stps n (stps m x) := by
  induction m with
  | zero => intro x; simp [stps]
  | succ m ih => intro x; rw [show m + 1 + n = (m + n) + 1 from by omega]; simp only [stps, ih]
theorem stp_zero (x : BitVec 32) (h : stp x = 0#32) : x = 0#32 := by
  unfold stp at h
  by_cases hb : x.getLsbD 0 = true
  · rw [if_pos hb] at h
    have : (x >>> 1 ^^^ 0xEDB88320#32).getLsbD 31 = (0#32).getLsbD 31 := by rw [h]
    rw [BitVec.getLsbD_xor, BitVec.getLsbD_ushiftRight, BitVec.getLsbD_of_ge x (1 + 31) (by omega)] at this
    exact absurd this (by decide)
  · rw [if_neg hb, BitVec.xor_zero] at h
    apply BitVec.eq_of_getLsbD_eq
    intro i hi
    rcases Nat.eq_zero_or_pos i with rfl | hi0
    · simp at hb; simp [hb]
    · have : (x >>> 1).getLsbD (i - 1) = (0#32).getLsbD (i - 1) := by rw [h]
      rw [BitVec.getLsbD_ushiftRight, show 1 + (i - 1) = i from by omega] at this
      rw [this]; simp
theorem stps_zero (n : Nat) : ∀ x, stps n x = 0#32 → x = 0#32 := by
  induction n with
  | zero => intro x h; exact h
  | succ n ih => intro x h; exact stp_zero _ (ih _ h)
theorem xor_zero_iff {a b : BitVec 32} (h : a ^^^ b = 0#32) : a = b := by
  have : a ^^^ b ^^^ b = 0#32 ^^^ b := by rw [h]
  rw [BitVec.xor_assoc, BitVec.xor_self, BitVec.xor_zero, BitVec.zero_xor] at this
  exact this
theorem stps_inj {n : Nat} {a b : BitVec 32} (h : stps n a = stps n b) : a = b := by
  apply xor_zero_iff
  apply stps_zero n
  rw [stps_xor, h, BitVec.xor_self]

/-- Low bits that are 0 go out and nothing else turns. -/
theorem stp_low (x : BitVec 32) (h : x.getLsbD 0 = false) : stp x = x >>> 1 := by
  unfold stp; rw [h]; simp
theorem stps_low (n : Nat) : ∀ x : BitVec 32, (∀ i, i < n → x.getLsbD i = false) → stps n x = x >>> n := by
  induction n with
  | zero => intro x _; simp [stps]
  | succ n ih =>
    intro x h
    simp only [stps]
    rw [stp_low x (h 0 (by omega)), ih (x >>> 1) (fun i hi => by rw [BitVec.getLsbD_ushiftRight]; exact h _ (by omega))]
    rw [← BitVec.shiftRight_add, show 1 + n = n + 1 from by omega]

/-- Four bits at once, by a table. -/
theorem stps_four (x : BitVec 32) : stps 4 x = (x >>> 4) ^^^ stps 4 (x &&& 15#32) := by
  have e : x = ((x >>> 4) <<< 4) ^^^ (x &&& 15#32) := by
    apply BitVec.eq_of_getLsbD_eq
    intro i hi
    rw [BitVec.getLsbD_xor, BitVec.getLsbD_shiftLeft, BitVec.getLsbD_ushiftRight, BitVec.getLsbD_and]
    have h15 : (15#32).getLsbD i = decide (i < 4) := by
      have : ∀ j : Fin 32, (15#32).getLsbD j = decide (j.1 < 4) := by decide
      exact this ⟨i, hi⟩
    rw [h15]
    by_cases h4 : i < 4
    · simp [h4]
    · simp [h4, hi, show 4 + (i - 4) = i from by omega]
  conv => lhs; rw [e]
  rw [stps_xor, stps_low 4 ((x >>> 4) <<< 4) (fun i hi => by rw [BitVec.getLsbD_shiftLeft]; simp [hi])]
  congr 1
  apply BitVec.eq_of_getLsbD_eq
  intro i hi
  rw [BitVec.getLsbD_ushiftRight, BitVec.getLsbD_shiftLeft, BitVec.getLsbD_ushiftRight]
  by_cases h : 4 + i < 32
  · simp [h]
  · simp only [h, decide_false, Bool.false_and]
    rw [BitVec.getLsbD_ushiftRight, BitVec.getLsbD_of_ge x (4 + i) (by omega)]
theorem stps_eight (x : BitVec 32) : stps 8 x = (((x >>> 4) ^^^ stps 4 (x &&& 15#32)) >>> 4) ^^^ stps 4 (((x >>> 4) ^^^ stps 4 (x &&& 15#32)) &&& 15#32) := by
  rw [show stps 8 x = stps (4 + 4) x from rfl, stps_add, stps_four x, stps_four (x >>> 4 ^^^ stps 4 (x &&& 15#32))]

/-! a turned stretch -/
def word (b0 b1 b2 b3 : UInt8) : BitVec 32 := BitVec.ofNat 32 b0.toNat ^^^ (BitVec.ofNat 32 b1.toNat <<< 8) ^^^ (BitVec.ofNat 32 b2.toNat <<< 16) ^^^ (BitVec.ofNat 32 b3.toNat <<< 24)

theorem byte_out (b : UInt8) (k j : Nat) (hk : k + j ≤ 24) : stps k (BitVec.ofNat 32 b.toNat <<< (k + j)) = BitVec.ofNat 32 b.toNat <<< j := by
  rw [stps_low k _ (fun i hi => by rw [BitVec.getLsbD_shiftLeft]; simp; omega)]
  apply BitVec.eq_of_getLsbD_eq
  intro i hi
  have hb := b.toNat_lt
  rw [BitVec.getLsbD_ushiftRight, BitVec.getLsbD_shiftLeft, BitVec.getLsbD_shiftLeft]
  by_cases hj : i < j
  · simp [hj]
  · simp only [hj, hi]
    by_cases h : k + i < 32
    · simp [h, show ¬ k + i < k + j by omega, show k + i - (k + j) = i - j by omega]
    · simp [h]
      rw [BitVec.getLsbD_ofNat]
      have : b.toNat.testBit (i - j) = false := Nat.testBit_lt_two_pow (Nat.lt_of_lt_of_le hb (Nat.pow_le_pow_right (n := 2) (i := 8) (by decide) (by omega)))
      simp [this]

theorem reg_word (r : BitVec 32) (b0 b1 b2 b3 : UInt8) : crcReg r [b0, b1, b2, b3] = stps 32 (r ^^^ word b0 b1 b2 b3) := by
  have e1 := byte_out b1 8 0 (by omega)
  have e2 := byte_out b2 16 0 (by omega)
  have e3 := byte_out b3 24 0 (by omega)
  simp only [Nat.add_zero, BitVec.shiftLeft_zero] at e1 e2 e3
  simp only [crcReg, List.foldl_cons, List.foldl_nil, crcByte, word]
  have h2 : ∀ x y : BitVec 32, stps 8 (stps 8 x ^^^ y) = stps 8 (stps 8 x) ^^^ stps 8 y := fun x y => stps_xor 8 _ _
  have h32 : ∀ x : BitVec 32, stps 32 x = stps 8 (stps 8 (stps 8 (stps 8 x))) := fun x => by
    rw [show stps 32 x = stps (8 + (8 + (8 + 8))) x from rfl, stps_add, stps_add, stps_add]
  have h16 : ∀ x : BitVec 32, stps 16 x = stps 8 (stps 8 x) := fun x => by rw [show stps 16 x = stps (8 + 8) x from rfl, stps_add]
  have h24 : ∀ x : BitVec 32, stps 24 x = stps 8 (stps 8 (stps 8 x)) := fun x => by rw [show stps 24 x = stps (8 + (8 + 8)) x from rfl, stps_add, stps_add]
  rw [h32]
  simp only [stps_xor]
  rw [e1, ← h16 (BitVec.ofNat 32 b2.toNat <<< 16), e2, ← h24 (BitVec.ofNat 32 b3.toNat <<< 24), e3]
  simp only [BitVec.xor_assoc]

theorem reg_inj {a b : BitVec 32} : ∀ s : List UInt8, crcReg a s = crcReg b s → a = b := by
  intro s
  induction s generalizing a b with
  | nil => exact id
  | cons x s ih =>
    intro h
    have := stps_inj (ih h)
    have h2 : a ^^^ BitVec.ofNat 32 x.toNat ^^^ BitVec.ofNat 32 x.toNat = b ^^^ BitVec.ofNat 32 x.toNat ^^^ BitVec.ofNat 32 x.toNat := by rw [this]
    rwa [BitVec.xor_assoc, BitVec.xor_self, BitVec.xor_zero, BitVec.xor_assoc, BitVec.xor_self, BitVec.xor_zero] at h2
theorem reg_append (r : BitVec 32) (s t : List UInt8) : crcReg r (s ++ t) = crcReg (crcReg r s) t := by simp [crcReg]

/-- What stands ahead of a sum, and it: told by the register behind all. -/
theorem sum_reg (m : List UInt8) (b0 b1 b2 b3 : UInt8) : crcReg 0xFFFFFFFF#32 (m ++ [b0, b1, b2, b3]) = stps 32 0xFFFFFFFF#32 ↔ word b0 b1 b2 b3 = ~~~ (crcReg 0xFFFFFFFF#32 m) := by
  rw [reg_append, reg_word]
  generalize crcReg 0xFFFFFFFF#32 m = r
  have hr : ~~~ r = r ^^^ 0xFFFFFFFF#32 := by
    rw [show (0xFFFFFFFF#32 : BitVec 32) = BitVec.allOnes 32 from by decide, BitVec.xor_allOnes]
  rw [hr]
  constructor
  · intro h
    have := stps_inj h
    rw [← this, ← BitVec.xor_assoc, BitVec.xor_self, BitVec.zero_xor]
  · intro h
    rw [h, ← BitVec.xor_assoc, BitVec.xor_self, BitVec.zero_xor]

theorem word_xor (a0 a1 a2 a3 b0 b1 b2 b3 : UInt8) : word (a0 ^^^ b0) (a1 ^^^ b1) (a2 ^^^ b2) (a3 ^^^ b3) = word a0 a1 a2 a3 ^^^ word b0 b1 b2 b3 := by
  have h : ∀ a b : UInt8, BitVec.ofNat 32 (a ^^^ b).toNat = BitVec.ofNat 32 a.toNat ^^^ BitVec.ofNat 32 b.toNat := fun a b => by
    rw [UInt8.toNat_xor, BitVec.ofNat_xor]
  unfold word
  rw [h, h, h, h, BitVec.shiftLeft_xor_distrib, BitVec.shiftLeft_xor_distrib, BitVec.shiftLeft_xor_distrib]
  generalize BitVec.ofNat 32 a0.toNat = x0
  generalize BitVec.ofNat 32 b0.toNat = y0
  generalize BitVec.ofNat 32 a1.toNat <<< 8 = x1
  generalize BitVec.ofNat 32 b1.toNat <<< 8 = y1
  generalize BitVec.ofNat 32 a2.toNat <<< 16 = x2
  generalize BitVec.ofNat 32 b2.toNat <<< 16 = y2
  generalize BitVec.ofNat 32 a3.toNat <<< 24 = x3
  generalize BitVec.ofNat 32 b3.toNat <<< 24 = y3
  ac_rfl

/-- A stretch of four bytes that is turned: no sum any more. -/
theorem burst (a z : List UInt8) (q0 q1 q2 q3 e0 e1 e2 e3 : UInt8) (he : word e0 e1 e2 e3 ≠ 0#32)
    (h : crcReg 0xFFFFFFFF#32 (a ++ [q0, q1, q2, q3] ++ z) = stps 32 0xFFFFFFFF#32) :
    crcReg 0xFFFFFFFF#32 (a ++ [q0 ^^^ e0, q1 ^^^ e1, q2 ^^^ e2, q3 ^^^ e3] ++ z) ≠ stps 32 0xFFFFFFFF#32 := by
  intro h'
  rw [← h, reg_append, reg_append, reg_append, reg_append] at h'
  have h2 := reg_inj z h'
  rw [reg_word, reg_word, word_xor] at h2
  have h3 := stps_inj h2
  apply he
  generalize crcReg 0xFFFFFFFF#32 a = r at h3
  generalize word q0 q1 q2 q3 = q at h3
  generalize word e0 e1 e2 e3 = e at h3 ⊢
  have : r ^^^ (q ^^^ e) ^^^ (r ^^^ q) = r ^^^ q ^^^ (r ^^^ q) := by rw [h3]
  rw [BitVec.xor_self] at this
  rw [← this, show r ^^^ (q ^^^ e) ^^^ (r ^^^ q) = (r ^^^ r) ^^^ ((q ^^^ q) ^^^ e) by ac_rfl, BitVec.xor_self, BitVec.xor_self, BitVec.zero_xor, BitVec.zero_xor]
end Dsc
end
section
/- The words that all the walks of this seat share. -/
set_option linter.unusedVariables false
set_option linter.unusedSimpArgs false
namespace Dsc
open Go Go.RowKit

/-- The masks and shifts of int that the program leans on. -/
theorem and_mask (i : Nat) (hi : i ≤ 62) (x : Int) (h0 : 0 ≤ x) (h1 : x < 9223372036854775808) : bits .and .i64 x (2 ^ i - 1) = x % 2 ^ i :=
  bits_mask .i64 63 (by decide) (fun n h0 h1 => by rw [IntKind.wrap_i64]; omega) i (by omega) x h0 (by simpa using h1)
theorem or_join (i : Nat) (hi : i ≤ 62) (x y : Int) (h0 : 0 ≤ x) (h1 : x % 2 ^ i = 0) (h2 : x < 9223372036854775808) (h3 : 0 ≤ y) (h4 : y < 2 ^ i) : bits .or .i64 x y = x + y :=
  bits_join .i64 63 (by decide) (fun n h0 h1 => by rw [IntKind.wrap_i64]; omega) i x y h0 h1 (by simpa using h2) h3 h4 (by
    have : (2 : Int) ^ i ≤ 2 ^ 62 := by
      have := Nat.pow_le_pow_right (n := 2) (by decide) hi
      exact_mod_cast this
    have e : (2 : Int) ^ 63 = 2 ^ 62 * 2 := by decide
    omega)

theorem ret_int {k : IntKind} {a b : Int} (h : a = b) : Ending.returned (.int k a) = .returned (.int k b) := by rw [h]
theorem ret_int2 {k k' : IntKind} {a b a' b' : Int} (h : a = b) (h' : a' = b') : Ending.returned (.tuple #[.int k a, .int k' a']) = .returned (.tuple #[.int k b, .int k' b']) := by rw [h, h']
theorem ret_bool {a b : Bool} (h : a = b) : Ending.returned (.bool a) = .returned (.bool b) := by rw [h]
theorem mul_bd {x y a b : Int} (hx : -a ≤ x ∧ x ≤ a) (hy : -b ≤ y ∧ y ≤ b) : -(a * b) ≤ x * y ∧ x * y ≤ a * b := by
  have ha : 0 ≤ a := by omega
  have hb : 0 ≤ b := by omega
  have h1 : (x.natAbs : Int) ≤ a := by omega
  have h2 : (y.natAbs : Int) ≤ b := by omega
  have h3 : ((x * y).natAbs : Int) ≤ a * b := by
    rw [Int.natAbs_mul, Int.natCast_mul]
    exact Int.mul_le_mul h1 h2 (by omega) ha
  omega
theorem still_of {P : Program} {f : FuncId} {args : Array Value} {w : World} {v : Value} (h : Calls P f args w fun e w' => e = .returned v ∧ w = w') : Calls P f args w fun e w' => e = .returned v ∧ w' = w :=
  h.mono fun _ _ ⟨a, b⟩ => ⟨a, b.symm⟩
theorem quiet_of {P : Program} {f : FuncId} {args : Array Value} {w : World} {n : Nat} {v : Value} (h : Calls P f args (w.drewN n) fun e w' => e = .returned v ∧ w.drewN n = w') : Calls P f args (w.drewN n) fun e w'' => e = .returned v ∧ ∃ m, w'' = w.drewN m :=
  h.mono fun _ _ ⟨he, hm⟩ => ⟨he, n, hm.symm⟩
theorem region_still_tail {P : Program} {id : Nat} {Q : Exit → Act → World → Prop} {a : Act} {w : World} {l : List Oper} (n : Nat) (hm : P.follows .mixedOrders = true) (hB : Region.lexTailB .any l.toArray n = true)
    (h : wpStill P l.toArray w.drew (fun a' => wpList P l.toArray Q (l.drop n) a' w.drew) (l.take n) a) : (Code.region id l.toArray true).wp P Q a w :=
  wp_region_still_tail n hm hB h
theorem quiet_same {P : Program} {f : FuncId} {args : Array Value} {w : World} {n : Nat} {v : Value} (h : Calls P f args (w.drewN n) fun e w' => e = .returned v ∧ ∃ m, (w.drewN n).drewN m = w') : Calls P f args (w.drewN n) fun e w'' => e = .returned v ∧ ∃ m, w'' = w.drewN m :=
  h.mono fun _ _ ⟨he, m, hm⟩ => ⟨he, n + m, by rw [← hm, World.drewN_drewN]⟩
/-! A block that is known whole. -/
def Blk (w : World) (g : Nat) (t : TypeId) (cs : Array Value) : Prop := w.heap[g]? = some (.cells cs t (0, 0))
section
variable {w w' : World} {g : Nat} {t : TypeId} {cs : Array Value}
theorem Blk.lt (h : Blk w g t cs) : g < w.heap.size := by
  rcases Nat.lt_or_ge g w.heap.size with hlt | hge
  · exact hlt
  · unfold Blk at h; rw [Array.getElem?_eq_none hge] at h; cases h
theorem Blk.cell (h : Blk w g t cs) (i : Nat) : w.cell? ⟨g, i, none⟩ = cs[i]? := cell_of_row w g i cs t (0, 0) h
theorem Blk.frozen (h : Blk w g t cs) (i : Nat) : w.frozen? ⟨g, i, none⟩ = false := by
  unfold Blk at h
  simp [World.frozen?, h]
theorem Blk.new (w : World) (t : TypeId) (cs : Array Value) : Blk (w.alloc (.cells cs t)) w.heap.size t cs := heap_alloc_new w _
theorem Blk.facts3 {a b c : Value} (h : Blk w g t #[a, b, c]) : w.cell? ⟨g, 0, none⟩ = some a ∧ w.cell? ⟨g, 1, none⟩ = some b ∧ w.cell? ⟨g, 2, none⟩ = some c ∧
    w.frozen? ⟨g, 0, none⟩ = false ∧ w.frozen? ⟨g, 1, none⟩ = false ∧ w.frozen? ⟨g, 2, none⟩ = false ∧ g < w.heap.size :=
  ⟨h.cell 0, h.cell 1, h.cell 2, h.frozen 0, h.frozen 1, h.frozen 2, h.lt⟩
theorem Blk.facts4 {a b c d : Value} (h : Blk w g t #[a, b, c, d]) : w.cell? ⟨g, 0, none⟩ = some a ∧ w.cell? ⟨g, 1, none⟩ = some b ∧ w.cell? ⟨g, 2, none⟩ = some c ∧ w.cell? ⟨g, 3, none⟩ = some d ∧
    w.frozen? ⟨g, 0, none⟩ = false ∧ w.frozen? ⟨g, 1, none⟩ = false ∧ w.frozen? ⟨g, 2, none⟩ = false ∧ w.frozen? ⟨g, 3, none⟩ = false ∧ g < w.heap.size :=
  ⟨h.cell 0, h.cell 1, h.cell 2, h.cell 3, h.frozen 0, h.frozen 1, h.frozen 2, h.frozen 3, h.lt⟩
theorem Blk.new1 (w : World) (A : Obj) (t : TypeId) (cs : Array Value) : Blk ((w.alloc A).alloc (.cells cs t)) (w.heap.size + 1) t cs := by
  have := Blk.new (w.alloc A) t cs
  rwa [World.size_alloc] at this
theorem Blk.new2 (w : World) (A B : Obj) (t : TypeId) (cs : Array Value) : Blk (((w.alloc A).alloc B).alloc (.cells cs t)) (w.heap.size + 1 + 1) t cs := by
  have := Blk.new1 (w.alloc A) B t cs
  rwa [World.size_alloc] at this
theorem Blk.drew (h : Blk w g t cs) : Blk w.drew g t cs := h
theorem Blk.drewN (h : Blk w g t cs) (n : Nat) : Blk (w.drewN n) g t cs := h
theorem Blk.alloc (h : Blk w g t cs) (o : Obj) : Blk (w.alloc o) g t cs := (Below.heap_alloc w o g h.lt).trans h
theorem Blk.set_ (h : Blk w g t cs) (i : Nat) (u : Value) : Blk (w.setCell ⟨g, i, none⟩ u) g t (cs.setIfInBounds i u) := by
  unfold Blk at h ⊢
  simp [World.setCell, Array.getElem?_modify, h]
theorem Blk.far (h : Blk w g t cs) {p : Addr} (hp : g ≠ p.block) (u : Value) : Blk (w.setCell p u) g t cs := (Below.heap_setCell w p u g hp).trans h
theorem Blk.below {B : Nat} (h : Blk w g t cs) (hb : Below B w w') (hg : g < B) : Blk w' g t cs := (hb.block g hg).trans h
theorem Blk.kept (h : Blk w g t cs) (hb : Below w.heap.size w w') : Blk w' g t cs := (hb.block g h.lt).trans h
theorem Blk.grown {row : Option Nat} (h : Blk w g t cs) (hb : w.grownBy w' row) (hg : some g ≠ row) : Blk w' g t cs := (hb.block g h.lt hg).trans h
end
/-! A block's cells as a function. -/
def Row (w : World) (g : Nat) (t : TypeId) (n : Nat) (f : Nat → Value) : Prop := ∃ cs, Blk w g t cs ∧ cs.size = n ∧ ∀ k, k < n → cs[k]? = some (f k)
section
variable {w w' : World} {g n : Nat} {t : TypeId} {f : Nat → Value}
theorem Row.lt (h : Row w g t n f) : g < w.heap.size := h.elim fun _ h => h.1.lt
theorem Row.cell (h : Row w g t n f) {k : Nat} (hk : k < n) : w.cell? ⟨g, k, none⟩ = some (f k) := h.elim fun _ h => (h.1.cell k).trans (h.2.2 k hk)
theorem Row.frozen (h : Row w g t n f) (k : Nat) : w.frozen? ⟨g, k, none⟩ = false := h.elim fun _ h => h.1.frozen k
theorem Row.drew (h : Row w g t n f) : Row w.drew g t n f := h
theorem Row.drewN (h : Row w g t n f) (k : Nat) : Row (w.drewN k) g t n f := h
theorem Row.alloc (h : Row w g t n f) (o : Obj) : Row (w.alloc o) g t n f := h.elim fun cs h => ⟨cs, h.1.alloc o, h.2⟩
theorem Row.far (h : Row w g t n f) {p : Addr} (hp : g ≠ p.block) (u : Value) : Row (w.setCell p u) g t n f := h.elim fun cs h => ⟨cs, h.1.far hp u, h.2⟩
theorem Row.kept (h : Row w g t n f) (hb : Below w.heap.size w w') : Row w' g t n f := h.elim fun cs h => ⟨cs, h.1.kept hb, h.2⟩
theorem Row.below {B : Nat} (h : Row w g t n f) (hb : Below B w w') (hg : g < B) : Row w' g t n f := h.elim fun cs h => ⟨cs, h.1.below hb hg, h.2⟩
theorem Row.of_ {f' : Nat → Value} (h : Row w g t n f) (e : ∀ k, k < n → f k = f' k) : Row w g t n f' := h.elim fun cs h => ⟨cs, h.1, h.2.1, fun k hk => by rw [h.2.2 k hk, e k hk]⟩
theorem Row.set_ (h : Row w g t n f) (i : Nat) (u : Value) : Row (w.setCell ⟨g, i, none⟩ u) g t n (fun k => if k = i then u else f k) := by
  obtain ⟨cs, h1, h2, h3⟩ := h
  refine ⟨_, h1.set_ i u, by simp [h2], fun k hk => ?_⟩
  rw [Array.getElem?_setIfInBounds]
  by_cases e : i = k
  · subst e; simp [h2, hk]
  · rw [if_neg e]
    show cs[k]? = some (if k = i then u else f k)
    rw [if_neg (fun x => e x.symm)]
    exact h3 k hk
theorem Row.blk (h : Row w g t n f) (cs : Array Value) (hn : cs.size = n) (e : ∀ k, k < n → cs[k]? = some (f k)) : Blk w g t cs := by
  obtain ⟨cs', h1, h2, h3⟩ := h
  have : cs' = cs := by
    apply Array.ext (by omega)
    intro i hi hi'
    have := (h3 i (by omega)).trans (e i (by omega)).symm
    rw [Array.getElem?_eq_getElem hi, Array.getElem?_eq_getElem hi'] at this
    exact Option.some.inj this
  rwa [← this]
theorem Blk.row {cs : Array Value} (h : Blk w g t cs) (hn : cs.size = n) (e : ∀ k, k < n → cs[k]? = some (f k)) : Row w g t n f := ⟨cs, h, hn, e⟩
end
section
variable {w w' : World} {g n : Nat} {t : TypeId}
theorem Blk.rangeAll {cs : List Value} (h : Blk w g t cs.toArray) : w.rangeAt g 0 cs := fun j v hv => by
  rw [Nat.zero_add, h.cell, List.getElem?_toArray, hv]
theorem Blk.there {cs : Array Value} (h : Blk w g t cs) : w.there g 0 cs.size := fun j hj => by
  rw [Nat.zero_add, h.cell, Array.getElem?_eq_getElem hj]
  exact ⟨rfl, h.frozen j⟩
theorem Row.there {f : Nat → Value} (h : Row w g t n f) (o m : Nat) (hm : o + m ≤ n) : w.there g o m := fun j hj => by
  rw [h.cell (by omega)]
  exact ⟨rfl, h.frozen _⟩
theorem Row.range {f : Nat → Value} (h : Row w g t n f) (o : Nat) (vs : List Value) (hm : o + vs.length ≤ n) (e : ∀ j v, vs[j]? = some v → f (o + j) = v) : w.rangeAt g o vs := fun j v hv => by
  have hj : j < vs.length := (List.getElem?_eq_some_iff.1 hv).1
  rw [h.cell (by omega), e j v hv]
theorem Row.setAll {f : Nat → Value} : ∀ (vs : List Value) (o : Nat) (w : World), Row w g t n f → o + vs.length ≤ n → Row (w.setCells g o vs) g t n (fun k => if o ≤ k ∧ k < o + vs.length then vs.getD (k - o) undef else f k)
  | [], o, w, h, _ => h.of_ fun k _ => by simp; omega
  | v :: vs, o, w, h, hl => by
    have h1 := Row.setAll (f := fun k => if k = o then v else f k) vs (o + 1) (w.setCell ⟨g, o, none⟩ v) (h.set_ o v) (by simp at hl; omega)
    refine Row.of_ (show Row (w.setCells g o (v :: vs)) g t n _ from h1) fun k _ => ?_
    simp only [List.length_cons]
    by_cases e : k = o
    · subst e
      rw [if_neg (by omega), if_pos (by omega)]
      simp
    · by_cases e2 : o + 1 ≤ k ∧ k < o + 1 + vs.length
      · rw [if_pos e2, if_pos (by omega)]
        obtain ⟨m, hm⟩ : ∃ m, k - o = m + 1 := ⟨k - o - 1, by omega⟩
        rw [show k - (o + 1) = m from by omega, hm]
        rfl
      · rw [if_neg e2, if_neg (by omega)]
        rw [if_neg (by omega)]
theorem Blk.setAll {cs : Array Value} (h : Blk w g t cs) (vs : List Value) (hl : vs.length = cs.size) : Blk (w.setCells g 0 vs) g t vs.toArray := by
  have hr : Row w g t cs.size (fun k => cs.getD k undef) := h.row rfl fun k hk => by simp [hk]
  refine (Row.setAll vs 0 w hr (by omega)).blk _ (by simp [hl]) fun k hk => ?_
  have hk' : k < vs.length := by omega
  simp [hk']
theorem below_setCells {B : Nat} {a : World} (hB : B ≤ g) : ∀ (vs : List Value) (o : Nat) (w : World), Below B a w → Below B a (w.setCells g o vs)
  | [], _, _, h => h
  | v :: vs, o, w, h => below_setCells hB vs (o + 1) _ (h.setCell (p := ⟨g, o, none⟩) hB v)
theorem size_setCells : ∀ (vs : List Value) (o : Nat) (w : World), (w.setCells g o vs).heap.size = w.heap.size
  | [], _, _ => rfl
  | v :: vs, o, w => (size_setCells vs (o + 1) _).trans (by simp)
theorem Blk.farCells {cs : Array Value} {b : Nat} (hb : g ≠ b) : ∀ (vs : List Value) (o : Nat) (w : World), Blk w g t cs → Blk (w.setCells b o vs) g t cs
  | [], _, _, h => h
  | v :: vs, o, w, h => Blk.farCells hb vs (o + 1) _ (h.far (p := ⟨b, o, none⟩) hb v)
theorem Row.farCells {f : Nat → Value} {b : Nat} (hb : g ≠ b) : ∀ (vs : List Value) (o : Nat) (w : World), Row w g t n f → Row (w.setCells b o vs) g t n f
  | [], _, _, h => h
  | v :: vs, o, w, h => Row.farCells hb vs (o + 1) _ (h.far (p := ⟨b, o, none⟩) hb v)
theorem ones_all_cells (k : IntKind) (xs : List Int) : (xs.map (Value.int k)).toArray.all (·.oneCell') = true := by
  simp [Value.oneCell']
end
section
variable {P : Program} {fn : Func} {p u v : Tmp} {ty : TypeId}
theorem res_cell (h : fn.results = #[.cell p ty]) (tmps : Array Value) (w : World) (g : Nat) (t : TypeId) (cs : Array Value) (d : TypeDesc) (hp : tmps.getD p undef = .pointer (some ⟨g, 0, none⟩)) (hg : Blk w g t cs)
    (hu : P.underlying ty = some d) (hd : (match d with | .struct _ | .array _ _ => true | _ => false) = true) (hi : (P.info? ty).map (·.size) = some cs.size) :
    (results fn tmps).run P w = .ok (.agg cs) w := results_cell_row h tmps w g t cs (0, 0) d hp hg hu hd hi
theorem res_cell_tmp (h : fn.results = #[.cell p ty, .tmp u]) (tmps : Array Value) (w : World) (g : Nat) (t : TypeId) (cs : Array Value) (d : TypeDesc) (hp : tmps.getD p undef = .pointer (some ⟨g, 0, none⟩)) (hg : Blk w g t cs)
    (hu : P.underlying ty = some d) (hd : (match d with | .struct _ | .array _ _ => true | _ => false) = true) (hi : (P.info? ty).map (·.size) = some cs.size) :
    (results fn tmps).run P w = .ok (.tuple #[.agg cs, tmps.getD u undef]) w := by
  have hp' : tmps[p]?.getD undef = .pointer (some ⟨g, 0, none⟩) := by simpa using hp
  simp [results, h, hp', asAddr, run_loadVar_row w g t ty cs (0, 0) d hg hu hd hi]
theorem res_cell_tmp2 (h : fn.results = #[.cell p ty, .tmp u, .tmp v]) (tmps : Array Value) (w : World) (g : Nat) (t : TypeId) (cs : Array Value) (d : TypeDesc) (hp : tmps.getD p undef = .pointer (some ⟨g, 0, none⟩)) (hg : Blk w g t cs)
    (hu : P.underlying ty = some d) (hd : (match d with | .struct _ | .array _ _ => true | _ => false) = true) (hi : (P.info? ty).map (·.size) = some cs.size) :
    (results fn tmps).run P w = .ok (.tuple #[.agg cs, tmps.getD u undef, tmps.getD v undef]) w := by
  have hp' : tmps[p]?.getD undef = .pointer (some ⟨g, 0, none⟩) := by simpa using hp
  simp [results, h, hp', asAddr, run_loadVar_row w g t ty cs (0, 0) d hg hu hd hi]
end
theorem below_then {B : Nat} {w w1 w2 : World} (h : Below B w w1) (hB : B ≤ w1.heap.size) (k : Below w1.heap.size w1 w2) : Below B w w2 :=
  h.trans ⟨k.os, k.tape, k.output, k.size, fun i hi => k.block i (Nat.lt_of_lt_of_le hi hB)⟩
/-- What a call leaves as it was, as rules for the walk. -/
theorem bcell {W w1 : World} (hb : Below W.heap.size W w1) : (∀ b o, b < W.heap.size → w1.cell? ⟨b, o, none⟩ = W.cell? ⟨b, o, none⟩) ∧ (∀ b o, b < W.heap.size → w1.frozen? ⟨b, o, none⟩ = W.frozen? ⟨b, o, none⟩) :=
  ⟨fun b o h => hb.cell (p := ⟨b, o, none⟩) h, fun b o h => hb.frozen (p := ⟨b, o, none⟩) h⟩
theorem below_drewN {B : Nat} {a w : World} (h : Below B a w) (n : Nat) : Below B a (w.drewN n) := ⟨h.os, h.tape, h.output, h.size, h.block⟩
end Dsc
end
section
/- Laws for regions that draw their order, taken one operation at a time. -/
set_option linter.unusedVariables false
set_option linter.unusedSimpArgs false
namespace Dsc
open Go Go.RowKit
section
variable {P : Program} {ops : Array Oper} {Q : Exit → Act → World → Prop} {i : Nat} {K : Act → World → Prop} {a : Act} {w : World} {o : Oper}
/-- A call that comes up. -/
theorem wpOp_call {R : World → Prop} {v : Value} (f : FuncId) (args : Array Value) (ho : ops[i]? = some o) (hw : Region.wanted o (yielded ops a.tmps) = true) (hr : (execOp a.eval o).run P w = .ok (.enter f args) w)
    (hc : Calls P f args w fun e w' => e = .returned v ∧ R w') (h : ∀ w', R w' → K (a.put o.dst v) w') : wpOp P ops Q i K a w := by
  unfold wpOp
  rw [ho]
  simp only [hw, if_true]
  refine .inl ?_
  unfold Oper.wp
  rw [hr, Oper.upon_enter]
  refine hc.mono ?_
  rintro e w' ⟨rfl, hR⟩
  exact h w' hR
/-- Whatever comes up: what follows stands behind a variable. -/
theorem wpOp_gen (ho : ops[i]? = some o) (hw : Region.wanted o (yielded ops a.tmps) = true) (h : ∀ K' : Act → World → Prop, (∀ a w, K a w → K' a w) → o.wp P a w K' Q) : wpOp P ops Q i K a w := by
  unfold wpOp
  rw [ho]
  simp only [hw, if_true]
  exact .inl (h K fun _ _ h => h)
/-- The same, its result told by a relation. -/
theorem wpOp_call' {R : Value → World → Prop} (f : FuncId) (args : Array Value) (ho : ops[i]? = some o) (hw : Region.wanted o (yielded ops a.tmps) = true) (hr : (execOp a.eval o).run P w = .ok (.enter f args) w)
    (hc : Calls P f args w fun e w' => ∃ v, e = .returned v ∧ R v w') (h : ∀ v w', R v w' → K (a.put o.dst v) w') : wpOp P ops Q i K a w := by
  unfold wpOp
  rw [ho]
  simp only [hw, if_true]
  refine .inl ?_
  unfold Oper.wp
  rw [hr, Oper.upon_enter]
  refine hc.mono ?_
  rintro e w' ⟨v, rfl, hR⟩
  exact h v w' hR
/-- What yields a value and moves the world. -/
theorem wpOp_value {v : Value} {w' : World} (ho : ops[i]? = some o) (hw : Region.wanted o (yielded ops a.tmps) = true) (hr : (execOp a.eval o).run P w = .ok (.value v) w')
    (h : K (a.put o.dst v) w') : wpOp P ops Q i K a w := by
  unfold wpOp
  rw [ho]
  simp only [hw, if_true]
  refine .inl ?_
  unfold Oper.wp
  rw [hr, Oper.upon_value]
  exact h
/-- A store. -/
theorem wpOp_skip {w' : World} (ho : ops[i]? = some o) (hw : Region.wanted o (yielded ops a.tmps) = true) (hr : (execOp a.eval o).run P w = .ok .skip w')
    (h : K (a.put o.dst undef) w') : wpOp P ops Q i K a w := by
  unfold wpOp
  rw [ho]
  simp only [hw, if_true]
  refine .inl ?_
  unfold Oper.wp
  rw [hr, Oper.upon_skip]
  exact h
/-- A load of a whole row out of the midst of a block. -/
theorem wpOp_load (ty : TypeId) (x : Operand) (ho : ops[i]? = some o) (hw : Region.wanted o (yielded ops a.tmps) = true) (hop : o.op = .load ty x)
    (b off : Nat) (hx : a.eval x = .pointer (some ⟨b, off, none⟩)) (cs : List Value) (d : TypeDesc) (hc : w.rangeAt b off cs)
    (hu : P.underlying ty = some d) (hd : d.isRow = true) (hi : (P.info? ty).map (·.size) = some cs.length)
    (h : K (a.put o.dst (.agg cs.toArray)) w) : wpOp P ops Q i K a w := by
  unfold wpOp
  rw [ho]
  simp only [hw, if_true]
  exact .inl (wp_load_mid ty x hop b off hx cs d hc hu hd hi h)
theorem wp_region_any_drew {id : Nat} (hm : P.follows .mixedOrders = true) (h : wpAny P .any ops Q ops.size (Array.replicate ops.size false) a w.drew) : (Code.region id ops true).wp P Q a w := wp_region_any hm h
/-- A store of a whole row in the midst of a block. -/
theorem wpOp_store (ty : TypeId) (x y : Operand) (ho : ops[i]? = some o) (hw : Region.wanted o (yielded ops a.tmps) = true) (hop : o.op = .store ty x y)
    (b off : Nat) (cells : Array Value) (hx : a.eval x = .pointer (some ⟨b, off, none⟩)) (hy : a.eval y = .agg cells)
    (ht : w.there b off cells.size) (hi : (P.info? ty).map (·.size) = some cells.size) (h1 : cells.all (·.oneCell') = true)
    (h : K (a.put o.dst undef) (w.setCells b off cells.toList)) : wpOp P ops Q i K a w := by
  unfold wpOp
  rw [ho]
  simp only [hw, if_true]
  exact .inl (wp_store_mid ty x y hop b off cells hx hy ht hi h1 h)
end
section
variable {P : Program} {fn : Func} {p u v : Tmp} {ty : TypeId}
theorem res_tmp_cell (h : fn.results = #[.tmp u, .cell p ty]) (tmps : Array Value) (w : World) (g : Nat) (t : TypeId) (cs : Array Value) (d : TypeDesc) (hp : tmps.getD p undef = .pointer (some ⟨g, 0, none⟩)) (hg : Blk w g t cs)
    (hu : P.underlying ty = some d) (hd : (match d with | .struct _ | .array _ _ => true | _ => false) = true) (hi : (P.info? ty).map (·.size) = some cs.size) :
    (results fn tmps).run P w = .ok (.tuple #[tmps.getD u undef, .agg cs]) w := by
  have hp' : tmps[p]?.getD undef = .pointer (some ⟨g, 0, none⟩) := by simpa using hp
  simp [results, h, hp', asAddr, run_loadVar_row w g t ty cs (0, 0) d hg hu hd hi]
theorem below_undrew {w w' : World} (h : Below w.drew.heap.size w.drew w') : Below w.heap.size w w' := ⟨h.os, h.tape, h.output, h.size, h.block⟩
end
end Dsc
end
section
/- What this program's types come to in the walks: bytes made and read. -/
set_option linter.unusedVariables false
set_option linter.unusedSimpArgs false
namespace Dsc
open Go Go.RowKit
open Go.Proofs

def bs (l : List UInt8) : ByteArray := ⟨l.toArray⟩
theorem bs_size (l : List UInt8) : (bs l).size = l.length := by simp [bs, ByteArray.size]
theorem bs_append (l m : List UInt8) : bs l ++ bs m = bs (l ++ m) := by
  apply ByteArray.ext
  simp [bs, ByteArray.data_append]
theorem bs_data (s : ByteArray) : bs s.data.toList = s := by simp [bs]
def b8 (x : Int) : UInt8 := UInt8.ofNat x.toNat

theorem conv1 (W : World) (x : Int) : (convert 29 9 (.slice (some ⟨W.heap.size, 0, none⟩) 1 1)).run Tryz.prog (W.alloc (.cells #[.int .u8 x] 5)) = .ok (.string (bs [b8 x])) (W.alloc (.cells #[.int .u8 x] 5)) :=
  run_convert_bytes_arg _ _ _ Tryz.underlying29 Tryz.underlying5 _ 0 1 1 [x] rfl (fun i hi => by 
    match i, hi with
    | 0, _ => simp) _ Tryz.underlying9
theorem conv2 (W : World) (x y : Int) : (convert 29 9 (.slice (some ⟨W.heap.size, 0, none⟩) 2 2)).run Tryz.prog (W.alloc (.cells #[.int .u8 x, .int .u8 y] 5)) = .ok (.string (bs [b8 x, b8 y])) (W.alloc (.cells #[.int .u8 x, .int .u8 y] 5)) :=
  run_convert_bytes_arg _ _ _ Tryz.underlying29 Tryz.underlying5 _ 0 2 2 [x, y] rfl (fun i hi => by
    match i, hi with
    | 0, _ => simp
    | 1, _ => simp) _ Tryz.underlying9
theorem conv3 (W : World) (x y z : Int) : (convert 29 9 (.slice (some ⟨W.heap.size, 0, none⟩) 3 3)).run Tryz.prog (W.alloc (.cells #[.int .u8 x, .int .u8 y, .int .u8 z] 5)) = .ok (.string (bs [b8 x, b8 y, b8 z])) (W.alloc (.cells #[.int .u8 x, .int .u8 y, .int .u8 z] 5)) :=
  run_convert_bytes_arg _ _ _ Tryz.underlying29 Tryz.underlying5 _ 0 3 3 [x, y, z] rfl (fun i hi => by
    match i, hi with
    | 0, _ => simp
    | 1, _ => simp
    | 2, _ => simp) _ Tryz.underlying9
theorem conv4 (W : World) (x y z u : Int) : (convert 29 9 (.slice (some ⟨W.heap.size, 0, none⟩) 4 4)).run Tryz.prog (W.alloc (.cells #[.int .u8 x, .int .u8 y, .int .u8 z, .int .u8 u] 5)) = .ok (.string (bs [b8 x, b8 y, b8 z, b8 u])) (W.alloc (.cells #[.int .u8 x, .int .u8 y, .int .u8 z, .int .u8 u] 5)) :=
  run_convert_bytes_arg _ _ _ Tryz.underlying29 Tryz.underlying5 _ 0 4 4 [x, y, z, u] rfl (fun i hi => by
    match i, hi with
    | 0, _ => simp
    | 1, _ => simp
    | 2, _ => simp
    | 3, _ => simp) _ Tryz.underlying9
end Dsc
end
section
/- The walks of package crc, and of the document's own sum. -/
set_option linter.unusedVariables false
set_option linter.unusedSimpArgs false
namespace Dsc
open Go Go.RowKit
open Go.Proofs

def uw (v : BitVec 32) : Int := (v.toNat : Int)
theorem uw_bd (v : BitVec 32) : 0 ≤ uw v ∧ uw v < 4294967296 := by have := v.isLt; unfold uw; omega
theorem bits32 (op : BinOp) (f : BitVec 32 → BitVec 32 → BitVec 32) (a b : BitVec 32) (h : ∀ x y : BitVec 32, bits op .u32 (x.toNat : Int) (y.toNat : Int) = IntKind.u32.wrap ((f (BitVec.ofInt 32 x.toNat) (BitVec.ofInt 32 y.toNat)).toNat : Int)) : bits op .u32 (uw a) (uw b) = uw (f a b) := by
  unfold uw
  rw [h, wrap_u32']
  have e : ∀ x : BitVec 32, BitVec.ofInt 32 (x.toNat : Int) = x := fun x => by rw [BitVec.ofInt_natCast, BitVec.ofNat_toNat, BitVec.setWidth_eq]
  rw [e, e]
  have := (f a b).isLt
  omega
theorem xor32 (a b : BitVec 32) : bits .xor .u32 (uw a) (uw b) = uw (a ^^^ b) := bits32 .xor (· ^^^ ·) a b fun _ _ => rfl
theorem and32 (a b : BitVec 32) : bits .and .u32 (uw a) (uw b) = uw (a &&& b) := bits32 .and (· &&& ·) a b fun _ _ => rfl
theorem shr1_32 (a : BitVec 32) : uw a / (2 : Int) = uw (a >>> 1) := by
  unfold uw; rw [BitVec.toNat_ushiftRight, Nat.shiftRight_eq_div_pow]; omega
theorem shr4_32 (a : BitVec 32) : uw a / (16 : Int) = uw (a >>> 4) := by
  unfold uw; rw [BitVec.toNat_ushiftRight, Nat.shiftRight_eq_div_pow]; omega
theorem neg32 (a : BitVec 32) : -uw a % 4294967296 = uw (-a) := by
  unfold uw; rw [BitVec.toNat_neg]; have := a.isLt; omega
theorem low_bit (v : BitVec 32) : v &&& 1#32 = if v.getLsbD 0 then 1#32 else 0#32 := by
  apply BitVec.eq_of_getLsbD_eq
  intro i hi
  rw [BitVec.getLsbD_and]
  have h1 : (1#32).getLsbD i = decide (i = 0) := by
    have : ∀ j : Fin 32, (1#32).getLsbD j = decide (j.1 = 0) := by decide
    exact this ⟨i, hi⟩
  rw [h1]
  by_cases e : i = 0
  · subst e; cases v.getLsbD 0 <;> simp
  · simp only [e, decide_false, Bool.and_false]
    split
    · rw [h1]; simp [e]
    · simp
theorem stp_mask (v : BitVec 32) : (v >>> 1) ^^^ (0xEDB88320#32 &&& -(v &&& 1#32)) = stp v := by
  unfold stp
  rw [low_bit]
  cases v.getLsbD 0
  · congr 1
  · congr 1
theorem stp_int (v : BitVec 32) : bits .xor .u32 (uw v / (2 : Int)) (bits .and .u32 3988292384 (-(bits .and .u32 (uw v) 1) % 4294967296)) = uw (stp v) := by
  rw [show (1 : Int) = uw 1#32 from rfl, show (3988292384 : Int) = uw 0xEDB88320#32 from rfl, and32, neg32, and32, shr1_32, xor32, stp_mask]
def tab4 (k : Nat) : BitVec 32 := stps 4 (BitVec.ofNat 32 k)
theorem stps_succ (n : Nat) (x : BitVec 32) : stps (n + 1) x = stp (stps n x) := by
  rw [stps_add]; rfl
def halfC : Array Value := #[.int .u32 (uw (tab4 0)), .int .u32 (uw (tab4 1)), .int .u32 (uw (tab4 2)), .int .u32 (uw (tab4 3)), .int .u32 (uw (tab4 4)), .int .u32 (uw (tab4 5)), .int .u32 (uw (tab4 6)), .int .u32 (uw (tab4 7)),
  .int .u32 (uw (tab4 8)), .int .u32 (uw (tab4 9)), .int .u32 (uw (tab4 10)), .int .u32 (uw (tab4 11)), .int .u32 (uw (tab4 12)), .int .u32 (uw (tab4 13)), .int .u32 (uw (tab4 14)), .int .u32 (uw (tab4 15))]
theorem below16 {k : Nat} (h : k < 16) : k = 0 ∨ k = 1 ∨ k = 2 ∨ k = 3 ∨ k = 4 ∨ k = 5 ∨ k = 6 ∨ k = 7 ∨ k = 8 ∨ k = 9 ∨ k = 10 ∨ k = 11 ∨ k = 12 ∨ k = 13 ∨ k = 14 ∨ k = 15 := by omega
theorem zeros16 (k : Nat) (h : k < 16) : (#[.int .u32 0, .int .u32 0, .int .u32 0, .int .u32 0, .int .u32 0, .int .u32 0, .int .u32 0, .int .u32 0, .int .u32 0, .int .u32 0, .int .u32 0, .int .u32 0, .int .u32 0, .int .u32 0, .int .u32 0, .int .u32 0] : Array Value)[k]? = some (.int .u32 0) := by
  rcases below16 h with rfl | rfl | rfl | rfl | rfl | rfl | rfl | rfl | rfl | rfl | rfl | rfl | rfl | rfl | rfl | rfl <;> rfl
theorem halfC_at (k : Nat) (h : k < 16) : halfC[k]? = some (.int .u32 (uw (tab4 k))) := by
  rcases below16 h with rfl | rfl | rfl | rfl | rfl | rfl | rfl | rfl | rfl | rfl | rfl | rfl | rfl | rfl | rfl | rfl <;> rfl
theorem halfC_one : halfC.all (·.oneCell') = true := by simp [halfC, Value.oneCell']
set_option maxRecDepth 10000 in
set_option maxHeartbeats 1000000 in
theorem half_any (w : World) : Calls Tryz.prog 42 #[] w fun e w' => e = .returned (.agg halfC) ∧ Below w.heap.size w w' := by
  have hu := Tryz.underlying69
  go_enter Tryz.func42, Tryz.ntmps42
  go_wp2
  have hB0 := Lib.hid (show Row ((w.alloc (.cells #[.int .u32 0, .int .u32 0, .int .u32 0, .int .u32 0, .int .u32 0, .int .u32 0, .int .u32 0, .int .u32 0, .int .u32 0, .int .u32 0, .int .u32 0, .int .u32 0, .int .u32 0, .int .u32 0, .int .u32 0, .int .u32 0] 69)).alloc (.cells #[.int .u32 0, .int .u32 0, .int .u32 0, .int .u32 0, .int .u32 0, .int .u32 0, .int .u32 0, .int .u32 0, .int .u32 0, .int .u32 0, .int .u32 0, .int .u32 0, .int .u32 0, .int .u32 0, .int .u32 0, .int .u32 0] 69)) (w.heap.size + 1) 69 16 (fun k => if k < 0 then .int .u32 (uw (tab4 k)) else .int .u32 0) from
    (Blk.new1 w _ _ _).row rfl (fun k hk => by rw [if_neg (by omega)]; exact zeros16 k hk))
  have hA0 := Lib.hid (show Blk ((w.alloc (.cells #[.int .u32 0, .int .u32 0, .int .u32 0, .int .u32 0, .int .u32 0, .int .u32 0, .int .u32 0, .int .u32 0, .int .u32 0, .int .u32 0, .int .u32 0, .int .u32 0, .int .u32 0, .int .u32 0, .int .u32 0, .int .u32 0] 69)).alloc (.cells #[.int .u32 0, .int .u32 0, .int .u32 0, .int .u32 0, .int .u32 0, .int .u32 0, .int .u32 0, .int .u32 0, .int .u32 0, .int .u32 0, .int .u32 0, .int .u32 0, .int .u32 0, .int .u32 0, .int .u32 0, .int .u32 0] 69)) w.heap.size 69 #[.int .u32 0, .int .u32 0, .int .u32 0, .int .u32 0, .int .u32 0, .int .u32 0, .int .u32 0, .int .u32 0, .int .u32 0, .int .u32 0, .int .u32 0, .int .u32 0, .int .u32 0, .int .u32 0, .int .u32 0, .int .u32 0] from
    (Blk.new w _ _).alloc _)
  go_loopg [4] 16 (fun k a wr => ∃ i : Nat, i ≤ 16 ∧ k = 16 - i ∧ a = .int .i64 i ∧ Row wr (w.heap.size + 1) 69 16 (fun k => if k < i then .int .u32 (uw (tab4 k)) else .int .u32 0) ∧ Blk wr w.heap.size 69 #[.int .u32 0, .int .u32 0, .int .u32 0, .int .u32 0, .int .u32 0, .int .u32 0, .int .u32 0, .int .u32 0, .int .u32 0, .int .u32 0, .int .u32 0, .int .u32 0, .int .u32 0, .int .u32 0, .int .u32 0, .int .u32 0] ∧ Below w.heap.size w wr)
  case atStart => exact ⟨0, by omega, by omega, rfl, hB0.out, hA0.out, by go_grown⟩
  case round =>
    obtain ⟨i, hi, hk, rfl, hR, hA, hB⟩ := hrel
    have hk' := Lib.hid hk
    have hR' := Lib.hid hR
    have hA' := Lib.hid hA
    have hB' := Lib.hid hB
    clear hk hR hA hB
    by_cases hlt : i < 16
    · have q0 : (0 : Int) ≤ i := by omega
      have q1 : (i : Int) < 16 := by omega
      have e0 : ((i : Int) % 4294967296) = uw (BitVec.ofNat 32 i) := by unfold uw; rw [BitVec.toNat_ofNat]; omega
      have c1 := hR'.out.cell hlt
      have f1 := hR'.out.frozen i
      go_wp2_with fail
      go_loopg [3, 9] 4 (fun k a b wr2 => ∃ j : Nat, j ≤ 4 ∧ k = 4 - j ∧ a = .int .u32 (uw (stps j (BitVec.ofNat 32 i))) ∧ b = .int .i64 j ∧ wr2 = wr)
      case atStart => exact ⟨0, by omega, by omega, by first | rfl | (show Value.int .u32 _ = Value.int .u32 _; congr 1; rw [show stps 0 (BitVec.ofNat 32 i) = BitVec.ofNat 32 i from rfl, ← e0]; omega), rfl, rfl⟩
      case round =>
        obtain ⟨j, hj, hk2, rfl, rfl, rfl⟩ := hrel
        have hk2' := Lib.hid hk2
        obtain ⟨x, hx⟩ : ∃ x, uw (stps j (BitVec.ofNat 32 i)) = x := ⟨_, rfl⟩
        have bx : 0 ≤ x ∧ x < 4294967296 := hx ▸ uw_bd _
        rw [hx]
        have hx' := Lib.hid hx
        clear hk2 hx e0
        by_cases hlt2 : j < 4
        · have q2 : (0 : Int) ≤ j := by omega
          have q3 : (j : Int) < 4 := by omega
          go_wp2
          go_roundg (4 - (j + 1))
          case measure => have := hk2'.out; omega
          case rel =>
            refine ⟨j + 1, by omega, rfl, ?_, by go_num, rfl⟩
            have := stp_int (stps j (BitVec.ofNat 32 i))
            rw [hx'.out] at this
            rw [stps_succ, ← this]
        · obtain rfl : j = 4 := by omega
          go_wp2
          go_roundg (16 - (i + 1))
          case measure => have := hk'.out; omega
          case rel =>
            refine ⟨i + 1, by omega, rfl, by go_num, ?_, ?_, ?_⟩
            · refine (hR'.out.set_ i _).of_ fun k hk => ?_
              by_cases e : k = i
              · subst e; simp only [if_true, if_pos (show k < k + 1 by omega)]; rw [← hx'.out]; rfl
              · simp only [if_neg e]
                by_cases e2 : k < i
                · rw [if_pos e2, if_pos (by omega)]
                · rw [if_neg e2, if_neg (by omega)]
            · exact hA'.out.far (by simp) _
            · exact hB'.out.setCell (by simp) _
    · obtain rfl : i = 16 := by omega
      have hK : Blk wr (w.heap.size + 1) 69 halfC := hR'.out.blk _ rfl (fun k hk => by rw [if_pos hk]; exact halfC_at k hk)
      have HK := Lib.hid hK
      have sz : (Tryz.prog.info? 69).map (·.size) = some 16 := by kernel_rfl
      have SZ := Lib.hid sz
      obtain ⟨w9, hw9⟩ : ∃ w9, w9 = wr.setCells w.heap.size 0 halfC.toList := ⟨_, rfl⟩
      have HW9 := Lib.hid hw9
      have F9 := Lib.hid (show Blk w9 w.heap.size 69 halfC ∧ Below w.heap.size w w9 by rw [hw9]; exact ⟨hA'.out.setAll halfC.toList rfl, below_setCells (Nat.le_refl _) _ _ _ hB'.out⟩)
      clear hK sz hw9
      go_wp2_with (first | (refine wpList_load_row rfl 69 (.tmp 1) rfl (w.heap.size + 1) rfl 69 halfC (0, 0) _ HK.out Tryz.underlying69 rfl SZ.out ?_) | (refine wpList_store_mid rfl 69 (.tmp 0) (.tmp 23) rfl w.heap.size 0 halfC rfl rfl (hA'.out.there) SZ.out halfC_one ?_; rw [← HW9.out]))
      refine bodyPost_ret (res_cell (by rfl) _ _ _ 69 halfC _ (by rfl) F9.out.1 Tryz.underlying69 rfl SZ.out) rfl ⟨rfl, F9.out.2⟩
theorem idx15 (v : BitVec 32) : ∃ k : Nat, k < 16 ∧ bits .and .u32 (uw v) 15 = (k : Int) ∧ v &&& 15#32 = BitVec.ofNat 32 k := by
  refine ⟨(v &&& 15#32).toNat, ?_, ?_, by simp⟩
  · rw [BitVec.toNat_and]; exact Nat.lt_of_le_of_lt Nat.and_le_right (by decide)
  · rw [show (15 : Int) = uw 15#32 from rfl, and32]; rfl
theorem four32 (v : BitVec 32) (k : Nat) (h : v &&& 15#32 = BitVec.ofNat 32 k) : bits .xor .u32 (uw v / (16 : Int)) (uw (tab4 k)) = uw (stps 4 v) := by
  rw [shr4_32, xor32, stps_four, h]; rfl
theorem uw_mod (v : BitVec 32) : uw v % 4294967296 = uw v := by have := uw_bd v; omega
theorem byte32 (b : UInt8) : (b.toNat : Int) = uw (BitVec.ofNat 32 b.toNat) := by
  have := b.toNat_lt; unfold uw; rw [BitVec.toNat_ofNat]; omega
theorem not32 (v : BitVec 32) : uw (~~~v) = 4294967295 - uw v := by
  unfold uw; rw [BitVec.toNat_not]; have := v.isLt; omega
theorem sum_end (r : BitVec 32) : wrap64 (bits .xor .u32 IntKind.u32.max (uw r)) = uw (~~~r) := by
  rw [show (IntKind.u32.max : Int) = uw (BitVec.allOnes 32) from by decide, xor32, BitVec.xor_comm, BitVec.xor_allOnes]
  have := uw_bd (~~~r)
  unfold wrap64; omega
theorem take_all (s : ByteArray) : s.data.toList.take s.size = s.data.toList := List.take_of_length_le (Nat.le_of_eq (Array.length_toList ..))
theorem reg_snoc (r : BitVec 32) (l : List UInt8) (b : UInt8) : crcReg r (l ++ [b]) = crcByte (crcReg r l) b := by simp [crcReg]
theorem byte_steps (r : BitVec 32) (b : UInt8) : crcByte r b = stps 4 (stps 4 (r ^^^ BitVec.ofNat 32 b.toNat)) := by
  unfold crcByte; rw [show 8 = 4 + 4 from rfl, stps_add]
theorem take_snoc (s : ByteArray) (k : Nat) (h : k < s.size) : s.data.toList.take (k + 1) = s.data.toList.take k ++ [s[k]] := by
  rw [List.take_succ_eq_append_getElem (by simpa using h)]; rfl
set_option maxRecDepth 10000 in
set_option maxHeartbeats 1000000 in
theorem sum_any (s : ByteArray) (w : World) (hs : s.size ≤ 140737488351232) : Calls Tryz.prog 29 #[.string s] w fun e w' => e = .returned (.int .i64 (crc s.data.toList)) ∧ Below w.heap.size w w' := by
  have hu := Tryz.underlying69
  have HF := Lib.hid (fun W => half_any W)
  have sz : (Tryz.prog.info? 69).map (·.size) = some 16 := by kernel_rfl
  have SZ := Lib.hid sz
  clear sz
  go_enter Tryz.func29, Tryz.ntmps29
  go_wp2_with fail
  refine (HF.out w).mono ?_
  rintro e w1 ⟨rfl, hb1⟩
  have HB1 := Lib.hid hb1
  clear hb1
  have hz : (#[Value.int .u32 0, .int .u32 0, .int .u32 0, .int .u32 0, .int .u32 0, .int .u32 0, .int .u32 0, .int .u32 0, .int .u32 0, .int .u32 0, .int .u32 0, .int .u32 0, .int .u32 0, .int .u32 0, .int .u32 0, .int .u32 0] : Array Value).size = halfC.toList.length := rfl
  have K1 := Lib.hid (show Blk ((w1.alloc (.cells #[.int .u32 0, .int .u32 0, .int .u32 0, .int .u32 0, .int .u32 0, .int .u32 0, .int .u32 0, .int .u32 0, .int .u32 0, .int .u32 0, .int .u32 0, .int .u32 0, .int .u32 0, .int .u32 0, .int .u32 0, .int .u32 0] 69)).setCells w1.heap.size 0 halfC.toList) w1.heap.size 69 halfC from by
    simpa using (Blk.new w1 69 _).setAll halfC.toList hz.symm)
  obtain ⟨w2, hw2⟩ : ∃ w2, w2 = (w1.alloc (.cells #[.int .u32 0, .int .u32 0, .int .u32 0, .int .u32 0, .int .u32 0, .int .u32 0, .int .u32 0, .int .u32 0, .int .u32 0, .int .u32 0, .int .u32 0, .int .u32 0, .int .u32 0, .int .u32 0, .int .u32 0, .int .u32 0] 69)).setCells w1.heap.size 0 halfC.toList := ⟨_, rfl⟩
  have hb2 : Below w.heap.size w w2 := by rw [hw2]; exact below_setCells HB1.out.size _ _ _ (HB1.out.alloc HB1.out.size _)
  rw [← hw2] at K1
  have HB2 := Lib.hid hb2
  have Hw2 := Lib.hid hw2
  have TH := Lib.hid (show (w1.alloc (.cells #[.int .u32 0, .int .u32 0, .int .u32 0, .int .u32 0, .int .u32 0, .int .u32 0, .int .u32 0, .int .u32 0, .int .u32 0, .int .u32 0, .int .u32 0, .int .u32 0, .int .u32 0, .int .u32 0, .int .u32 0, .int .u32 0] 69)).there w1.heap.size 0 halfC.size from (Blk.new w1 69 _).there)
  clear hb2 hw2 hz
  go_wp2_with (first | (refine wpList_store_mid rfl 69 (.tmp 3) (.tmp 6) rfl w1.heap.size 0 halfC rfl rfl TH.out SZ.out halfC_one ?_; rw [← Hw2.out]))
  go_loopg [4, 9] s.size (fun k a b wr => ∃ i : Nat, i ≤ s.size ∧ k = s.size - i ∧ a = .int .u32 (uw (crcReg 0xFFFFFFFF#32 (s.data.toList.take i))) ∧ b = .int .i64 i ∧ wr = w2)
  case atStart => exact ⟨0, by omega, by omega, rfl, rfl, rfl⟩
  case round =>
    obtain ⟨i, hi, hk, rfl, rfl, rfl⟩ := hrel
    have hk' := Lib.hid hk
    clear hk
    obtain ⟨r, hr⟩ : ∃ r, crcReg 0xFFFFFFFF#32 (s.data.toList.take i) = r := ⟨_, rfl⟩
    rw [hr]
    have hr' := Lib.hid hr
    clear hr
    by_cases hlt : i < s.size
    · have q0 : (0 : Int) ≤ i := by omega
      have q1 : (i : Int) < s.size := by omega
      obtain ⟨x, hx⟩ : ∃ x, bits .xor .u32 (uw r) ((s[i].toNat : Int) % 4294967296) = x := ⟨_, rfl⟩
      have hx2 : x = uw (r ^^^ BitVec.ofNat 32 s[i].toNat) := by rw [← hx, byte32, uw_mod, xor32]
      have bx : 0 ≤ x ∧ x < 4294967296 := by rw [hx2]; exact uw_bd _
      obtain ⟨k1, k1a, k1b, k1c⟩ := idx15 (r ^^^ BitVec.ofNat 32 s[i].toNat)
      rw [← hx2] at k1b
      have v1 := four32 _ k1 k1c
      rw [← hx2] at v1
      obtain ⟨y, hy⟩ : ∃ y, bits .xor .u32 (x / (16 : Int)) (uw (tab4 k1)) = y := ⟨_, rfl⟩
      rw [hy] at v1
      have by' : 0 ≤ y ∧ y < 4294967296 := by rw [v1]; exact uw_bd _
      obtain ⟨k2, k2a, k2b, k2c⟩ := idx15 (stps 4 (r ^^^ BitVec.ofNat 32 s[i].toNat))
      rw [← v1] at k2b
      have v2 := four32 _ k2 k2c
      rw [← v1] at v2
      have d1 := (K1.out.cell k1).trans (halfC_at k1 k1a)
      have d2 := (K1.out.cell k2).trans (halfC_at k2 k2a)
      have n1 : (k1 : Int) < 16 := by omega
      have n2 : (k2 : Int) < 16 := by omega
      have e1 : (0 : Int) ≤ k1 := by omega
      have e2 : (0 : Int) ≤ k2 := by omega
      have V2 := Lib.hid v2
      have X2 := Lib.hid hx2
      clear v2 v1 hx2 k1c k2c k1a k2a
      go_wp2
      go_roundg (s.size - (i + 1))
      case measure => have := hk'.out; omega
      case rel =>
        refine ⟨i + 1, by omega, rfl, ?_, by go_num, rfl⟩
        have ts := take_snoc s i hlt
        rw [ts, reg_snoc, hr'.out, byte_steps, ← V2.out]
    · obtain rfl : i = s.size := by omega
      have er := uw_bd r
      have en := not32 r
      have EN := Lib.hid en
      clear en
      go_wp2
      go_ret
      refine ⟨ret_int ?_, HB2.out⟩
      rw [sum_end, ← hr'.out, take_all]
      rfl
theorem bit_test (v : BitVec 32) : bits .and .u32 (uw v) 1 = if v.getLsbD 0 then 1 else 0 := by
  rw [show (1 : Int) = uw 1#32 from rfl, and32, low_bit]
  cases v.getLsbD 0 <;> rfl
theorem stp_yes (v : BitVec 32) (h : v.getLsbD 0 = true) : bits .xor .u32 (uw v / (2 : Int)) 3988292384 = uw (stp v) := by
  rw [show (3988292384 : Int) = uw 0xEDB88320#32 from rfl, shr1_32, xor32]
  unfold stp; rw [h]; rfl
theorem stp_no (v : BitVec 32) (h : v.getLsbD 0 = false) : uw v / (2 : Int) = uw (stp v) := by
  rw [shr1_32, stp_low v h]
set_option maxRecDepth 10000 in
set_option maxHeartbeats 1000000 in
theorem rsum_any (s : ByteArray) (w : World) (hs : s.size ≤ 140737488351232) : Calls Tryz.prog 16 #[.string s] w fun e w' => e = .returned (.int .i64 (crc s.data.toList)) ∧ w = w' := by
  go_enter Tryz.func16, Tryz.ntmps16
  go_wp2_with fail
  go_loopg [3, 4] s.size (fun k a b wr => ∃ i : Nat, i ≤ s.size ∧ k = s.size - i ∧ a = .int .u32 (uw (crcReg 0xFFFFFFFF#32 (s.data.toList.take i))) ∧ b = .int .i64 i ∧ wr = w)
  case atStart => exact ⟨0, by omega, by omega, rfl, rfl, rfl⟩
  case round =>
    obtain ⟨i, hi, hk, rfl, rfl, rfl⟩ := hrel
    have hk' := Lib.hid hk
    clear hk
    obtain ⟨r, hr⟩ : ∃ r, crcReg 0xFFFFFFFF#32 (s.data.toList.take i) = r := ⟨_, rfl⟩
    rw [hr]
    have hr' := Lib.hid hr
    clear hr
    by_cases hlt : i < s.size
    · have q0 : (0 : Int) ≤ i := by omega
      have q1 : (i : Int) < s.size := by omega
      obtain ⟨x, hx⟩ : ∃ x, bits .xor .u32 (uw r) ((s[i].toNat : Int) % 4294967296) = x := ⟨_, rfl⟩
      have hx2 : x = uw (r ^^^ BitVec.ofNat 32 s[i].toNat) := by rw [← hx, byte32, uw_mod, xor32]
      have X2 := Lib.hid hx2
      clear hx2
      go_wp2_with fail
      go_loopg [3, 5] 8 (fun k a b wr2 => ∃ j : Nat, j ≤ 8 ∧ k = 8 - j ∧ a = .int .u32 (uw (stps j (r ^^^ BitVec.ofNat 32 s[i].toNat))) ∧ b = .int .i64 j ∧ wr2 = wr)
      case atStart => exact ⟨0, by omega, by omega, by rw [X2.out]; rfl, rfl, rfl⟩
      case round =>
        obtain ⟨j, hj, hk2, rfl, rfl, rfl⟩ := hrel
        have hk2' := Lib.hid hk2
        clear hk2
        by_cases hlt2 : j < 8
        · have q2 : (0 : Int) ≤ j := by omega
          have q3 : (j : Int) < 8 := by omega
          have ss := stps_succ j (r ^^^ BitVec.ofNat 32 s[i].toNat)
          obtain ⟨v, hv⟩ : ∃ v, stps j (r ^^^ BitVec.ofNat 32 s[i].toNat) = v := ⟨_, rfl⟩
          rw [hv] at ss ⊢
          have SS := Lib.hid ss
          clear hv ss
          have bt := bit_test v
          cases hb : v.getLsbD 0
          · have sn := stp_no v hb
            have SN := Lib.hid sn
            rw [hb] at bt
            simp at bt
            clear hb sn
            go_wp2
            go_roundg (8 - (j + 1))
            case measure => have := hk2'.out; omega
            case rel => exact ⟨j + 1, by omega, rfl, by rw [SS.out, ← SN.out], by go_num, rfl⟩
          · have sn := stp_yes v hb
            have SN := Lib.hid sn
            rw [hb] at bt
            simp at bt
            clear hb sn
            go_wp2
            go_roundg (8 - (j + 1))
            case measure => have := hk2'.out; omega
            case rel => exact ⟨j + 1, by omega, rfl, by rw [SS.out, ← SN.out], by go_num, rfl⟩
        · obtain rfl : j = 8 := by omega
          go_wp2
          go_roundg (s.size - (i + 1))
          case measure => have := hk'.out; omega
          case rel =>
            refine ⟨i + 1, by omega, rfl, ?_, by go_num, rfl⟩
            have ts := take_snoc s i hlt
            rw [ts, reg_snoc, hr'.out]
            rfl
    · obtain rfl : i = s.size := by omega
      have er := uw_bd r
      go_wp2
      go_ret
      refine ⟨ret_int ?_, rfl⟩
      rw [sum_end, ← hr'.out, take_all]
      rfl
end Dsc
end
section
namespace Dsc

def clamp (x most : Int) : Int := min (max x (-most)) most
theorem clamp_bd (x : Int) {m : Int} (h : 0 ≤ m) : -m ≤ clamp x m ∧ clamp x m ≤ m := by unfold clamp; omega
def sgn (x : Int) : Int := if 0 < x then 1 else if x < 0 then -1 else 0

structure Lms where
  ws : List Int
  hs : List Int
def inB (m : Int) (x : Int) : Prop := -m ≤ x ∧ x ≤ m
structure Lms.Ok (l : Lms) : Prop where
  wl : l.ws.length = 8
  hl : l.hs.length = 8
  w : ∀ x ∈ l.ws, -1048576 ≤ x ∧ x ≤ 1048576
  h : ∀ x ∈ l.hs, -4194304 ≤ x ∧ x ≤ 4194304
def dot : List Int → List Int → Int
  | w :: ws, h :: hs => w * h + dot ws hs
  | _, _ => 0
def Lms.guess (l : Lms) : Int := clamp (dot l.ws l.hs / 4096) 1048576
def stepW (way : Int) : List Int → List Int → List Int
  | w :: ws, h :: hs => clamp (w + 16 * way * sgn h) 1048576 :: stepW way ws hs
  | _, _ => []
def Lms.learn (l : Lms) (x : Int) : Lms := ⟨stepW (sgn (x - l.guess)) l.ws l.hs, x :: l.hs.take 7⟩
def zeroL : Lms := ⟨List.replicate 8 0, List.replicate 8 0⟩
theorem zeroL_ok : zeroL.Ok := ⟨by simp [zeroL], by simp [zeroL], by simp [zeroL], by simp [zeroL]⟩
theorem guess_bd (l : Lms) : -1048576 ≤ l.guess ∧ l.guess ≤ 1048576 := clamp_bd _ (by decide)
theorem stepW_length (way : Int) : ∀ ws hs : List Int, ws.length = hs.length → (stepW way ws hs).length = ws.length
  | [], [], _ => rfl
  | w :: ws, h :: hs, e => by simp only [stepW, List.length_cons, stepW_length way ws hs (by simpa using e)]
theorem stepW_bd (way : Int) : ∀ ws hs : List Int, ∀ x ∈ stepW way ws hs, -1048576 ≤ x ∧ x ≤ 1048576
  | w :: ws, h :: hs, x, hx => by
    simp only [stepW, List.mem_cons] at hx
    rcases hx with rfl | hx
    · exact clamp_bd _ (by decide)
    · exact stepW_bd way ws hs x hx
  | [], _, x, hx => by simp [stepW] at hx
  | w :: ws, [], x, hx => by simp [stepW] at hx
theorem learn_ok {l : Lms} (h : l.Ok) {x : Int} (h0 : -4194304 ≤ x) (h1 : x ≤ 4194304) : (l.learn x).Ok := by
  obtain ⟨a, b, c, d⟩ := h
  refine ⟨?_, ?_, ?_, ?_⟩
  · simp only [Lms.learn]; rw [stepW_length _ _ _ (by omega), a]
  · simp [Lms.learn, b]
  · exact stepW_bd _ _ _
  · intro y hy
    simp only [Lms.learn, List.mem_cons] at hy
    rcases hy with rfl | hy
    · exact ⟨h0, h1⟩
    · exact d y (List.mem_of_mem_take hy)

structure Chain where
  last : Int
  a : Lms
  b : Lms
def isSample (x : Int) : Prop := -131072 ≤ x ∧ x ≤ 131072
structure Chain.Ok (c : Chain) : Prop where
  last : -131072 ≤ c.last ∧ c.last ≤ 131072
  a : c.a.Ok
  b : c.b.Ok
def zeroC : Chain := ⟨0, zeroL, zeroL⟩
theorem zeroC_ok : zeroC.Ok := ⟨by simp [zeroC], zeroL_ok, zeroL_ok⟩
def Chain.guess (c : Chain) : Int := c.last + c.a.guess + c.b.guess
def Chain.learn (c : Chain) (x : Int) : Chain := ⟨x, c.a.learn (x - c.last), c.b.learn (x - c.last - c.a.guess)⟩
theorem Chain.learn_ok {c : Chain} (h : c.Ok) {x : Int} (hx : -131072 ≤ x ∧ x ≤ 131072) : (c.learn x).Ok := by
  obtain ⟨h1, h2, h3⟩ := h
  have := guess_bd c.a
  exact ⟨hx, Dsc.learn_ok h2 (by omega) (by omega), Dsc.learn_ok h3 (by omega) (by omega)⟩
theorem Chain.guess_bd {c : Chain} (h : c.Ok) : -2228224 ≤ c.guess ∧ c.guess ≤ 2228224 := by
  have := Dsc.guess_bd c.a
  have := Dsc.guess_bd c.b
  have := h.last
  unfold Chain.guess
  omega

/-- Samples' residuals from a chain on: none, if one is no sample. -/
def lput (c : Chain) : List Int → Option (List Int)
  | [] => some []
  | x :: xs => if -131072 ≤ x ∧ x ≤ 131072 then (lput (c.learn x) xs).map ((x - c.guess) :: ·) else none
def lget (c : Chain) : List Int → Option (List Int)
  | [] => some []
  | r :: rs => if (-16777216 ≤ r ∧ r ≤ 16777216) ∧ -131072 ≤ r + c.guess ∧ r + c.guess ≤ 131072 then (lget (c.learn (r + c.guess)) rs).map ((r + c.guess) :: ·) else none

theorem lput_some : ∀ (xs : List Int) (c : Chain), c.Ok → (∀ x ∈ xs, -131072 ≤ x ∧ x ≤ 131072) → ∃ rs, lput c xs = some rs ∧ rs.length = xs.length ∧ (∀ r ∈ rs, -2359296 ≤ r ∧ r ≤ 2359296)
  | [], _, _, _ => ⟨[], rfl, rfl, by simp⟩
  | x :: xs, c, hc, hx => by
    have h0 := hx x (by simp)
    obtain ⟨rs, h1, h2, h3⟩ := lput_some xs (c.learn x) (Chain.learn_ok hc h0) (fun y hy => hx y (by simp [hy]))
    refine ⟨(x - c.guess) :: rs, by simp [lput, h0, h1], by simp [h2], ?_⟩
    intro r hr
    simp only [List.mem_cons] at hr
    rcases hr with rfl | hr
    · have := Chain.guess_bd hc
      omega
    · exact h3 r hr
theorem lget_lput : ∀ (xs : List Int) (c : Chain) (rs : List Int), c.Ok → lput c xs = some rs → lget c rs = some xs
  | [], c, rs, _, h => by simp [lput] at h; subst h; rfl
  | x :: xs, c, rs, hc, h => by
    unfold lput at h
    split at h
    · rename_i h0
      simp only [Option.map_eq_some_iff] at h
      obtain ⟨t, ht, rfl⟩ := h
      have := Chain.guess_bd hc
      unfold lget
      rw [show x - c.guess + c.guess = x from by omega, if_pos ⟨by omega, h0⟩, lget_lput xs _ t (Chain.learn_ok hc h0) ht]
      rfl
    · cases h
end Dsc
end
section
namespace Dsc

def byteOf (x : Int) : UInt8 := UInt8.ofNat (x % 256).toNat
def byteAt (s : List UInt8) (i : Nat) : Int := ((s.getD i 0).toNat : Int)
theorem byteAt_bd (s : List UInt8) (i : Nat) : 0 ≤ byteAt s i ∧ byteAt s i ≤ 255 := by
  unfold byteAt
  have := (s.getD i 0).toNat_lt
  omega
theorem byteOf_val (x : Int) : ((byteOf x).toNat : Int) = x % 256 := by
  unfold byteOf
  have h0 := Int.emod_nonneg x (b := 256) (by decide)
  have h1 := Int.emod_lt_of_pos x (b := 256) (by decide)
  rw [UInt8.toNat_ofNat']
  omega

def mid (l h p : Int) : Int := l + (h - l) / 4096 * p + (h - l) % 4096 * p / 4096
def up (x b : Int) : Int := x % 16777216 * 256 + b
def Ends (l h : Int) : Prop := 0 ≤ l ∧ h ≤ 4294967295 ∧ l / 16777216 < h / 16777216

theorem mid_bd {l h p : Int} (hlh : l < h) (h1 : 1 ≤ p) (h2 : p ≤ 4095) : l ≤ mid l h p ∧ mid l h p < h := by
  unfold mid
  have ha : 0 ≤ (h - l) / 4096 := by omega
  have hb : 0 ≤ (h - l) % 4096 ∧ (h - l) % 4096 < 4096 := by omega
  generalize hq : (h - l) / 4096 = q at *
  generalize ht : (h - l) % 4096 = t at *
  have hr : h - l = 4096 * q + t := by omega
  have e1 : 0 ≤ q * p := Int.mul_nonneg ha (by omega)
  have e2 : 0 ≤ t * p := Int.mul_nonneg hb.1 (by omega)
  have e3 : q * p ≤ q * 4095 := Int.mul_le_mul_of_nonneg_left h2 ha
  have e4 : t * p ≤ t * 4095 := Int.mul_le_mul_of_nonneg_left h2 hb.1
  constructor
  · have : 0 ≤ t * p / 4096 := by omega
    omega
  · have : t * p / 4096 ≤ t * 4095 / 4096 := Int.ediv_le_ediv (by decide) e4
    omega

/-- Out as long as the highest bytes are the same. -/
def normC : Nat → Int → Int → List UInt8 → Int × Int × List UInt8
  | 0, l, h, o => (l, h, o)
  | k + 1, l, h, o => if l / 16777216 = h / 16777216 then normC k (up l 0) (up h 255) (o ++ [byteOf (l / 16777216)]) else (l, h, o)

structure Coder where
  low : Int
  high : Int
  out : List UInt8

def Coder.Ok (c : Coder) : Prop := Ends c.low c.high
def newC : Coder := ⟨0, 4294967295, []⟩
def narrow (l h b p : Int) : Int × Int := if b = 1 then (l, mid l h p) else (mid l h p + 1, h)
def bitC (c : Coder) (b p : Int) : Coder :=
  ⟨(normC 5 (narrow c.low c.high b p).1 (narrow c.low c.high b p).2 c.out).1, (normC 5 (narrow c.low c.high b p).1 (narrow c.low c.high b p).2 c.out).2.1, (normC 5 (narrow c.low c.high b p).1 (narrow c.low c.high b p).2 c.out).2.2⟩
def endC (c : Coder) : List UInt8 := c.out ++ [byteOf (c.low / 16777216), byteOf (c.low / 65536), byteOf (c.low / 256), byteOf c.low]

/-- How far a pair is from the end: after k rounds the k lowest bytes of both are 0 and 255. -/
def Deep (j : Nat) (l h : Int) : Prop := 0 ≤ l ∧ l ≤ h ∧ h ≤ 4294967295 ∧ l % 256 ^ j = 0 ∧ h % 256 ^ j = 256 ^ j - 1

theorem deep_up {j : Nat} {l h : Int} (hj : j ≤ 3) (hd : Deep j l h) (he : l / 16777216 = h / 16777216) : Deep (j + 1) (up l 0) (up h 255) := by
  obtain ⟨h0, h1, h2, h3, h4⟩ := hd
  unfold up Deep
  match j, hj with
  | 0, _ => simp at *; omega
  | 1, _ => simp at *; omega
  | 2, _ => simp at *; omega
  | 3, _ => simp at *; omega

theorem deep_end {l h : Int} (hd : Deep 4 l h) : ¬ l / 16777216 = h / 16777216 := by
  obtain ⟨h0, h1, h2, h3, h4⟩ := hd
  simp at *
  omega

/-- What normC comes to: the ends are a coder's, at most four bytes more. -/
theorem normC_ok : ∀ (k j : Nat) (l h : Int) (o : List UInt8), Deep j l h → 4 < k + j → j ≤ 4 →
    Ends (normC k l h o).1 (normC k l h o).2.1 ∧ (normC k l h o).2.2.length ≤ o.length + (4 - j) ∧ o <+: (normC k l h o).2.2
  | 0, j, l, h, o, hd, hk, hj => by omega
  | k + 1, j, l, h, o, hd, hk, hj => by
    unfold normC
    by_cases he : l / 16777216 = h / 16777216
    · have h3 : j ≤ 3 := by
        rcases Nat.lt_or_ge j 4 with h | h
        · omega
        · obtain rfl : j = 4 := by omega
          exact absurd he (deep_end hd)
      have ih := normC_ok k (j + 1) _ _ (o ++ [byteOf (l / 16777216)]) (deep_up h3 hd he) (by omega) (by omega)
      rw [if_pos he]
      refine ⟨ih.1, ?_, List.IsPrefix.trans (List.prefix_append _ _) ih.2.2⟩
      have := ih.2.1
      simp at this ⊢
      omega
    · rw [if_neg he]
      obtain ⟨h0, h1, h2, _⟩ := hd
      exact ⟨⟨h0, h2, by simp only []; omega⟩, by simp, List.prefix_refl _⟩

theorem ends_lt {l h : Int} (he : Ends l h) : l < h := by obtain ⟨_, _, _⟩ := he; omega
theorem narrow_deep {l h b p : Int} (he : Ends l h) (h1 : 1 ≤ p) (h2 : p ≤ 4095) : Deep 0 (narrow l h b p).1 (narrow l h b p).2 := by
  have hm := mid_bd (ends_lt he) h1 h2
  obtain ⟨a, b', c⟩ := he
  unfold narrow Deep
  split <;> simp <;> omega

theorem bitC_ok {c : Coder} {b p : Int} (hc : c.Ok) (h1 : 1 ≤ p) (h2 : p ≤ 4095) :
    (bitC c b p).Ok ∧ (bitC c b p).out.length ≤ c.out.length + 4 ∧ c.out <+: (bitC c b p).out := by
  have := normC_ok 5 0 _ _ c.out (narrow_deep (b := b) hc h1 h2) (by omega) (by omega)
  exact this

/-- Four bytes of a text from a place on. -/
def four (s : List UInt8) (i : Nat) : Int := ((byteAt s i * 256 + byteAt s (i + 1)) * 256 + byteAt s (i + 2)) * 256 + byteAt s (i + 3)
theorem four_bd (s : List UInt8) (i : Nat) : 0 ≤ four s i ∧ four s i ≤ 4294967295 := by
  unfold four
  have := byteAt_bd s i; have := byteAt_bd s (i + 1); have := byteAt_bd s (i + 2); have := byteAt_bd s (i + 3)
  omega
theorem four_up (s : List UInt8) (i : Nat) : four s (i + 1) = up (four s i) (byteAt s (i + 4)) := by
  unfold four up
  have := byteAt_bd s i; have := byteAt_bd s (i + 1); have := byteAt_bd s (i + 2); have := byteAt_bd s (i + 3); have := byteAt_bd s (i + 4)
  rw [show i + 1 + 1 = i + 2 from rfl, show i + 1 + 2 = i + 3 from rfl, show i + 1 + 3 = i + 4 from rfl]
  omega
theorem four_top (s : List UInt8) (i : Nat) : four s i / 16777216 = byteAt s i := by
  unfold four
  have := byteAt_bd s i; have := byteAt_bd s (i + 1); have := byteAt_bd s (i + 2); have := byteAt_bd s (i + 3)
  omega

/-- A text that goes on from what is told, and lies between the ends there. -/
def Fits (F : List UInt8) (l h : Int) (o : List UInt8) : Prop := o <+: F ∧ l ≤ four F o.length ∧ four F o.length ≤ h

/-- The decoder: its ends, its number, how many bytes it took. -/
def normD (F : List UInt8) : Nat → Int → Int → Int → Nat → Int × Int × Int × Nat
  | 0, l, h, x, i => (l, h, x, i)
  | k + 1, l, h, x, i => if l / 16777216 = h / 16777216 then normD F k (up l 0) (up h 255) (up x (byteAt F i)) (i + 1) else (l, h, x, i)

structure Dec where
  low : Int
  high : Int
  now : Int
  pos : Nat

def newD (F : List UInt8) : Dec := ⟨0, 4294967295, four F 0, 4⟩
def bitD (F : List UInt8) (d : Dec) (p : Int) : Dec × Int :=
  let b : Int := if d.now ≤ mid d.low d.high p then 1 else 0
  let r := normD F 5 (narrow d.low d.high b p).1 (narrow d.low d.high b p).2 d.now d.pos
  (⟨r.1, r.2.1, r.2.2.1, r.2.2.2⟩, b)
def Dec.Ok (d : Dec) : Prop := Ends d.low d.high ∧ d.low ≤ d.now ∧ d.now ≤ d.high

theorem up_top {l x h : Int} (h1 : l ≤ x) (h2 : x ≤ h) (he : l / 16777216 = h / 16777216) {b : Int} (hb : 0 ≤ b ∧ b ≤ 255) :
    up l 0 ≤ up x b ∧ up x b ≤ up h 255 := by unfold up; omega

theorem normD_ok (F : List UInt8) : ∀ (k j : Nat) (l h x : Int) (i : Nat), Deep j l h → 4 < k + j → j ≤ 4 → l ≤ x → x ≤ h →
    Ends (normD F k l h x i).1 (normD F k l h x i).2.1 ∧ (normD F k l h x i).1 ≤ (normD F k l h x i).2.2.1 ∧ (normD F k l h x i).2.2.1 ≤ (normD F k l h x i).2.1 ∧
      i ≤ (normD F k l h x i).2.2.2 ∧ (normD F k l h x i).2.2.2 ≤ i + (4 - j)
  | 0, j, l, h, x, i, hd, hk, hj, _, _ => by omega
  | k + 1, j, l, h, x, i, hd, hk, hj, h1, h2 => by
    unfold normD
    by_cases he : l / 16777216 = h / 16777216
    · have h3 : j ≤ 3 := by
        rcases Nat.lt_or_ge j 4 with h | h
        · omega
        · obtain rfl : j = 4 := by omega
          exact absurd he (deep_end hd)
      have hu := up_top h1 h2 he (byteAt_bd F i)
      have ih := normD_ok F k (j + 1) _ _ (up x (byteAt F i)) (i + 1) (deep_up h3 hd he) (by omega) (by omega) hu.1 hu.2
      rw [if_pos he]
      exact ⟨ih.1, ih.2.1, ih.2.2.1, by have := ih.2.2.2.1; omega, by have := ih.2.2.2.2; omega⟩
    · rw [if_neg he]
      obtain ⟨h0, h1', h2', _⟩ := hd
      exact ⟨⟨h0, h2', by simp only []; omega⟩, h1, h2, by simp, by simp⟩

theorem bitD_ok (F : List UInt8) {d : Dec} {p : Int} (hd : d.Ok) (h1 : 1 ≤ p) (h2 : p ≤ 4095) :
    (bitD F d p).1.Ok ∧ d.pos ≤ (bitD F d p).1.pos ∧ (bitD F d p).1.pos ≤ d.pos + 4 ∧ ((bitD F d p).2 = 0 ∨ (bitD F d p).2 = 1) := by
  have hn := narrow_deep (b := if d.now ≤ mid d.low d.high p then 1 else 0) hd.1 h1 h2
  have hb : (narrow d.low d.high (if d.now ≤ mid d.low d.high p then 1 else 0) p).1 ≤ d.now ∧ d.now ≤ (narrow d.low d.high (if d.now ≤ mid d.low d.high p then 1 else 0) p).2 := by
    obtain ⟨_, ha, hb⟩ := hd
    unfold narrow
    by_cases h : d.now ≤ mid d.low d.high p
    · simp [h]; omega
    · simp [h]; omega
  have := normD_ok F 5 0 _ _ d.now d.pos hn (by omega) (by omega) hb.1 hb.2
  refine ⟨⟨this.1, this.2.1, this.2.2.1⟩, this.2.2.2.1, this.2.2.2.2, ?_⟩
  unfold bitD
  simp only []
  split
  · exact .inr rfl
  · exact .inl rfl

/-- The two go on alike. -/
theorem norm_alike (F : List UInt8) : ∀ (k : Nat) (l h : Int) (o : List UInt8), 0 ≤ l → l ≤ h → h ≤ 4294967295 →
    Fits F (normC k l h o).1 (normC k l h o).2.1 (normC k l h o).2.2 →
    Fits F l h o ∧ normD F k l h (four F o.length) (o.length + 4) = ((normC k l h o).1, (normC k l h o).2.1, four F (normC k l h o).2.2.length, (normC k l h o).2.2.length + 4)
  | 0, l, h, o, _, _, _, hf => ⟨hf, rfl⟩
  | k + 1, l, h, o, h0, h1, h2, hf => by
    unfold normC at hf ⊢
    unfold normD
    by_cases he : l / 16777216 = h / 16777216
    · rw [if_pos he] at hf
      have ih := norm_alike F k (up l 0) (up h 255) (o ++ [byteOf (l / 16777216)]) (by unfold up; omega) (by unfold up; omega) (by unfold up; omega) hf
      obtain ⟨⟨hp, ha, hb⟩, ih2⟩ := ih
      have hlen : (o ++ [byteOf (l / 16777216)]).length = o.length + 1 := by simp
      rw [hlen] at ha hb ih2
      have hbyte : byteAt F o.length = l / 16777216 := by
        obtain ⟨t, rfl⟩ := hp
        unfold byteAt
        simp only [List.append_assoc, List.getD_eq_getElem?_getD, List.getElem?_append_right (Nat.le_refl _), Nat.sub_self, List.cons_append, List.getElem?_cons_zero, Option.getD_some, byteOf_val]
        omega
      rw [four_up] at ha hb ih2
      have ht := four_top F o.length
      have hf0 := four_bd F o.length
      have hby := byteAt_bd F (o.length + 4)
      refine ⟨⟨List.IsPrefix.trans (List.prefix_append _ _) hp, ?_, ?_⟩, ?_⟩
      · unfold up at ha; omega
      · unfold up at hb; omega
      · rw [if_pos he, if_pos he, show o.length + 4 + 1 = o.length + 1 + 4 from by omega, ih2]
    · rw [if_neg he] at hf
      refine ⟨hf, ?_⟩
      rw [if_neg he, if_neg he]

/-- The decoder that stands where a coder stands. -/
def seen (F : List UInt8) (c : Coder) : Dec := ⟨c.low, c.high, four F c.out.length, c.out.length + 4⟩
def FitsC (F : List UInt8) (c : Coder) : Prop := Fits F c.low c.high c.out

theorem bit_alike {F : List UInt8} {c : Coder} {b p : Int} (hc : c.Ok) (hb : b = 0 ∨ b = 1) (h1 : 1 ≤ p) (h2 : p ≤ 4095) (hf : FitsC F (bitC c b p)) :
    FitsC F c ∧ bitD F (seen F c) p = (seen F (bitC c b p), b) := by
  have hm := mid_bd (ends_lt hc) h1 h2
  obtain ⟨e0, e1, e2⟩ := narrow_deep (b := b) hc h1 h2
  have := norm_alike F 5 _ _ c.out e0 e1 e2.1 hf
  obtain ⟨⟨g0, g1, g2⟩, g3⟩ := this
  have hbit : (if four F c.out.length ≤ mid c.low c.high p then (1 : Int) else 0) = b := by
    rcases hb with rfl | rfl
    · simp [narrow] at g1; simp; omega
    · simp [narrow] at g2; simp; omega
  refine ⟨⟨g0, ?_, ?_⟩, ?_⟩
  · rcases hb with rfl | rfl <;> simp [narrow] at g1 <;> omega
  · rcases hb with rfl | rfl <;> simp [narrow] at g2 <;> omega
  · unfold bitD seen
    simp only [hbit, g3]
    rfl

theorem fits_end {c : Coder} (hc : c.Ok) : FitsC (endC c) c := by
  have hv : four (endC c) c.out.length = c.low := by
    unfold four byteAt endC
    obtain ⟨h0, h1, h2⟩ := hc
    simp only [List.getD_eq_getElem?_getD]
    rw [List.getElem?_append_right (by omega), List.getElem?_append_right (by omega), List.getElem?_append_right (by omega), List.getElem?_append_right (by omega)]
    rw [show c.out.length - c.out.length = 0 from by omega, show c.out.length + 1 - c.out.length = 1 from by omega, show c.out.length + 2 - c.out.length = 2 from by omega, show c.out.length + 3 - c.out.length = 3 from by omega]
    simp only [List.getElem?_cons_zero, List.getElem?_cons_succ, Option.getD_some, byteOf_val]
    omega
  refine ⟨List.prefix_append _ _, ?_, ?_⟩
  · rw [hv]; exact Int.le_refl _
  · rw [hv]; have := ends_lt hc; omega

theorem seen_new (F : List UInt8) : seen F newC = newD F := rfl
theorem newC_ok : newC.Ok := by refine ⟨?_, ?_, ?_⟩ <;> decide
theorem newD_ok (F : List UInt8) : (newD F).Ok := ⟨newC_ok, (four_bd F 0).1, (four_bd F 0).2⟩
end Dsc
end
section
namespace Dsc

/-! gamma -/
/-- How many bits 1 some begin with. -/
def ones : List Int → Nat
  | [] => 0
  | b :: bs => if b = 1 then ones bs + 1 else 0
/-- Is a 0 behind them? -/
def zeroed : List Int → Bool
  | [] => false
  | b :: bs => if b = 1 then zeroed bs else decide (b = 0)
def whole (bs : List Int) : Bool := zeroed bs && decide (bs.length = 2 * ones bs + 1)
/-- The lowest n bits of a number, the highest first. -/
def lows (v : Int) : Nat → List Int
  | 0 => []
  | n + 1 => v / 2 ^ n % 2 :: lows v n
/-- How many bits are behind the highest one. -/
def width (v : Int) : Nat := v.toNat.log2
def gbits (u : Int) : List Int := List.replicate (width (u + 1)) 1 ++ 0 :: lows (u + 1) (width (u + 1))

theorem ones_rep (n : Nat) (t : List Int) : ones (List.replicate n 1 ++ 0 :: t) = n := by
  induction n with
  | zero => simp [ones]
  | succ n ih => simp [List.replicate_succ, ones, ih]
theorem zeroed_rep (n : Nat) (t : List Int) : zeroed (List.replicate n 1 ++ 0 :: t) = true := by
  induction n with
  | zero => simp [zeroed]
  | succ n ih => simp [List.replicate_succ, zeroed, ih]
theorem ones_all (n : Nat) : ones (List.replicate n 1) = n := by
  induction n with
  | zero => simp [ones]
  | succ n ih => simp [List.replicate_succ, ones, ih]
theorem zeroed_all (n : Nat) : zeroed (List.replicate n 1) = false := by
  induction n with
  | zero => simp [zeroed]
  | succ n ih => simp [List.replicate_succ, zeroed, ih]
theorem lows_length (v : Int) (n : Nat) : (lows v n).length = n := by
  induction n with
  | zero => rfl
  | succ n ih => simp [lows, ih]
theorem lows_bit (v : Int) (n : Nat) : ∀ b ∈ lows v n, b = 0 ∨ b = 1 := by
  induction n with
  | zero => simp [lows]
  | succ n ih =>
    intro b hb
    simp only [lows, List.mem_cons] at hb
    rcases hb with rfl | hb
    · omega
    · exact ih b hb
theorem gbits_bit (u : Int) : ∀ b ∈ gbits u, b = 0 ∨ b = 1 := by
  intro b hb
  simp only [gbits, List.mem_append, List.mem_replicate, List.mem_cons] at hb
  rcases hb with ⟨_, rfl⟩ | rfl | hb
  · exact .inr rfl
  · exact .inl rfl
  · exact lows_bit _ _ _ hb
theorem gbits_length (u : Int) : (gbits u).length = 2 * width (u + 1) + 1 := by
  simp [gbits, lows_length]; omega
theorem ones_gbits (u : Int) : ones (gbits u) = width (u + 1) := ones_rep _ _
theorem whole_gbits (u : Int) : whole (gbits u) = true := by
  unfold whole
  rw [ones_gbits, gbits_length]
  simp [gbits, zeroed_rep]

theorem width_le {v : Int} {k : Nat} (h : v < 2 ^ k) (hk : 0 < k) : width v < k := by
  unfold width
  rcases Int.lt_or_le v 1 with hv | hv
  · have : v.toNat = 0 := by omega
    rw [this]; simpa using hk
  · have h1 : v.toNat < 2 ^ k := by
      have : ((v.toNat : Nat) : Int) < ((2 ^ k : Nat) : Int) := by
        rw [Int.toNat_of_nonneg (by omega)]
        simpa using h
      exact_mod_cast this
    exact (Nat.log2_lt (by omega)).2 h1
theorem width_pow {v : Int} (h : 1 ≤ v) : (2 : Int) ^ width v ≤ v ∧ v < 2 ^ (width v + 1) := by
  unfold width
  have h0 : v.toNat ≠ 0 := by omega
  have h1 := Nat.log2_self_le h0
  have h2 := Nat.lt_log2_self (n := v.toNat)
  constructor
  · have : ((2 ^ v.toNat.log2 : Nat) : Int) ≤ ((v.toNat : Nat) : Int) := by exact_mod_cast h1
    rw [Int.toNat_of_nonneg (by omega)] at this
    simpa using this
  · have : ((v.toNat : Nat) : Int) < ((2 ^ (v.toNat.log2 + 1) : Nat) : Int) := by exact_mod_cast h2
    rw [Int.toNat_of_nonneg (by omega)] at this
    simpa using this

/-- The number whose bits these are. -/
def value (acc : Int) (bs : List Int) : Int := bs.foldl (fun v b => v * 2 + b % 2) acc
theorem emod_two (v q : Int) (hq : 0 < q) : v % (q * 2) = v % q + q * (v / q % 2) := by
  have e : v = (v % q + q * (v / q % 2)) + (q * 2) * (v / q / 2) := by
    have h1 := Int.emod_add_mul_ediv v q
    have h2 := Int.emod_add_mul_ediv (v / q) 2
    calc v = v % q + q * (v / q) := h1.symm
      _ = v % q + q * (v / q % 2 + 2 * (v / q / 2)) := by rw [h2]
      _ = _ := by rw [Int.mul_add, Int.mul_assoc, Int.add_assoc]
  have h0 := Int.emod_nonneg v (b := q) (by omega)
  have h1 := Int.emod_lt_of_pos v hq
  have h3 : v / q % 2 = 0 ∨ v / q % 2 = 1 := by omega
  conv => lhs; rw [e]
  rw [Int.add_mul_emod_self_left]
  apply Int.emod_eq_of_lt
  · rcases h3 with h | h <;> rw [h] <;> omega
  · rcases h3 with h | h <;> rw [h] <;> omega
theorem value_lows (v : Int) (n : Nat) : ∀ acc, value acc (lows v n) = acc * 2 ^ n + v % 2 ^ n := by
  induction n with
  | zero => intro acc; simp [lows, value]
  | succ n ih =>
    intro acc
    have := ih (acc * 2 + v / 2 ^ n % 2 % 2)
    simp only [lows, value, List.foldl_cons] at this ⊢
    rw [this, Int.pow_succ]
    have hp : (0 : Int) < 2 ^ n := Int.pow_pos (by decide)
    rw [emod_two v _ hp]
    generalize (2 : Int) ^ n = q at *
    rw [show (v / q % 2 % 2) = v / q % 2 from by omega]
    have e3 : (acc * 2 + v / q % 2) * q = acc * (q * 2) + q * (v / q % 2) := by
      rw [Int.add_mul, Int.mul_assoc, Int.mul_comm 2 q, Int.mul_comm (v / q % 2) q]
    omega

/-- What Number comes to, before it looks whether the bits are told so: -1 where the form is wrong. -/
def gnum (bs : List Int) : Option Int :=
  if 25 < ones bs ∨ whole bs = false then none
  else if 33554432 < value 1 (bs.drop (ones bs + 1)) - 1 ∨ gbits (value 1 (bs.drop (ones bs + 1)) - 1) ≠ bs then none
  else some (value 1 (bs.drop (ones bs + 1)) - 1)

theorem value_gbits {u : Int} (h : 0 ≤ u) : value 1 ((gbits u).drop (width (u + 1) + 1)) = u + 1 := by
  have : (gbits u).drop (width (u + 1) + 1) = lows (u + 1) (width (u + 1)) := by
    unfold gbits
    rw [List.drop_append]
    simp
  rw [this, value_lows]
  have hw := width_pow (v := u + 1) (by omega)
  rw [Int.pow_succ] at hw
  have hp : (0 : Int) < 2 ^ width (u + 1) := Int.pow_pos (by decide)
  generalize (2 : Int) ^ width (u + 1) = q at *
  have : (u + 1) % q = u + 1 - q := by
    rw [← Int.sub_emod_right]
    exact Int.emod_eq_of_lt (by omega) (by omega)
  omega

theorem gnum_gbits {u : Int} (h0 : 0 ≤ u) (h1 : u ≤ 33554432) : gnum (gbits u) = some u := by
  unfold gnum
  have hw : width (u + 1) < 26 := width_le (by show u + 1 < 67108864; omega) (by omega)
  rw [ones_gbits, whole_gbits, value_gbits h0]
  rw [if_neg (by simp; omega), if_neg (by simp; omega)]
  simp

/-! fold -/
def fput (x : Int) : Int := if x < 0 then -2 * x - 1 else 2 * x
def fget (u : Int) : Int := if u % 2 = 1 then -(u / 2) - 1 else u / 2
theorem fget_fput (x : Int) : fget (fput x) = x := by unfold fget fput; split <;> split <;> omega
theorem fput_bd {x : Int} (h0 : -16777216 ≤ x) (h1 : x ≤ 16777216) : 0 ≤ fput x ∧ fput x ≤ 33554432 := by unfold fput; split <;> omega

/-! A number's bits behind each other: no head of them is whole -/
theorem ones_take (n k : Nat) (t : List Int) : ones ((List.replicate n 1 ++ 0 :: t).take k) = min n k := by
  rw [List.take_append]
  rcases Nat.lt_or_ge k (n + 1) with h | h
  · have : (0 :: t).take (k - (List.replicate n (1 : Int)).length) = [] := by simp; omega
    rw [this, List.append_nil, List.take_replicate, Nat.min_comm, ones_all]
  · obtain ⟨m, rfl⟩ : ∃ m, k = n + 1 + m := ⟨k - (n + 1), by omega⟩
    rw [List.take_of_length_le (by simp; omega)]
    have : (0 :: t).take (n + 1 + m - (List.replicate n (1 : Int)).length) = 0 :: t.take m := by
      simp only [List.length_replicate]
      rw [show n + 1 + m - n = m + 1 from by omega, List.take_succ_cons]
    rw [this, ones_rep]
    omega
theorem zeroed_take (n k : Nat) (t : List Int) : zeroed ((List.replicate n 1 ++ 0 :: t).take k) = decide (n < k) := by
  rw [List.take_append]
  rcases Nat.lt_or_ge k (n + 1) with h | h
  · have : (0 :: t).take (k - (List.replicate n (1 : Int)).length) = [] := by simp; omega
    rw [this, List.append_nil, List.take_replicate, zeroed_all]
    simp; omega
  · obtain ⟨m, rfl⟩ : ∃ m, k = n + 1 + m := ⟨k - (n + 1), by omega⟩
    rw [List.take_of_length_le (by simp; omega)]
    have : (0 :: t).take (n + 1 + m - (List.replicate n (1 : Int)).length) = 0 :: t.take m := by
      simp only [List.length_replicate]
      rw [show n + 1 + m - n = m + 1 from by omega, List.take_succ_cons]
    rw [this, zeroed_rep]
    simp; omega
/-- Ahead of a number's end the reader goes on. -/
theorem goes_on {u : Int} {k : Nat} (hk : k < (gbits u).length) (hw : width (u + 1) ≤ 25) :
    whole ((gbits u).take k) = false ∧ (zeroed ((gbits u).take k) = true ∨ ones ((gbits u).take k) ≤ 25) := by
  rw [gbits_length] at hk
  unfold whole gbits
  rw [ones_take, zeroed_take, List.length_take]
  simp only [List.length_append, List.length_replicate, List.length_cons, lows_length]
  constructor
  · rcases Nat.lt_or_ge (width (u + 1)) k with h | h
    · simp; omega
    · simp; omega
  · exact .inr (by omega)

theorem width_fput {x : Int} (h0 : -16777216 ≤ x) (h1 : x ≤ 16777216) : width (fput x + 1) ≤ 25 := by
  have := fput_bd h0 h1
  have : width (fput x + 1) < 26 := width_le (by show fput x + 1 < 67108864; omega) (by omega)
  omega

/-! residual: the state is a model; what the number ahead began with; the bits so far -/
section
variable {M : Type} (chance : M → Int → List Int → Int) (learn : M → Int → List Int → Int → M)

def putBits (before : Int) : Coder → M → List Int → List Int → Coder × M
  | c, m, _, [] => (c, m)
  | c, m, done, b :: bs => putBits before (bitC c b (chance m before done)) (learn m before done b) (done ++ [b]) bs
def putAll : Coder → M → Int → List Int → Coder
  | c, _, _, [] => c
  | c, m, before, x :: xs =>
    putAll (putBits chance learn before c m [] (gbits (fput x))).1 (putBits chance learn before c m [] (gbits (fput x))).2 (ones (gbits (fput x))) xs
/-- A number's bits, one by one; the fuel is past what may be. -/
def getBits (F : List UInt8) (before : Int) : Nat → Dec → M → List Int → Option (Dec × M × List Int)
  | 0, _, _, _ => none
  | k + 1, d, m, bs =>
    if whole bs = true then some (d, m, bs)
    else if zeroed bs = false ∧ 25 < ones bs then none
    else getBits F before k (bitD F d (chance m before bs)).1 (learn m before bs (bitD F d (chance m before bs)).2) (bs ++ [(bitD F d (chance m before bs)).2])
def getAll (F : List UInt8) : Nat → Dec → M → Int → Option (List Int)
  | 0, _, _, _ => some []
  | k + 1, d, m, before =>
    match getBits chance learn F before 60 d m [] with
    | none => none
    | some (d', m', bs) =>
      match gnum bs with
      | none => none
      | some u => (getAll F k d' m' (ones bs)).map (fget u :: ·)

/-- What a model is, for which all chances may be. -/
structure Fair (I : M → Prop) (B : Int → Prop) : Prop where
  chance : ∀ m before bs, I m → B before → bs.length ≤ 60 → (∀ b ∈ bs, b = 0 ∨ b = 1) → 1 ≤ chance m before bs ∧ chance m before bs ≤ 4095
  learn : ∀ m before bs b, I m → B before → bs.length ≤ 60 → (∀ b ∈ bs, b = 0 ∨ b = 1) → (b = 0 ∨ b = 1) → I (learn m before bs b)
  ones : ∀ n : Nat, n ≤ 25 → B n

variable {I : M → Prop} {B : Int → Prop} (fair : Fair chance learn I B)
include fair

theorem putBits_ok {before : Int} (hB : B before) : ∀ (bs done : List Int) (c : Coder) (m : M), c.Ok → I m → (∀ b ∈ done ++ bs, b = 0 ∨ b = 1) → done.length + bs.length ≤ 60 →
    (putBits chance learn before c m done bs).1.Ok ∧ I (putBits chance learn before c m done bs).2 ∧
      (putBits chance learn before c m done bs).1.out.length ≤ c.out.length + 4 * bs.length ∧ c.out <+: (putBits chance learn before c m done bs).1.out
  | [], done, c, m, hc, hm, _, _ => ⟨hc, hm, by simp [putBits], List.prefix_refl _⟩
  | b :: bs, done, c, m, hc, hm, hb, hl => by
    have hdone : ∀ x ∈ done, x = 0 ∨ x = 1 := fun x hx => hb x (by simp [hx])
    have hp := fair.chance m before done hm hB (by simp at hl; omega) hdone
    have h1 := bitC_ok (b := b) hc hp.1 hp.2
    have hm' := fair.learn m before done b hm hB (by simp at hl; omega) hdone (hb b (by simp))
    have ih := putBits_ok hB bs (done ++ [b]) (bitC c b (chance m before done)) (learn m before done b) h1.1 hm' (by simpa using hb) (by simp at hl ⊢; omega)
    unfold putBits
    refine ⟨ih.1, ih.2.1, ?_, List.IsPrefix.trans h1.2.2 ih.2.2.2⟩
    have := ih.2.2.1
    have := h1.2.1
    simp only [List.length_cons]
    omega

theorem putAll_ok : ∀ (xs : List Int) (c : Coder) (m : M) (before : Int), c.Ok → I m → B before → (∀ x ∈ xs, -16777216 ≤ x ∧ x ≤ 16777216) →
    (putAll chance learn c m before xs).Ok ∧ (putAll chance learn c m before xs).out.length ≤ c.out.length + 204 * xs.length ∧ c.out <+: (putAll chance learn c m before xs).out
  | [], c, m, before, hc, _, _, _ => ⟨hc, by simp [putAll], List.prefix_refl _⟩
  | x :: xs, c, m, before, hc, hm, hB, hx => by
    have hx0 := hx x (by simp)
    have hw := width_fput hx0.1 hx0.2
    have hl := gbits_length (fput x)
    have h1 := putBits_ok chance learn fair hB (gbits (fput x)) [] c m hc hm (by simpa using gbits_bit _) (by simp; omega)
    have ih := putAll_ok xs _ _ (ones (gbits (fput x))) h1.1 h1.2.1 (fair.ones _ (by rw [ones_gbits]; exact hw)) (fun y hy => hx y (by simp [hy]))
    unfold putAll
    refine ⟨ih.1, ?_, List.IsPrefix.trans h1.2.2.2 ih.2.2⟩
    have := ih.2.1
    have := h1.2.2.1
    simp only [List.length_cons]
    omega

theorem bits_alike {F : List UInt8} {u before : Int} (hw : width (u + 1) ≤ 25) (hB : B before) : ∀ (bs done : List Int) (c : Coder) (m : M), done ++ bs = gbits u → c.Ok → I m →
    FitsC F (putBits chance learn before c m done bs).1 → ∀ k, bs.length < k →
    FitsC F c ∧ getBits chance learn F before k (seen F c) m done = some (seen F (putBits chance learn before c m done bs).1, (putBits chance learn before c m done bs).2, gbits u)
  | [], done, c, m, hd, hc, hm, hf, k, hk => by
    obtain ⟨k, rfl⟩ : ∃ j, k = j + 1 := ⟨k - 1, by omega⟩
    simp only [List.append_nil] at hd
    subst hd
    refine ⟨hf, ?_⟩
    unfold getBits
    rw [if_pos (whole_gbits u)]
    rfl
  | b :: bs, done, c, m, hd, hc, hm, hf, k, hk => by
    obtain ⟨k, rfl⟩ : ∃ j, k = j + 1 := ⟨k - 1, by simp at hk; omega⟩
    have hlen : done.length + (bs.length + 1) = (gbits u).length := by rw [← hd]; simp
    have hl := gbits_length u
    have hall : ∀ x ∈ done ++ b :: bs, x = 0 ∨ x = 1 := by rw [hd]; exact gbits_bit u
    have hdone : ∀ x ∈ done, x = 0 ∨ x = 1 := fun x hx => hall x (by simp [hx])
    have hp := fair.chance m before done hm hB (by omega) hdone
    have hb : b = 0 ∨ b = 1 := hall b (by simp)
    have hm' := fair.learn m before done b hm hB (by omega) hdone hb
    have ih := bits_alike hw hB bs (done ++ [b]) (bitC c b (chance m before done)) (learn m before done b) (by rw [← hd]; simp) (bitC_ok hc hp.1 hp.2).1 hm' hf k (by simp at hk; omega)
    have ha := bit_alike hc hb hp.1 hp.2 ih.1
    have htake : (gbits u).take done.length = done := by rw [← hd]; simp
    have hg := goes_on (u := u) (k := done.length) (by omega) hw
    rw [htake] at hg
    refine ⟨ha.1, ?_⟩
    unfold getBits
    rw [if_neg (by simp [hg.1]), if_neg (by rintro ⟨h1, h2⟩; rcases hg.2 with h | h; · simp [h] at h1
                                            · omega)]
    rw [ha.2]
    exact ih.2

theorem all_alike {F : List UInt8} : ∀ (xs : List Int) (c : Coder) (m : M) (before : Int), c.Ok → I m → B before → (∀ x ∈ xs, -16777216 ≤ x ∧ x ≤ 16777216) →
    FitsC F (putAll chance learn c m before xs) → FitsC F c ∧ getAll chance learn F xs.length (seen F c) m before = some xs
  | [], c, m, before, _, _, _, _, hf => ⟨hf, rfl⟩
  | x :: xs, c, m, before, hc, hm, hB, hx, hf => by
    have hx0 := hx x (by simp)
    have hw := width_fput hx0.1 hx0.2
    have hl := gbits_length (fput x)
    have h1 := putBits_ok chance learn fair hB (gbits (fput x)) [] c m hc hm (by simpa using gbits_bit _) (by simp; omega)
    have ih := all_alike xs _ _ (ones (gbits (fput x))) h1.1 h1.2.1 (fair.ones _ (by rw [ones_gbits]; exact hw)) (fun y hy => hx y (by simp [hy])) hf
    have hb := bits_alike chance learn fair hw hB (gbits (fput x)) [] c m rfl hc hm ih.1 60 (by omega)
    refine ⟨hb.1, ?_⟩
    have hu := fput_bd hx0.1 hx0.2
    simp only [List.length_cons, getAll, hb.2, gnum_gbits hu.1 hu.2, fget_fput, ih.2, Option.map_some]

theorem resid_back (m : M) (hm : I m) (xs : List Int) (hx : ∀ x ∈ xs, -16777216 ≤ x ∧ x ≤ 16777216) :
    getAll chance learn (endC (putAll chance learn newC m 0 xs)) xs.length (newD (endC (putAll chance learn newC m 0 xs))) m 0 = some xs := by
  have h := putAll_ok chance learn fair xs newC m 0 newC_ok hm (fair.ones 0 (by omega)) hx
  exact (all_alike chance learn fair xs newC m 0 newC_ok hm (fair.ones 0 (by omega)) hx (fits_end h.1)).2
end
end Dsc
end
section
/- The model of a bit's chance, in plain Lean. -/
set_option linter.unusedVariables false
namespace Dsc

def sqTab : List Int := [1, 2, 3, 6, 10, 16, 27, 45, 73, 120, 194, 310, 488, 747, 1101, 1546, 2047, 2549, 2994, 3348, 3607, 3785, 3901, 3975, 4022, 4050, 4068, 4079, 4085, 4089, 4092, 4093, 4094]
def sqAt (i : Int) : Int := sqTab.getD i.toNat 0
theorem sqTab_bd : ∀ i, i < 33 → 1 ≤ sqTab.getD i 0 ∧ sqTab.getD i 0 ≤ 4094 := by decide
theorem sqAt_bd {i : Int} (h0 : 0 ≤ i) (h1 : i < 33) : 1 ≤ sqAt i ∧ sqAt i ≤ 4094 := sqTab_bd i.toNat (by omega)
def squash (x : Int) : Int :=
  if 2047 < x then 4095 else if x < -2047 then 0
  else (sqAt ((x + 2048) / 128) * (128 - x % 128) + sqAt ((x + 2048) / 128 + 1) * (x % 128) + 64) / 128
theorem squash_bd (x : Int) : 0 ≤ squash x ∧ squash x ≤ 4095 := by
  unfold squash
  split
  · omega
  · split
    · omega
    · have h1 := sqAt_bd (i := (x + 2048) / 128) (by omega) (by omega)
      have h2 := sqAt_bd (i := (x + 2048) / 128 + 1) (by omega) (by omega)
      have hw : 0 ≤ x % 128 ∧ x % 128 ≤ 127 := by omega
      generalize sqAt ((x + 2048) / 128) = a at *
      generalize sqAt ((x + 2048) / 128 + 1) = b at *
      generalize x % 128 = w at *
      have e1 : a * (128 - w) ≤ 4094 * (128 - w) := Int.mul_le_mul_of_nonneg_right h1.2 (by omega)
      have e2 : b * w ≤ 4094 * w := Int.mul_le_mul_of_nonneg_right h2.2 (by omega)
      have e3 : 0 ≤ a * (128 - w) := Int.mul_nonneg (by omega) (by omega)
      have e4 : 0 ≤ b * w := Int.mul_nonneg (by omega) (by omega)
      omega
/-- The least place from i to j at which f holds, as a search by halves comes to it. -/
def bsearch (f : Int → Bool) : Nat → Int → Int → Int
  | 0, i, _ => i
  | k + 1, i, j => if i < j then (if f ((i + j) / 2) = true then bsearch f k i ((i + j) / 2) else bsearch f k ((i + j) / 2 + 1) j) else i
theorem bsearch_bd (f : Int → Bool) : ∀ (k : Nat) (i j : Int), i ≤ j → i ≤ bsearch f k i j ∧ bsearch f k i j ≤ j
  | 0, i, j, h => by simp [bsearch]; omega
  | k + 1, i, j, h => by
    unfold bsearch
    split
    · split
      · have := bsearch_bd f k i ((i + j) / 2) (by omega); omega
      · have := bsearch_bd f k ((i + j) / 2 + 1) j (by omega); omega
    · omega
def above (p i : Int) : Bool := decide (p ≤ squash (i - 2047))
def stretch (p : Int) : Int := bsearch (above p) 13 0 4094 - 2047
theorem stretch_bd (p : Int) : -2047 ≤ stretch p ∧ stretch p ≤ 2047 := by
  have := bsearch_bd (above p) 13 0 4094 (by omega)
  unfold stretch; omega
def countP (c : Int) : Int := min (max (c / 16) 1) 4095
theorem countP_bd (c : Int) : 1 ≤ countP c ∧ countP c ≤ 4095 := by unfold countP; omega
def countNext (c b : Int) : Int := if b = 1 then c + (65535 - c) / 16 else c - c / 16
theorem countNext_bd {c : Int} (b : Int) (h0 : 0 ≤ c) (h1 : c ≤ 65535) : 0 ≤ countNext c b ∧ countNext c b ≤ 65535 := by unfold countNext; split <;> omega
def within (x lo hi : Int) : Int := min (max x lo) hi
theorem within_bd (x : Int) {lo hi : Int} (h : lo ≤ hi) : lo ≤ within x lo hi ∧ within x lo hi ≤ hi := by unfold within; omega
def dot3 (w0 w1 w2 x0 x1 x2 : Int) : Int := within (squash ((w0 * x0 + w1 * x1 + w2 * x2) / 65536)) 1 4095
def trn (w x off : Int) : Int := within (w + (x * off + 512) / 1024) (-1048576) 1048576

structure Model where
  c : List Int
  w0 : Int
  w1 : Int
  w2 : Int
structure Model.Ok (m : Model) : Prop where
  len : m.c.length = 192
  c : ∀ x ∈ m.c, 0 ≤ x ∧ x ≤ 65535
  w0 : -1048576 ≤ m.w0 ∧ m.w0 ≤ 1048576
  w1 : -1048576 ≤ m.w1 ∧ m.w1 ≤ 1048576
  w2 : -1048576 ≤ m.w2 ∧ m.w2 ≤ 1048576
def newM : Model := ⟨List.replicate 192 32768, 22000, 22000, 22000⟩
theorem newM_ok : newM.Ok := ⟨List.length_replicate, fun x hx => by have := List.eq_of_mem_replicate (n := 192) (a := (32768 : Int)) hx; omega, by decide, by decide, by decide⟩
def Model.at_ (m : Model) (i : Int) : Int := m.c.getD i.toNat 0
theorem Model.at_bd {m : Model} (h : m.Ok) (i : Int) : 0 ≤ m.at_ i ∧ m.at_ i ≤ 65535 := by
  unfold Model.at_
  rcases Nat.lt_or_ge i.toNat m.c.length with hl | hl
  · rw [List.getD_eq_getElem?_getD, List.getElem?_eq_getElem hl]; exact h.c _ (List.getElem_mem _)
  · rw [List.getD_eq_getElem?_getD, List.getElem?_eq_none hl]; simp
def Model.inp (m : Model) (i : Int) : Int := stretch (countP (m.at_ i))
/-- A context: three numbers. -/
structure Ctx where
  x0 : Int
  x1 : Int
  x2 : Int
structure Ctx.Ok (x : Ctx) : Prop where
  x0 : 0 ≤ x.x0 ∧ x.x0 < 64
  x1 : 0 ≤ x.x1 ∧ x.x1 < 64
  x2 : 0 ≤ x.x2 ∧ x.x2 < 64
def Model.P (m : Model) (x : Ctx) : Int := dot3 m.w0 m.w1 m.w2 (m.inp x.x0) (m.inp (64 + x.x1)) (m.inp (128 + x.x2))
def Model.learn (m : Model) (x : Ctx) (b : Int) : Model :=
  ⟨((m.c.set x.x0.toNat (countNext (m.at_ x.x0) b)).set (64 + x.x1).toNat (countNext (m.at_ (64 + x.x1)) b)).set (128 + x.x2).toNat (countNext (m.at_ (128 + x.x2)) b),
    trn m.w0 (m.inp x.x0) (4096 * b - m.P x), trn m.w1 (m.inp (64 + x.x1)) (4096 * b - m.P x), trn m.w2 (m.inp (128 + x.x2)) (4096 * b - m.P x)⟩
theorem Model.P_bd (m : Model) (x : Ctx) : 1 ≤ m.P x ∧ m.P x ≤ 4095 := within_bd _ (by decide)
theorem mem_set_bd {l : List Int} {i : Nat} {v : Int} (h : ∀ x ∈ l, 0 ≤ x ∧ x ≤ 65535) (hv : 0 ≤ v ∧ v ≤ 65535) : ∀ x ∈ l.set i v, 0 ≤ x ∧ x ≤ 65535 := by
  intro x hx
  rcases List.mem_or_eq_of_mem_set hx with h1 | rfl
  · exact h x h1
  · exact hv
theorem Model.learn_ok {m : Model} (h : m.Ok) (x : Ctx) (b : Int) : (m.learn x b).Ok := by
  have a0 := Model.at_bd h x.x0
  have a1 := Model.at_bd h (64 + x.x1)
  have a2 := Model.at_bd h (128 + x.x2)
  exact ⟨by simp [Model.learn, h.len], mem_set_bd (mem_set_bd (mem_set_bd h.c (countNext_bd b a0.1 a0.2)) (countNext_bd b a1.1 a1.2)) (countNext_bd b a2.1 a2.2), within_bd _ (by decide), within_bd _ (by decide), within_bd _ (by decide)⟩

/-- What stands ahead of a bit. -/
def ctxOf (before : Int) (bs : List Int) : Ctx :=
  ⟨min (ones bs : Int) 31 + (if zeroed bs = true then 32 else 0), 2 * min before 31 + (if zeroed bs = true then 1 else 0), min (bs.length : Int) 31 + (if bs.getLast? = some 1 then 32 else 0)⟩
theorem ctxOf_ok {before : Int} (bs : List Int) (h : 0 ≤ before) : (ctxOf before bs).Ok := by
  unfold ctxOf
  constructor <;> (simp only []; split <;> omega)
def chanceM (m : Model) (before : Int) (bs : List Int) : Int := m.P (ctxOf before bs)
def learnM (m : Model) (before : Int) (bs : List Int) (b : Int) : Model := m.learn (ctxOf before bs) b
theorem fairM : Fair chanceM learnM Model.Ok (fun b => 0 ≤ b ∧ b ≤ 63) where
  chance m before bs _ _ _ _ := Model.P_bd m _
  learn m before bs b hm _ _ _ _ := Model.learn_ok hm _ b
  ones n hn := by constructor <;> omega

/-- Numbers' bytes, and back. -/
def rput (xs : List Int) : List UInt8 := endC (putAll chanceM learnM newC newM 0 xs)
def rget (s : List UInt8) (n : Nat) : Option (List Int) := getAll chanceM learnM s n (newD s) newM 0
theorem rget_rput {xs : List Int} (h : ∀ x ∈ xs, -16777216 ≤ x ∧ x ≤ 16777216) : rget (rput xs) xs.length = some xs := resid_back chanceM learnM fairM newM newM_ok xs h
theorem rput_length {xs : List Int} (h : ∀ x ∈ xs, -16777216 ≤ x ∧ x ≤ 16777216) : 4 ≤ (rput xs).length ∧ (rput xs).length ≤ 204 * xs.length + 4 := by
  have := (putAll_ok chanceM learnM fairM xs newC newM 0 newC_ok newM_ok (by omega) h).2.1
  unfold rput endC
  simp [newC] at this ⊢
  omega
end Dsc
end
section
/- The walks of packages stretch, count, mix, model. -/
set_option linter.unusedVariables false
set_option linter.unusedSimpArgs false
namespace Dsc
open Go Go.RowKit
open Go.Proofs

theorem countMay_any (c : Int) (w : World) (h0 : 0 ≤ c) (h1 : c ≤ 65535) : Calls Tryz.prog 138 #[.int .i64 c] w fun e w' => e = .returned (.bool true) ∧ w = w' := by
  go_enter Tryz.func138, Tryz.ntmps138
  go_wp2
  go_ret
  exact ⟨by simp [h0, h1], rfl⟩
theorem countNew_any (w : World) : Calls Tryz.prog 83 #[] w fun e w' => e = .returned (.int .i64 32768) ∧ w = w' := by
  go_enter Tryz.func83, Tryz.ntmps83
  go_wp2
  go_ret
  exact ⟨rfl, rfl⟩
theorem countP_any (c : Int) (w : World) (h0 : 0 ≤ c) (h1 : c ≤ 65535) : Calls Tryz.prog 143 #[.int .i64 c] w fun e w' => e = .returned (.tuple #[.int .i64 (countP c), .int .i64 0]) ∧ w = w' := by
  go_enter Tryz.func143, Tryz.ntmps143
  go_wp2_with (go_at_call 138; refine (countMay_any _ _ h0 h1).mono ?_; rintro e w' ⟨rfl, rfl⟩)
  all_goals
    go_ret2
    exact ⟨ret_int2 (by unfold countP; omega) rfl, rfl⟩
theorem countNext_any (c b : Int) (w : World) (h0 : 0 ≤ c) (h1 : c ≤ 65535) (hb : b = 0 ∨ b = 1) : Calls Tryz.prog 136 #[.int .i64 c, .int .i64 b] w fun e w' => e = .returned (.tuple #[.int .i64 (countNext c b), .int .i64 0]) ∧ w = w' := by
  rcases hb with hb | hb
  all_goals
    subst hb
    go_enter Tryz.func136, Tryz.ntmps136
    go_wp2_with (go_at_call 138; refine (countMay_any _ _ h0 h1).mono ?_; rintro e w' ⟨rfl, rfl⟩)
    go_ret2
    exact ⟨rfl, rfl⟩
theorem bound_any (x lo hi : Int) (w : World) : Calls Tryz.prog 141 #[.int .i64 x, .int .i64 lo, .int .i64 hi] w fun e w' => e = .returned (.int .i64 (within x lo hi)) ∧ w = w' := by
  go_enter Tryz.func141, Tryz.ntmps141
  go_wp2
  all_goals
    go_ret
    exact ⟨ret_int (by unfold within; omega), rfl⟩
/-- The table of chances, as its initialiser lays it. -/
def TabW (w : World) : Prop := ∀ i, i < 33 → w.cell? ⟨3, i, none⟩ = some (.int .i64 (sqTab.getD i 0))
theorem squash_any (x : Int) (w : World) (hT : TabW w) (h0 : -9223372036854775808 ≤ x) (h1 : x ≤ 9223372036854775807) : Calls Tryz.prog 142 #[.int .i64 x] w fun e w' => e = .returned (.int .i64 (squash x)) ∧ ∃ n, w.drewN n = w' := by
  by_cases c1 : 2047 < x
  · clear hT
    go_enter Tryz.func142, Tryz.ntmps142
    go_wp2
    go_ret
    exact ⟨by simp [squash, c1], 0, rfl⟩
  by_cases c2 : x < -2047
  · clear hT
    go_enter Tryz.func142, Tryz.ntmps142
    go_wp2
    go_ret
    exact ⟨by simp [squash, c1, c2], 0, rfl⟩
  have e1 : x + 2047 + 1 = x + 2048 := by omega
  have d0 : 0 ≤ (x + 2048) / 128 := by omega
  have d1 : (x + 2048) / 128 < 33 := by omega
  have d2 : (x + 2048) / 128 + 1 < 33 := by omega
  have d3 : 0 ≤ (x + 2048) / 128 + 1 := by omega
  have d4 : 0 ≤ x % 128 := by omega
  have d5 : x % 128 ≤ 127 := by omega
  have k1 := hT ((x + 2048) / 128).toNat (by omega)
  have k2 := hT ((x + 2048) / 128 + 1).toNat (by omega)
  have b1 := sqAt_bd d0 d1
  have b2 := sqAt_bd d3 d2
  obtain ⟨s1, hs1⟩ : ∃ a, sqAt ((x + 2048) / 128) = a := ⟨_, rfl⟩
  obtain ⟨s2, hs2⟩ : ∃ a, sqAt ((x + 2048) / 128 + 1) = a := ⟨_, rfl⟩
  have k1' : w.cell? ⟨3, ((x + 2048) / 128).toNat, none⟩ = some (.int .i64 s1) := by rw [k1, ← hs1]; rfl
  have k2' : w.cell? ⟨3, ((x + 2048) / 128 + 1).toNat, none⟩ = some (.int .i64 s2) := by rw [k2, ← hs2]; rfl
  have H := Lib.hid (show squash x = (s1 * (128 - x % 128) + s2 * (x % 128) + 64) / 128 by unfold squash; rw [if_neg c1, if_neg c2, hs1, hs2])
  rw [hs1] at b1
  rw [hs2] at b2
  have m1 : s1 * (128 - x % 128) ≤ 4094 * (128 - x % 128) := Int.mul_le_mul_of_nonneg_right b1.2 (by omega)
  have m2 : s2 * (x % 128) ≤ 4094 * (x % 128) := Int.mul_le_mul_of_nonneg_right b2.2 (by omega)
  have m3 : 0 ≤ s1 * (128 - x % 128) := Int.mul_nonneg (by omega) (by omega)
  have m4 : 0 ≤ s2 * (x % 128) := Int.mul_nonneg (by omega) (by omega)
  have ha := fun n => i64_and127 n
  clear hT k1 k2 hs1 hs2
  go_enter Tryz.func142, Tryz.ntmps142
  go_wp2
  go_quiet (fail)
  go_wp2
  go_ret
  exact ⟨by rw [H.out]; rfl, _, rfl⟩
theorem TabW.drewN {w : World} (h : TabW w) (n : Nat) : TabW (w.drewN n) := h
theorem TabW.drew {w : World} (h : TabW w) : TabW w.drew := h
theorem TabW.of_ {w w' : World} (h : TabW w) (hb : Below w.heap.size w w') : TabW w' := fun i hi => (hb.cell (World.block_lt_of_cell? w _ (h i hi))).trans (h i hi)
set_option maxRecDepth 10000 in
theorem above_any (i p : Int) (b : Nat) (w : World) (hT : TabW w) (hp : w.cell? ⟨b, 0, none⟩ = some (.int .i64 p)) (h0 : 0 ≤ i) (h1 : i ≤ 4094) :
    Calls Tryz.prog 146 #[.int .i64 i, .pointer (some ⟨b, 0, none⟩)] w fun e w' => e = .returned (.bool (above p i)) ∧ ∃ n, w.drewN n = w' := by
  have hT' := Lib.hid hT
  clear hT
  go_enter Tryz.func146, Tryz.ntmps146
  go_wp2_with fail
  go_quiet ((go_at_call 142; exact quiet_same (squash_any _ _ (hT'.out.drewN _) (by omega) (by omega))))
  go_wp2
  go_ret
  exact ⟨rfl, _, rfl⟩
/-- sort.Search over such a predicate. -/
theorem search_any (p : Int) (b : Nat) (w : World) (hT : TabW w) (hp : w.cell? ⟨b, 0, none⟩ = some (.int .i64 p)) :
    Calls Tryz.prog 145 #[.int .i64 4094, .func (.func 146) #[] #[.pointer (some ⟨b, 0, none⟩)]] w fun e w' => e = .returned (.int .i64 (bsearch (above p) 13 0 4094)) ∧ ∃ n, w.drewN n = w' := by
  have hT' := Lib.hid hT
  clear hT
  have hp' := Lib.hid hp
  clear hp
  go_enter Tryz.func145, Tryz.ntmps145
  go_wp2_with fail
  go_loopg [5, 6] 13 (fun k a b' wr => ∃ i j : Int, a = .int .i64 i ∧ b' = .int .i64 j ∧ 0 ≤ i ∧ i ≤ j ∧ j ≤ 4094 ∧ j - i < 2 ^ k ∧ bsearch (above p) k i j = bsearch (above p) 13 0 4094 ∧ ∃ n, w.drewN n = wr)
  case atStart => exact ⟨0, 4094, rfl, rfl, by omega, by omega, by omega, by decide, rfl, 0, rfl⟩
  case round =>
    obtain ⟨i, j, rfl, rfl, h0, h1, h2, h3, h4, nn, rfl⟩ := hrel
    have h3' := Lib.hid h3
    have h4' := Lib.hid h4
    clear h3 h4
    by_cases hlt : i < j
    · obtain ⟨k, rfl⟩ : ∃ k, gk = k + 1 := ⟨gk - 1, by
        rcases Nat.eq_zero_or_pos gk with h | h
        · subst h; have := h3'.out; simp at this; omega
        · omega⟩
      have e1 : IntKind.u64.wrap (i + j) = i + j := by rw [IntKind.wrap_u64]; omega
      have e2 : IntKind.i64.wrap ((i + j) / 2) = (i + j) / 2 := by rw [IntKind.wrap_i64]; omega
      have hp2 : (w.drewN nn).cell? ⟨b, 0, none⟩ = some (.int .i64 p) := hp'.out
      obtain ⟨t, hf⟩ : ∃ t, above p ((i + j) / 2) = t := ⟨_, rfl⟩
      have hf' := Lib.hid hf
      clear hf
      have A := above_any ((i + j) / 2) p b (w.drewN nn) (hT'.out.drewN nn) hp2 (by omega) (by omega)
      rw [hf'.out] at A
      have A' := Lib.hid A
      clear A
      cases t
      all_goals
        go_wp2_with (go_at_call 146; refine (A'.out).mono ?_; rintro e w' ⟨rfl, n2, rfl⟩)
        go_roundg k
        case measure => omega
        case rel =>
          have g3 := h3'.out
          rw [Int.pow_succ] at g3
          refine ⟨_, _, rfl, rfl, by omega, by omega, by omega, by omega, ?_, _, rfl⟩
          rw [← h4'.out, bsearch, if_pos hlt, hf'.out]
          rfl
    · obtain rfl : i = j := by omega
      go_wp2
      go_ret
      refine ⟨ret_int ?_, _, rfl⟩
      rw [← h4'.out]
      cases gk with
      | zero => rfl
      | succ k => rw [bsearch, if_neg (Int.lt_irrefl _)]
theorem stretch_any (p : Int) (w : World) (hT : TabW w) (h0 : 0 ≤ p) (h1 : p ≤ 4095) : Calls Tryz.prog 144 #[.int .i64 p] w fun e w' => e = .returned (.tuple #[.int .i64 (stretch p), .int .i64 0]) ∧ Below w.heap.size w w' := by
  have hT' := Lib.hid hT
  clear hT
  have S := Lib.hid (search_any p w.heap.size (w.alloc (.cells #[.int .i64 p] 3)) (hT'.out.of_ ((Below.refl _ _).alloc (Nat.le_refl _) _)) (by simp))
  have bd := bsearch_bd (above p) 13 0 4094 (by omega)
  obtain ⟨q, hq⟩ : ∃ q, bsearch (above p) 13 0 4094 = q := ⟨_, rfl⟩
  rw [hq] at S bd
  have hq' := Lib.hid hq
  clear hq
  go_enter Tryz.func144, Tryz.ntmps144
  go_wp2_with (go_at_call 145; refine (S.out).mono ?_; rintro e w' ⟨rfl, n2, rfl⟩)
  go_ret2
  refine ⟨ret_int2 ?_ rfl, ?_⟩
  · unfold stretch; rw [hq'.out]
  · exact below_drewN (by go_grown) _
end Dsc
end
section
/- The walks of packages mix and model. -/
set_option linter.unusedVariables false
set_option linter.unusedSimpArgs false
namespace Dsc
open Go Go.RowKit
open Go.Proofs

def i3 (a b c : Int) : Array Value := #[.int .i64 a, .int .i64 b, .int .i64 c]
theorem idx0 (a b c : Int) (w : World) : (Instr.index 95 (.agg #[.int .i64 a, .int .i64 b, .int .i64 c]) (.int .i64 0)).run Tryz.prog w = .ok (.int .i64 a) w := by kernel_rfl
theorem idx1 (a b c : Int) (w : World) : (Instr.index 95 (.agg #[.int .i64 a, .int .i64 b, .int .i64 c]) (.int .i64 1)).run Tryz.prog w = .ok (.int .i64 b) w := by kernel_rfl
theorem idx2 (a b c : Int) (w : World) : (Instr.index 95 (.agg #[.int .i64 a, .int .i64 b, .int .i64 c]) (.int .i64 2)).run Tryz.prog w = .ok (.int .i64 c) w := by kernel_rfl
structure Three (w : World) (b o : Nat) (x0 x1 x2 : Int) : Prop where
  c0 : w.cell? ⟨b, o, none⟩ = some (.int .i64 x0)
  c1 : w.cell? ⟨b, o + 1, none⟩ = some (.int .i64 x1)
  c2 : w.cell? ⟨b, o + 2, none⟩ = some (.int .i64 x2)
theorem weights_any (b o : Nat) (w0 w1 w2 : Int) (w : World) (H : Three w b o w0 w1 w2) (h0 : -1048576 ≤ w0 ∧ w0 ≤ 1048576) (h1 : -1048576 ≤ w1 ∧ w1 ≤ 1048576) (h2 : -1048576 ≤ w2 ∧ w2 ≤ 1048576) :
    Calls Tryz.prog 139 #[.pointer (some ⟨b, o, none⟩)] w fun e w' => e = .returned (.bool true) ∧ w = w' := by
  obtain ⟨c0, c1, c2⟩ := H
  go_enter Tryz.func139, Tryz.ntmps139
  go_wp2
  go_rounds 4
  go_wp2
  go_ret
  exact ⟨rfl, rfl⟩
theorem inputs_any (b o : Nat) (w0 w1 w2 : Int) (w : World) (H : Three w b o w0 w1 w2) (h0 : -2047 ≤ w0 ∧ w0 ≤ 2047) (h1 : -2047 ≤ w1 ∧ w1 ≤ 2047) (h2 : -2047 ≤ w2 ∧ w2 ≤ 2047) :
    Calls Tryz.prog 140 #[.pointer (some ⟨b, o, none⟩)] w fun e w' => e = .returned (.bool true) ∧ w = w' := by
  obtain ⟨c0, c1, c2⟩ := H
  go_enter Tryz.func140, Tryz.ntmps140
  go_wp2
  go_rounds 4
  go_wp2
  go_ret
  exact ⟨rfl, rfl⟩
theorem there_any (b o : Nat) (w0 w1 w2 : Int) (w : World) (H : Three w b o w0 w1 w2) (h0 : 0 ≤ w0 ∧ w0 < 64) (h1 : 0 ≤ w1 ∧ w1 < 64) (h2 : 0 ≤ w2 ∧ w2 < 64) :
    Calls Tryz.prog 131 #[.pointer (some ⟨b, o, none⟩)] w fun e w' => e = .returned (.bool true) ∧ w = w' := by
  obtain ⟨c0, c1, c2⟩ := H
  go_enter Tryz.func131, Tryz.ntmps131
  go_wp2
  go_rounds 4
  go_wp2
  go_ret
  exact ⟨rfl, rfl⟩
set_option maxRecDepth 10000 in
theorem dot_any (w0 w1 w2 x0 x1 x2 : Int) (w : World) (hT : TabW w) (h0 : -1048576 ≤ w0 ∧ w0 ≤ 1048576) (h1 : -1048576 ≤ w1 ∧ w1 ≤ 1048576) (h2 : -1048576 ≤ w2 ∧ w2 ≤ 1048576) (k0 : -2047 ≤ x0 ∧ x0 ≤ 2047) (k1 : -2047 ≤ x1 ∧ x1 ≤ 2047) (k2 : -2047 ≤ x2 ∧ x2 ≤ 2047) :
    Calls Tryz.prog 132 #[.agg (i3 w0 w1 w2), .agg (i3 x0 x1 x2)] w fun e w' => e = .returned (.tuple #[.int .i64 (dot3 w0 w1 w2 x0 x1 x2), .int .i64 0]) ∧ Below w.heap.size w w' := by
  have hT' := Lib.hid (hT.of_ (((Below.refl _ _).alloc (Nat.le_refl _) (.cells (i3 w0 w1 w2) 95)).alloc (by simp) (.cells (i3 x0 x1 x2) 95)))
  clear hT
  have m0 := mul_bd h0 k0
  have m1 := mul_bd h1 k1
  have m2 := mul_bd h2 k2
  unfold i3 at *
  have j0 := idx0 w0 w1 w2
  have j1 := idx1 w0 w1 w2
  have j2 := idx2 w0 w1 w2
  go_enter Tryz.func132, Tryz.ntmps132
  go_wp2_with (first | (go_at_call 139; refine (weights_any _ _ w0 w1 w2 _ ⟨by simp, by simp, by simp⟩ h0 h1 h2).mono ?_; rintro e w' ⟨rfl, rfl⟩) | (go_at_call 140; refine (inputs_any _ _ x0 x1 x2 _ ⟨by simp, by simp, by simp⟩ k0 k1 k2).mono ?_; rintro e w' ⟨rfl, rfl⟩))
  refine wp_loop_rounds 4 ?_
  iterate 4
    rw [rounds_succ]
    go_wp2_with (first | (go_at_call 142; refine (squash_any _ _ hT'.out (by omega) (by omega)).mono ?_; rintro e w' ⟨rfl, n, rfl⟩) | (go_at_call 141; refine (bound_any _ _ _ _).mono ?_; rintro e w' ⟨rfl, rfl⟩))
  go_ret2
  exact ⟨rfl, by refine below_drewN ?_ _; go_grown⟩
set_option maxRecDepth 10000 in
set_option maxHeartbeats 400000 in
theorem train_any (w0 w1 w2 x0 x1 x2 b : Int) (w : World) (hT : TabW w) (hb : b = 0 ∨ b = 1) (h0 : -1048576 ≤ w0 ∧ w0 ≤ 1048576) (h1 : -1048576 ≤ w1 ∧ w1 ≤ 1048576) (h2 : -1048576 ≤ w2 ∧ w2 ≤ 1048576) (k0 : -2047 ≤ x0 ∧ x0 ≤ 2047) (k1 : -2047 ≤ x1 ∧ x1 ≤ 2047) (k2 : -2047 ≤ x2 ∧ x2 ≤ 2047) :
    Calls Tryz.prog 134 #[.agg (i3 w0 w1 w2), .agg (i3 x0 x1 x2), .int .i64 b] w fun e w' => e = .returned (.tuple #[.agg #[.int .i64 (trn w0 x0 (4096 * b - dot3 w0 w1 w2 x0 x1 x2)), .int .i64 (trn w1 x1 (4096 * b - dot3 w0 w1 w2 x0 x1 x2)), .int .i64 (trn w2 x2 (4096 * b - dot3 w0 w1 w2 x0 x1 x2))], .int .i64 0]) ∧ Below w.heap.size w w' := by
  have hb1 : 0 ≤ b := by omega
  have hb2 : b ≤ 1 := by omega
  clear hb
  obtain ⟨d, hd⟩ : ∃ d, dot3 w0 w1 w2 x0 x1 x2 = d := ⟨_, rfl⟩
  have hd1 : 1 ≤ d ∧ d ≤ 4095 := by rw [← hd]; exact within_bd _ (by decide)
  obtain ⟨o, ho⟩ : ∃ o, 4096 * b - d = o := ⟨_, rfl⟩
  have ho1 : -4096 ≤ o ∧ o ≤ 4096 := by omega
  have m0 := mul_bd k0 ho1
  have m1 := mul_bd k1 ho1
  have m2 := mul_bd k2 ho1
  have D := dot_any w0 w1 w2 x0 x1 x2 ((((w.alloc (.cells (i3 w0 w1 w2) 95)).alloc (.cells (i3 x0 x1 x2) 95))).alloc (.cells (i3 0 0 0) 95)) (hT.of_ ((((Below.refl _ _).alloc (Nat.le_refl _) (.cells (i3 w0 w1 w2) 95)).alloc (by simp) (.cells (i3 x0 x1 x2) 95)).alloc (by simp; omega) _)) h0 h1 h2 k0 k1 k2
  rw [hd] at D ⊢
  have D' := Lib.hid D
  clear hT D hd
  unfold i3 at *
  have j0 := idx0 x0 x1 x2
  have j1 := idx1 x0 x1 x2
  have j2 := idx2 x0 x1 x2
  have ho' := Lib.hid ho
  go_enter Tryz.func134, Tryz.ntmps134
  go_wp2_with fail
  refine (D'.out).mono ?_
  rintro e w' ⟨rfl, hb⟩
  obtain ⟨p0, p1, p2, p3, p4, p5, p6⟩ := (((Blk.new w 95 #[.int .i64 w0, .int .i64 w1, .int .i64 w2]).alloc _).alloc _ |>.kept hb).facts3
  obtain ⟨q0, q1, q2, q3, q4, q5, q6⟩ := ((Blk.new1 w _ 95 #[.int .i64 x0, .int .i64 x1, .int .i64 x2]).alloc _ |>.kept hb).facts3
  obtain ⟨r0, r1, r2, r3, r4, r5, r6⟩ := ((Blk.new2 w _ _ 95 #[.int .i64 0, .int .i64 0, .int .i64 0]).kept hb).facts3
  have HB := Lib.hid hb
  clear hb
  go_wp2_with (first | (go_at_call 141; refine (bound_any _ _ _ _).mono ?_; rintro e w' ⟨rfl, rfl⟩))
  refine wp_loop_rounds 4 ?_
  iterate 4
    rw [rounds_succ]
    go_wp2_with (first | (go_at_call 141; refine (bound_any _ _ _ _).mono ?_; rintro e w' ⟨rfl, rfl⟩))
  refine bodyPost_ret (v := .tuple #[.agg (i3 (trn w0 x0 (4096 * b - d)) (trn w1 x1 (4096 * b - d)) (trn w2 x2 (4096 * b - d))), .int .i64 0]) ?_ rfl ⟨rfl, ?_⟩
  · unfold i3 trn
    rw [ho'.out]
    simp [results, Tryz.results134, go_sem, *]
  · have hB2 : Below w.heap.size w w' := below_then (((Below.refl _ _).alloc (Nat.le_refl _) _).alloc (by simp) _ |>.alloc (by simp; omega) _) (by simp; omega) HB.out
    clear HB
    go_grown

/-! model -/
def iv (xs : List Int) : List Value := xs.map (Value.int .i64)
theorem iv_length (xs : List Int) : (iv xs).length = xs.length := by simp [iv]
theorem iv_getD (xs : List Int) (i : Nat) (h : i < xs.length) : (iv xs)[i]? = some (.int .i64 (xs.getD i 0)) := by
  simp [iv, List.getElem?_eq_getElem h, List.getD_eq_getElem?_getD]
/-- A model's cells. -/
def Model.cells (m : Model) : Array Value := (iv (m.c ++ [m.w0, m.w1, m.w2])).toArray
theorem Model.cells_size {m : Model} (h : m.Ok) : m.cells.size = 195 := by simp [Model.cells, iv_length, h.len]
theorem Model.cell_c {m : Model} (h : m.Ok) {i : Nat} (hi : i < 192) : m.cells[i]? = some (.int .i64 (m.at_ i)) := by
  have hl : i < m.c.length := by rw [h.len]; exact hi
  simp only [Model.cells, List.getElem?_toArray]
  rw [iv_getD _ _ (by simp; omega)]
  unfold Model.at_
  simp only [List.getD_eq_getElem?_getD, Int.toNat_natCast]
  rw [List.getElem?_append_left hl]
theorem Model.cell_w {m : Model} (h : m.Ok) : m.cells[192]? = some (.int .i64 m.w0) ∧ m.cells[193]? = some (.int .i64 m.w1) ∧ m.cells[194]? = some (.int .i64 m.w2) := by
  have hl := h.len
  refine ⟨?_, ?_, ?_⟩ <;>
  · simp only [Model.cells, List.getElem?_toArray]
    rw [iv_getD _ _ (by simp; omega)]
    simp only [List.getD_eq_getElem?_getD]
    rw [List.getElem?_append_right (by omega), hl]
    rfl
end Dsc
end
section
/- Slices of ints: read, owned, appended to. -/
set_option linter.unusedVariables false
set_option linter.unusedSimpArgs false
namespace Dsc
open Go Go.RowKit
open Go.Proofs

/-- A slice's cells: nil let in where there are none. -/
def RI (w : World) (A : Option Addr) (xs : List Int) : Prop := 0 < xs.length → ∃ ad, A = some ad ∧ ∀ j, j < xs.length → w.cell? (ad.add j) = some (.int .i64 (xs.getD j 0))
section
variable {w w' : World} {A : Option Addr} {xs : List Int}
theorem RI.at_ (h : RI w A xs) {k : Nat} (hk : k < xs.length) : ∃ ad, A = some ad ∧ w.cell? (ad.add k) = some (.int .i64 (xs.getD k 0)) := by
  obtain ⟨ad, e, hc⟩ := h (by omega)
  exact ⟨ad, e, hc k hk⟩
theorem RI.kept (h : RI w A xs) (hb : Below w.heap.size w w') : RI w' A xs := fun hn => by
  obtain ⟨ad, e, hc⟩ := h hn
  exact ⟨ad, e, fun j hj => cell_later hb (hc j hj)⟩
theorem RI.drew (h : RI w A xs) : RI w.drew A xs := h
theorem RI.drewN (h : RI w A xs) (n : Nat) : RI (w.drewN n) A xs := h
theorem RI.nil (w : World) (A : Option Addr) : RI w A [] := fun h => absurd h (by simp)
theorem block_of_add (a : Addr) (n : Nat) : (a.add n).block = a.block := by unfold Addr.add; split <;> rfl
theorem add_of_add (a : Addr) (i j : Nat) : (a.add i).add j = a.add (i + j) := by
  unfold Addr.add
  by_cases hi : i = 0 <;> by_cases hj : j = 0 <;> simp [hi, hj, Nat.add_assoc]
end
/-- A row of the call's own, of ints. -/
def OI (w : World) (base : Nat) (v : Value) (xs : List Int) : Prop := w.ownsRow base 3 1 v xs.length (iv xs)
section
variable {w w' : World} {base : Nat} {v : Value} {xs : List Int}
theorem OI.nil (w : World) (base : Nat) : OI w base (.slice none 0 0) [] := ⟨by simp [iv], .inl ⟨rfl, by simp⟩⟩
theorem OI.slice (h : OI w base v xs) : ∃ A c, v = .slice A xs.length c ∧ RI w A xs ∧ xs.length ≤ c := by
  rcases h.2 with ⟨rfl, h0⟩ | ⟨g, cap, cur, rfl, hb, hh, hc, hm, hs, ht⟩
  · exact ⟨none, 0, by rw [h0], fun hn => absurd hn (by omega), by omega⟩
  · refine ⟨_, cap, rfl, fun _ => ⟨_, rfl, fun j hj => ?_⟩, hc⟩
    have := World.ownsRow.cells (g := g) h rfl j (.int .i64 (xs.getD j 0)) (iv_getD xs j hj)
    exact this
theorem OI.kept (h : OI w base v xs) (hb : Below w.heap.size w w') : OI w' base v xs :=
  World.ownsRow.kept h (row := none) ⟨hb.os, hb.tape, hb.output, hb.size, fun i hi _ => hb.block i hi⟩ (by
    rcases h.2 with ⟨rfl, _⟩ | ⟨g, cap, cur, rfl, _⟩
    · exact .inl rfl
    · exact .inr (by simp [Value.ownBlock]))
theorem OI.drew (h : OI w base v xs) : OI w.drew base v xs := h
theorem OI.drewN (h : OI w base v xs) (n : Nat) : OI (w.drewN n) base v xs := h
theorem OI.own_base (h : OI w base v xs) (k : Nat) (hk : v.ownBlock = some k) : base ≤ k := by
  rcases h.2 with ⟨rfl, _⟩ | ⟨g, cap, cur, rfl, hb, _⟩
  · simp [Value.ownBlock] at hk
  · have : g = k := by simpa [Value.ownBlock] using hk
    omega
theorem OI.own_lt (h : OI w base v xs) (k : Nat) (hk : v.ownBlock = some k) : k < w.heap.size := by
  rcases h.2 with ⟨rfl, _⟩ | ⟨g, cap, cur, rfl, hb, hh, _⟩
  · simp [Value.ownBlock] at hk
  · have : g = k := by simpa [Value.ownBlock] using hk
    subst this
    exact (Array.getElem?_eq_some_iff.1 hh).1
theorem OI.mono (h : OI w base v xs) {b' : Nat} (hb : b' ≤ base) : OI w b' v xs := by
  obtain ⟨h1, h2⟩ := h
  refine ⟨h1, ?_⟩
  rcases h2 with h2 | ⟨g, cap, cur, e, hg, r⟩
  · exact .inl h2
  · exact .inr ⟨g, cap, cur, e, by omega, r⟩
end
theorem info_int : (Tryz.prog.info? 3).map (fun i => (i.zero, i.size, i.bytes)) = some (some (.int .i64 0), 1, 8) := by kernel_rfl
section
variable {ops : Array Oper} {rest : List Oper} {o : Oper} {a : Act} {Q : Exit → Act → World → Prop}
/-- append(v, y): the box that holds y is the world's last block. -/
theorem app_int {W : World} (base : Nat) (hgd : o.guard = none) (s x : Operand)
    (ho : o.op = .call { callee := .builtin .append, args := #[s, x], argTypes := #[39, 39] })
    (v : Value) (xs : List Int) (y : Int) (hs : a.eval s = v) (hx : a.eval x = .slice (some ⟨W.heap.size, 0, none⟩) 1 1)
    (HO : OI W base v xs) (hbase : base ≤ W.heap.size) (hl : xs.length + 1 ≤ 17592186044416)
    (h : ∀ v1 w1, OI w1 base v1 (xs ++ [y]) → W.grownBy w1 v.ownBlock → Below base W w1 → wpList Tryz.prog ops Q rest (a.put o.dst v1) w1) :
    wpList Tryz.prog ops Q (o :: rest) a (W.alloc (.cells #[.int .i64 y] 3)) := by
  obtain ⟨i0, hi, hzz⟩ := Option.map_eq_some_iff.1 info_int
  simp only [Prod.mk.injEq] at hzz
  obtain ⟨hz0, hz1, hz2⟩ := hzz
  refine wpList_append_own_at (W.alloc (.cells #[.int .i64 y] 3)) hgd s x 39 ho base 3 i0 (.int .i64 0) 1 8 Tryz.underlying39 hi hz0 hz1 hz2 rfl (by omega) v xs.length (iv xs) hs (World.ownsRow.alloc HO _) ⟨W.heap.size, 0, none⟩ 1 1 [.int .i64 y] hx rfl
    (World.news_of_block (cs := #[.int .i64 y]) (t := 3) (fr := (0, 0)) (heap_alloc_new W _)) (by simp [Value.oneCell']) (by unfold maxLen; omega) (by omega) (by simp; omega) ?_
  intro v1 w1 hown hg _ _
  have hg' : W.grownBy w1 v.ownBlock := World.grownBy.trans (World.grownBy_alloc W _ _) hg
  refine h v1 w1 ?_ hg' ?_
  · unfold OI
    simpa [iv] using hown
  · exact ⟨hg'.os, hg'.tape, hg'.output, hg'.size, fun k hk => hg'.block k (by omega) (fun e => by have := HO.own_base k e.symm; omega)⟩
end
end Dsc
end
section
/- The walks of packages lms and chain. -/
set_option linter.unusedVariables false
set_option linter.unusedSimpArgs false
namespace Dsc
open Go Go.RowKit
open Go.Proofs

theorem in_any (x m : Int) (w : World) (h0 : 0 ≤ m) (h1 : m ≤ 9223372036854775807) : Calls Tryz.prog 116 #[.int .i64 x, .int .i64 m] w fun e w' => e = .returned (.bool (decide (-m ≤ x) && decide (x ≤ m))) ∧ w = w' := by
  go_enter Tryz.func116, Tryz.ntmps116
  go_wp2
  all_goals go_ret
  · rename_i h
    exact ⟨by rw [decide_eq_true h]; simp, rfl⟩
  · rename_i h
    exact ⟨by rw [decide_eq_false (by omega)]; simp, rfl⟩
theorem in_yes (x m : Int) (w : World) (h0 : -m ≤ x) (h1 : x ≤ m) (h2 : m ≤ 9223372036854775807) : Calls Tryz.prog 116 #[.int .i64 x, .int .i64 m] w fun e w' => e = .returned (.bool true) ∧ w = w' :=
  (in_any x m w (by omega) h2).mono fun e w' h => by simpa [h0, h1] using h
theorem boundL_any (x m : Int) (w : World) (h0 : 0 ≤ m) (h1 : m ≤ 9223372036854775807) : Calls Tryz.prog 115 #[.int .i64 x, .int .i64 m] w fun e w' => e = .returned (.int .i64 (clamp x m)) ∧ w = w' := by
  go_enter Tryz.func115, Tryz.ntmps115
  go_wp2
  all_goals
    go_ret
    refine ⟨?_, rfl⟩
    show Ending.returned (.int .i64 _) = Ending.returned (.int .i64 _)
    congr 2
    try (unfold clamp; omega)
theorem sgn_any (x : Int) (w : World) : Calls Tryz.prog 117 #[.int .i64 x] w fun e w' => e = .returned (.int .i64 (sgn x)) ∧ w = w' := by
  go_enter Tryz.func117, Tryz.ntmps117
  go_wp2
  all_goals
    go_ret
    refine ⟨?_, rfl⟩
    show Ending.returned (.int .i64 _) = Ending.returned (.int .i64 _)
    congr 2
    unfold sgn
    first | rw [if_pos (by omega)] | (rw [if_neg (by omega), if_pos (by omega)]) | rw [if_neg (by omega), if_neg (by omega)]
def Lms.cells (l : Lms) : Array Value := (iv l.ws ++ iv l.hs).toArray
theorem Lms.cells_size {l : Lms} (h : l.Ok) : l.cells.size = 16 := by simp [Lms.cells, iv_length, h.wl, h.hl]
theorem index8 (cs : Array Value) (i : Int) (v : Value) (w : World) (h0 : 0 ≤ i) (h1 : i < 8) (hv : cs[i.toNat]? = some v) : (Instr.index 117 (.agg cs) (.int .i64 i)).run Tryz.prog w = .ok v w := by
  have h2 : 0 ≤ i ∧ i < (8 : Nat) := ⟨h0, by omega⟩
  have hsz : (Go.sizeOf 3).run Tryz.prog w = .ok 1 w := by kernel_rfl
  have hag : (isAgg 3).run Tryz.prog w = .ok false w := by kernel_rfl
  unfold Instr.index
  simp only [asIntOf, Sem.run_bind, Sem.run_pure, Result.andThen_ok, run_underlying Tryz.underlying117, if_pos h2, hsz]
  simp [part, Sem.run_bind, hag, hv]
section
variable {w : World} {g : Nat} {t : TypeId} {l : Lms}
theorem lms_ws (h : Blk w g t l.cells) : w.rangeAt g 0 (iv l.ws) := fun j v hv => by
  rw [Nat.zero_add, h.cell, Lms.cells, List.getElem?_toArray, List.getElem?_append_left (List.getElem?_eq_some_iff.1 hv).1]
  exact hv
theorem lms_h (h : Blk w g t l.cells) (ok : l.Ok) {j : Nat} (hj : j < 8) : w.cell? ⟨g, 8 + j, none⟩ = some (.int .i64 (l.hs.getD j 0)) := by
  rw [h.cell, Lms.cells, List.getElem?_toArray, List.getElem?_append_right (by simp [iv_length, ok.wl]), iv_length, ok.wl, show 8 + j - 8 = j by omega]
  exact iv_getD _ _ (by rw [ok.hl]; exact hj)
theorem lms_w (h : Blk w g t l.cells) (ok : l.Ok) {j : Nat} (hj : j < 8) : w.cell? ⟨g, j, none⟩ = some (.int .i64 (l.ws.getD j 0)) := by
  rw [h.cell, Lms.cells, List.getElem?_toArray, List.getElem?_append_left (by simp [iv_length, ok.wl]; exact hj)]
  exact iv_getD _ _ (by rw [ok.wl]; exact hj)
end
theorem getD_mem' {xs : List Int} {k : Nat} (hk : k < xs.length) : xs.getD k 0 ∈ xs := by
  rw [List.getD_eq_getElem?_getD, List.getElem?_eq_getElem hk]; exact List.getElem_mem hk
set_option maxRecDepth 10000 in
theorem mayL_any (l : Lms) (w : World) (h : l.Ok) : Calls Tryz.prog 114 #[.agg l.cells] w fun e w' => e = .returned (.bool true) ∧ w.alloc (.cells l.cells 119) = w' := by
  have B := Lib.hid (Blk.new w 119 l.cells)
  have H := Lib.hid h
  clear h
  go_enter Tryz.func114, Tryz.ntmps114
  go_wp2_with (refine wpList_load_mid rfl 117 (.tmp 5) rfl w.heap.size 0 rfl (iv l.ws) _ (lms_ws B.out) Tryz.underlying117 rfl (by rw [iv_length, H.out.wl]; kernel_rfl) ?_)
  go_loop [7] (fun a => ∃ j : Nat, j ≤ 8 ∧ a = .int .i64 j) (fun a => 8 - (intOf a).toNat)
  case atStart => exact ⟨0, by omega, rfl⟩
  case round =>
    obtain ⟨j, hj, rfl⟩ := hrel
    by_cases hlt : j < 8
    · have ix := fun W => index8 (iv l.ws).toArray (j : Int) _ W (by omega) (by omega) (by simp only [List.getElem?_toArray, Int.toNat_natCast]; exact iv_getD l.ws j (by rw [H.out.wl]; exact hlt))
      have hc := lms_h B.out H.out hlt
      have b0 := H.out.w _ (getD_mem' (k := j) (by rw [H.out.wl]; exact hlt))
      have b1 := H.out.h _ (getD_mem' (k := j) (by rw [H.out.hl]; exact hlt))
      obtain ⟨x, hx⟩ : ∃ x, l.ws.getD j 0 = x := ⟨_, rfl⟩
      obtain ⟨y, hy⟩ : ∃ y, l.hs.getD j 0 = y := ⟨_, rfl⟩
      rw [hx] at ix b0
      rw [hy] at hc b1
      clear hx hy
      have q0 : (0 : Int) ≤ j := by omega
      have q1 : (j : Int) < 8 := by omega
      go_wp2_with (first | (go_at_call_of 116 x; refine (in_yes x _ _ (by omega) (by omega) (by omega)).mono ?_; rintro e w' ⟨rfl, rfl⟩) | (go_at_call_of 116 y; refine (in_yes y _ _ (by omega) (by omega) (by omega)).mono ?_; rintro e w' ⟨rfl, rfl⟩))
      go_round
      case rel => exact ⟨j + 1, by omega, by go_num⟩
      case measure => simp [intOf]; omega
    · go_wp2
      go_ret
      exact ⟨rfl, rfl⟩
theorem dot_drop : ∀ (ws hs : List Int) (j : Nat), j < ws.length → j < hs.length → dot (ws.drop j) (hs.drop j) = ws.getD j 0 * hs.getD j 0 + dot (ws.drop (j + 1)) (hs.drop (j + 1))
  | w :: ws, h :: hs, 0, _, _ => by simp [dot]
  | w :: ws, h :: hs, j + 1, a, b => by
    have := dot_drop ws hs j (by simpa using a) (by simpa using b)
    simpa using this
set_option maxRecDepth 10000 in
theorem guessL_any (l : Lms) (w : World) (h : l.Ok) : Calls Tryz.prog 99 #[.agg l.cells] w fun e w' => e = .returned (.tuple #[.int .i64 l.guess, .int .i64 0]) ∧ Below w.heap.size w w' := by
  have B := Lib.hid (Blk.new w 119 l.cells)
  have H := Lib.hid h
  have hsz := Lms.cells_size h
  clear h
  go_enter Tryz.func99, Tryz.ntmps99
  go_wp2_with (first | (refine wpList_load_row rfl 119 (.tmp 1) rfl w.heap.size rfl 119 l.cells (0, 0) _ B.out Tryz.underlying119 rfl (by rw [hsz]; kernel_rfl) ?_) | (go_at_call 114; refine (mayL_any l _ H.out).mono ?_; rintro e w' ⟨rfl, rfl⟩) | (refine wpList_load_mid rfl 117 (.tmp 10) rfl w.heap.size 0 rfl (iv l.ws) _ (lms_ws (B.out.alloc _)) Tryz.underlying117 rfl (by rw [iv_length, H.out.wl]; kernel_rfl) ?_))
  go_loop [4, 12] (fun a b => ∃ (j : Nat) (s : Int), j ≤ 8 ∧ b = .int .i64 j ∧ a = .int .i64 s ∧ s + dot (l.ws.drop j) (l.hs.drop j) = dot l.ws l.hs ∧ -4398046511104 * j ≤ s ∧ s ≤ 4398046511104 * j) (fun a b => 8 - (intOf b).toNat)
  case atStart => exact ⟨0, 0, by omega, rfl, rfl, by simp, by omega, by omega⟩
  case round =>
    obtain ⟨j, s, hj, rfl, rfl, hd, s0, s1⟩ := hrel
    have hd' := Lib.hid hd
    clear hd
    by_cases hlt : j < 8
    · have ix := fun W => index8 (iv l.ws).toArray (j : Int) _ W (by omega) (by omega) (by simp only [List.getElem?_toArray, Int.toNat_natCast]; exact iv_getD l.ws j (by rw [H.out.wl]; exact hlt))
      have hc := lms_h (B.out.alloc (.cells l.cells 119)) H.out hlt
      have b0 := H.out.w _ (getD_mem' (k := j) (by rw [H.out.wl]; exact hlt))
      have b1 := H.out.h _ (getD_mem' (k := j) (by rw [H.out.hl]; exact hlt))
      have ed := dot_drop l.ws l.hs j (by rw [H.out.wl]; exact hlt) (by rw [H.out.hl]; exact hlt)
      obtain ⟨x, hx⟩ : ∃ x, l.ws.getD j 0 = x := ⟨_, rfl⟩
      obtain ⟨y, hy⟩ : ∃ y, l.hs.getD j 0 = y := ⟨_, rfl⟩
      rw [hx] at ix b0
      rw [hy] at hc b1
      rw [hx, hy] at ed
      have ed' := Lib.hid ed
      have mb := mul_bd (a := 1048576) (b := 4194304) b0 b1
      obtain ⟨z, hz⟩ : ∃ z, x * y = z := ⟨_, rfl⟩
      rw [hz] at mb
      clear hx hy ed
      have q0 : (0 : Int) ≤ j := by omega
      have q1 : (j : Int) < 8 := by omega
      have hz' := hz
      go_wp2
      go_round
      case rel => exact ⟨j + 1, s + z, by omega, by go_num, by go_num, by rw [← hd'.out, ed'.out, hz]; omega, by omega, by omega⟩
      case measure => simp [intOf]; omega
    · obtain rfl : j = 8 := by omega
      go_wp2_with (go_at_call 115; refine (boundL_any _ _ _ (by omega) (by omega)).mono ?_; rintro e w' ⟨rfl, rfl⟩)
      go_ret2
      have e8 : l.ws.drop 8 = [] := List.drop_eq_nil_of_le (by rw [H.out.wl]; omega)
      have es : s = dot l.ws l.hs := by have := hd'.out; rw [e8] at this; simpa [dot] using this
      refine ⟨?_, by go_grown⟩
      rw [es]
      rfl
theorem stepW_getD (way : Int) : ∀ (ws hs : List Int) (j : Nat), j < ws.length → j < hs.length → (stepW way ws hs).getD j 0 = clamp (ws.getD j 0 + 16 * way * sgn (hs.getD j 0)) 1048576
  | w :: ws, h :: hs, 0, _, _ => by simp [stepW]
  | w :: ws, h :: hs, j + 1, a, b => by
    have := stepW_getD way ws hs j (by simpa using a) (by simpa using b)
    simpa [stepW] using this
/-- Weights of which j have stepped. -/
def midW (l : Lms) (way : Int) (j : Nat) : Lms := ⟨(stepW way l.ws l.hs).take j ++ l.ws.drop j, l.hs⟩
theorem mid_step (l : Lms) (way : Int) (j : Nat) (v : Int) (h1 : l.ws.length = 8) (h2 : (stepW way l.ws l.hs).length = 8) (hj : j < 8) (hv : (stepW way l.ws l.hs).getD j 0 = v) :
    (midW l way j).cells.setIfInBounds j (.int .i64 v) = (midW l way (j + 1)).cells := by
  apply Array.ext'
  simp only [Lms.cells, Array.toList_setIfInBounds, List.toList_toArray, iv, midW]
  rw [List.set_append_left _ _ (by simp [h1, h2]; omega), ← List.map_set, List.set_append_right _ _ (by rw [List.length_take]; omega), List.length_take, show j - min j (stepW way l.ws l.hs).length = 0 by omega, List.drop_eq_getElem_cons (by omega : j < l.ws.length), List.set_cons_zero]
  have et : (stepW way l.ws l.hs).take (j + 1) = (stepW way l.ws l.hs).take j ++ [v] := by
    rw [List.take_add_one, List.getElem?_eq_getElem (by omega)]
    rw [List.getD_eq_getElem?_getD, List.getElem?_eq_getElem (by omega)] at hv
    simp at hv
    simp [hv]
  rw [et]
  simp only [List.append_assoc, List.map_append, List.map_cons, List.map_nil, List.cons_append, List.nil_append]
theorem hist_row (S H : List Int) (cs : List Value) (hS : S.length = 8) (hH : H.length = 8) (x : Int) :
    ((iv S ++ iv H).toArray.toList.take 9 ++ (iv (H.take 7) ++ (iv S ++ iv H).toArray.toList.drop (9 + (iv (H.take 7)).length))).toArray.setIfInBounds 8 (.int .i64 x) = (Lms.mk S (x :: H.take 7)).cells ∧
    ((iv S ++ iv H).toArray.toList.take 9 ++ (iv (H.take 7) ++ (iv S ++ iv H).toArray.toList.drop (9 + (iv (H.take 7)).length))).toArray[8]? = some (.int .i64 (H.getD 0 0)) := by
  match H, hH with
  | h0 :: tl, hH =>
    have hl : tl.length = 7 := by simpa using hH
    have e1 : (iv S ++ iv (h0 :: tl)).toArray.toList.take 9 = iv S ++ [.int .i64 h0] := by
      rw [List.toList_toArray, List.take_append, List.take_of_length_le (by rw [iv_length, hS]; omega), iv_length, hS]
      rfl
    have e2 : (iv S ++ iv (h0 :: tl)).toArray.toList.drop (9 + (iv ((h0 :: tl).take 7)).length) = [] := List.drop_eq_nil_of_le (by simp [iv_length, hS, hl])
    rw [e1, e2, List.append_nil, List.append_assoc]
    constructor
    · apply Array.ext'
      simp only [Lms.cells, Array.toList_setIfInBounds, List.toList_toArray]
      rw [List.set_append_right _ _ (by rw [iv_length, hS]; omega), iv_length, hS]
      rfl
    · rw [List.getElem?_toArray, List.getElem?_append_right (by rw [iv_length, hS]; omega), iv_length, hS]
      rfl
theorem sgn_bd (x : Int) : -1 ≤ sgn x ∧ sgn x ≤ 1 := by unfold sgn; split <;> (try split) <;> omega
set_option maxRecDepth 10000 in
set_option maxHeartbeats 1000000 in
theorem learnL_any (l : Lms) (x : Int) (w : World) (h : l.Ok) (x0 : -4194304 ≤ x) (x1 : x ≤ 4194304) :
    Calls Tryz.prog 100 #[.agg l.cells, .int .i64 x] w fun e w' => e = .returned (.tuple #[.agg (l.learn x).cells, .int .i64 0]) ∧ Below w.heap.size w w' := by
  have B := Lib.hid (Blk.new w 119 l.cells)
  have H := Lib.hid h
  have hsz := Lms.cells_size h
  obtain ⟨q, hq⟩ : ∃ q, l.guess = q := ⟨_, rfl⟩
  have qb : -1048576 ≤ q ∧ q ≤ 1048576 := hq ▸ guess_bd l
  have HG := Lib.hid (fun W => hq ▸ guessL_any l W h)
  obtain ⟨way, hw⟩ : ∃ way, sgn (x - q) = way := ⟨_, rfl⟩
  have wb := hw ▸ sgn_bd (x - q)
  have el : l.learn x = ⟨stepW way l.ws l.hs, x :: l.hs.take 7⟩ := by unfold Lms.learn; rw [hq, hw]
  rw [el]
  have HW := Lib.hid (fun W => hw ▸ sgn_any (x - q) W)
  clear h hq hw el
  go_enter Tryz.func100, Tryz.ntmps100
  go_wp2_with (first | (refine wpList_load_row rfl 119 (.tmp 2) rfl w.heap.size rfl 119 l.cells (0, 0) _ (B.out.alloc _) Tryz.underlying119 rfl (by rw [hsz]; kernel_rfl) ?_))
  refine (HG.out _).mono ?_
  rintro e w1 ⟨rfl, hb1⟩
  have HB1 := Lib.hid hb1
  clear hb1
  go_wp2_with (first | (go_at_call 116; refine (in_yes x _ _ (by omega) (by omega) (by omega)).mono ?_; rintro e w' ⟨rfl, rfl⟩))
  go_wp2_with (first | (go_at_call 117; refine (HW.out _).mono ?_; rintro e w' ⟨rfl, rfl⟩))
  obtain ⟨Z, hZ⟩ : ∃ Z : Array Value, Z = #[.int .i64 0, .int .i64 0, .int .i64 0, .int .i64 0, .int .i64 0, .int .i64 0, .int .i64 0, .int .i64 0, .int .i64 0, .int .i64 0, .int .i64 0, .int .i64 0, .int .i64 0, .int .i64 0, .int .i64 0, .int .i64 0] := ⟨_, rfl⟩
  have B0 : Blk w1 w.heap.size 119 (midW l way 0).cells := by
    have e : (midW l way 0).cells = l.cells := by simp [midW, Lms.cells]
    rw [e]
    exact (B.out.alloc _).kept HB1.out
  have Z0 : Blk w1 (w.heap.size + 1) 119 Z := by
    rw [hZ]; exact (Blk.new1 w _ 119 #[.int .i64 0, .int .i64 0, .int .i64 0, .int .i64 0, .int .i64 0, .int .i64 0, .int .i64 0, .int .i64 0, .int .i64 0, .int .i64 0, .int .i64 0, .int .i64 0, .int .i64 0, .int .i64 0, .int .i64 0, .int .i64 0]).kept HB1.out
  have BW := Lib.hid (show Below w.heap.size w w1 from below_then (by go_grown) (by first | (simp; done) | (simp; omega)) HB1.out)
  have B0' := Lib.hid B0
  have Z0' := Lib.hid Z0
  clear B0 Z0
  go_loopg [27] 8 (fun k a wr => ∃ j : Nat, j ≤ 8 ∧ k = 8 - j ∧ a = .int .i64 j ∧ Blk wr w.heap.size 119 (midW l way j).cells ∧ Blk wr (w.heap.size + 1) 119 Z ∧ Below w.heap.size w wr)
  case atStart => exact ⟨0, by omega, rfl, rfl, B0'.out, Z0'.out, BW.out⟩
  case round =>
    obtain ⟨j, hj, hk, rfl, hb, hz, hB⟩ := hrel
    have hk' := Lib.hid hk
    have hb' := Lib.hid hb
    have hz' := Lib.hid hz
    have hB' := Lib.hid hB
    have lw : (stepW way l.ws l.hs).length = 8 := by rw [stepW_length _ _ _ (by rw [H.out.wl, H.out.hl]), H.out.wl]
    have okm : (midW l way j).Ok := ⟨by simp [midW, lw, H.out.wl]; omega, H.out.hl, fun y hy => by
      simp only [midW, List.mem_append] at hy
      rcases hy with hy | hy
      · exact stepW_bd _ _ _ _ (List.mem_of_mem_take hy)
      · exact H.out.w _ (List.mem_of_mem_drop hy), H.out.h⟩
    have okm' := Lib.hid okm
    clear hk hb hz hB okm
    by_cases hlt : j < 8
    · have c0 := lms_w hb'.out okm'.out hlt
      have c1 := lms_h hb'.out okm'.out hlt
      have f0 := hb'.out.frozen j
      have gl := hb'.out.lt
      have ew : (midW l way j).ws.getD j 0 = l.ws.getD j 0 := by
        simp only [midW, List.getD_eq_getElem?_getD]
        rw [List.getElem?_append_right (by rw [List.length_take]; omega), List.getElem?_drop]
        congr 2
        simp [lw]; omega
      obtain ⟨a0, ha⟩ : ∃ a0, l.ws.getD j 0 = a0 := ⟨_, rfl⟩
      obtain ⟨y, hy⟩ : ∃ y, l.hs.getD j 0 = y := ⟨_, rfl⟩
      have b0 := H.out.w _ (getD_mem' (k := j) (by rw [H.out.wl]; exact hlt))
      rw [ew, ha] at c0
      rw [show (midW l way j).hs = l.hs from rfl, hy] at c1
      rw [ha] at b0
      have sb := sgn_bd y
      obtain ⟨s, hs⟩ : ∃ s, sgn y = s := ⟨_, rfl⟩
      rw [hs] at sb
      have HS := Lib.hid (fun W => hs ▸ sgn_any y W)
      have zb := mul_bd (x := 16 * way) (y := s) (a := 16) (b := 1) (by omega) (by omega)
      obtain ⟨z, hz⟩ : ∃ z, 16 * way * s = z := ⟨_, rfl⟩
      rw [hz] at zb
      have ha' := Lib.hid ha
      have hy' := Lib.hid hy
      have hs' := Lib.hid hs
      have q0 : (0 : Int) ≤ j := by omega
      have q1 : (j : Int) < 8 := by omega
      clear ha hy hs ew
      go_wp2_with fail
      refine region_still_tail 17 (by kernel_rfl) (by kernel_rfl) ?_
      simp only [List.take_succ_cons, List.take_zero, List.drop_succ_cons, List.drop_zero]
      iterate 11 still_step
      still_call (still_of (HS.out _))
      still_step
      still_step
      still_call (still_of (boundL_any _ _ _ (by omega) (by omega)))
      still_step
      still_step
      refine wpStill_nil ?_
      go_wp2
      go_roundg (8 - (j + 1))
      case measure => have := hk'.out; omega
      case rel =>
        refine ⟨j + 1, by omega, rfl, by go_num, ?_, hz'.out.far (p := ⟨w.heap.size, j, none⟩) (by show w.heap.size + 1 ≠ w.heap.size; omega) _, (hB'.out.setCell (p := ⟨w.heap.size, j, none⟩) (Nat.le_refl _) _).drew⟩
        have e := hb'.out.set_ j (.int .i64 (clamp (a0 + z) 1048576))
        have e2 : (midW l way j).cells.setIfInBounds j (.int .i64 (clamp (a0 + z) 1048576)) = (midW l way (j + 1)).cells := by
          have e3 : (stepW way l.ws l.hs).getD j 0 = clamp (a0 + z) 1048576 := by
            rw [stepW_getD _ _ _ _ (by rw [H.out.wl]; exact hlt) (by rw [H.out.hl]; exact hlt), ha'.out, hy'.out, hs'.out, hz]
          exact mid_step l way j _ H.out.wl lw hlt e3
        rw [e2] at e
        exact e
    · obtain rfl : j = 8 := by omega
      have em : (midW l way 8).cells = (iv (stepW way l.ws l.hs) ++ iv l.hs).toArray := by
        simp only [midW, Lms.cells]
        rw [List.take_of_length_le (by omega), List.drop_eq_nil_of_le (by rw [H.out.wl]; omega), List.append_nil]
      have KB : Blk wr w.heap.size 119 (iv (stepW way l.ws l.hs) ++ iv l.hs).toArray := em ▸ hb'.out
      have KB' := Lib.hid KB
      have hsz1 : (Tryz.prog.info? 3).map (·.size) = some 1 := by kernel_rfl
      have Hsz := Lib.hid hsz1
      have gl := KB.lt
      have lw' := Lib.hid lw
      clear em KB hsz1 lw hb'
      go_wp2_with fail
      refine region_still_tail 4 (by kernel_rfl) (by kernel_rfl) ?_
      simp only [List.take_succ_cons, List.take_zero, List.drop_succ_cons, List.drop_zero]
      still_step
      still_step
      still_step
      still_step
      refine wpStill_nil ?_
      have hsrc : ∀ j v, (iv (l.hs.take 7))[j]? = some v → wr.drew.cell? ((⟨w.heap.size, 8, none⟩ : Addr).add j) = some v := fun j v hv => by
        have hj : j < 7 := by have := (List.getElem?_eq_some_iff.1 hv).1; simp [iv_length, H.out.hl] at this; omega
        rw [show (⟨w.heap.size, 8, none⟩ : Addr).add j = ⟨w.heap.size, 8 + j, none⟩ from Addr.add_mid _ _ _]
        show wr.cell? _ = _
        rw [KB'.out.cell, List.getElem?_toArray, List.getElem?_append_right (by rw [iv_length, lw'.out]; omega), iv_length, lw'.out, show 8 + j - 8 = j by omega]
        simp only [iv, List.map_take] at hv ⊢
        rw [List.getElem?_take_of_lt hj] at hv
        exact hv
      refine wpList_copy_own rfl (.tmp 49) (.tmp 51) 39 39 rfl 3 Tryz.underlying39 Hsz.out w.heap.size 9 7 7 ⟨w.heap.size, 8, none⟩ 7 8 (by rfl) (by rfl) (iv (stepW way l.ws l.hs) ++ iv l.hs).toArray 119 (Blk.drew KB'.out) (iv (l.hs.take 7)) (by rw [iv_length, List.length_take, H.out.hl]; rfl) hsrc (by simp only [List.size_toArray, List.length_append, iv_length, lw'.out, H.out.hl, List.length_take]; omega) (fun v hv => by simp only [iv, List.mem_map] at hv; obtain ⟨a, _, rfl⟩ := hv; rfl) ?_
      obtain ⟨R, hRr⟩ : ∃ R, R = ((iv (stepW way l.ws l.hs) ++ iv l.hs).toArray.toList.take 9 ++ (iv (l.hs.take 7) ++ (iv (stepW way l.ws l.hs) ++ iv l.hs).toArray.toList.drop (9 + (iv (l.hs.take 7)).length))).toArray := ⟨_, rfl⟩
      rw [← hRr]
      obtain ⟨w2, hw2⟩ : ∃ w2, w2 = wr.drew.setRow w.heap.size R := ⟨_, rfl⟩
      rw [← hw2]
      have K2 : Blk w2 w.heap.size 119 R := by rw [hw2]; exact setRow_heap wr.drew w.heap.size _ R 119 (0, 0) KB'.out
      have Z2 : Blk w2 (w.heap.size + 1) 119 Z := by rw [hw2]; exact (setRow_other wr.drew w.heap.size (w.heap.size + 1) R (by omega)).trans hz'.out
      have b2 : Below w.heap.size w w2 := by rw [hw2]; exact below_setRow hB'.out.drew (Nat.le_refl _) _
      have eR : R.setIfInBounds 8 (.int .i64 x) = (Lms.mk (stepW way l.ws l.hs) (x :: l.hs.take 7)).cells := by
        rw [hRr]; exact (hist_row _ _ [] lw'.out H.out.hl x).1
      have cR : w2.cell? ⟨w.heap.size, 8, none⟩ = some (.int .i64 (l.hs.getD 0 0)) := by
        rw [K2.cell, hRr]; exact (hist_row _ _ [] lw'.out H.out.hl x).2
      have fR := K2.frozen 8
      have lR := K2.lt
      have K3 := eR ▸ K2.set_ 8 (.int .i64 x)
      have Z3 := Z2.far (p := ⟨w.heap.size, 8, none⟩) (by show w.heap.size + 1 ≠ w.heap.size; omega) (.int .i64 x)
      have b3 := b2.setCell (p := ⟨w.heap.size, 8, none⟩) (Nat.le_refl _) (.int .i64 x)
      have okN : (Lms.mk (stepW way l.ws l.hs) (x :: l.hs.take 7)).cells.size = 16 := by simp [Lms.cells, iv_length, lw'.out, H.out.hl]
      obtain ⟨C, hC⟩ : ∃ C, (Lms.mk (stepW way l.ws l.hs) (x :: l.hs.take 7)).cells = C := ⟨_, rfl⟩
      have oC : C.all (·.oneCell') = true := by rw [← hC, Lms.cells, iv, iv, ← List.map_append]; exact ones_all_cells _ _
      rw [hC] at K3 okN
      have TZ := Z3.there
      rw [hZ] at TZ
      have K3' := Lib.hid K3
      have Z3' := Lib.hid Z3
      have b3' := Lib.hid b3
      have TZ' := Lib.hid TZ
      have oC' := Lib.hid oC
      have hC' := Lib.hid hC
      clear K2 Z2 b2 eR K3 Z3 b3 TZ hw2 hRr oC hC hsrc hk' KB' hz' hB'
      go_wp2_with (first | (refine wpList_load_row rfl 119 (.tmp 2) rfl w.heap.size rfl 119 C (0, 0) _ K3'.out Tryz.underlying119 rfl (by rw [okN]; kernel_rfl) ?_) | (refine wpList_store_mid rfl 119 (.tmp 4) (.tmp 56) rfl (w.heap.size + 1) 0 C rfl rfl (by rw [okN]; exact TZ'.out) (by rw [okN]; kernel_rfl) oC'.out ?_))
      have zs : Z.size = 16 := by rw [hZ]; rfl
      have KF := Z3'.out.setAll C.toList (by rw [Array.length_toList, okN, zs])
      simp only [Array.toArray_toList] at KF
      refine bodyPost_ret (res_cell_tmp (by rfl) _ _ _ 119 C _ (by rfl) KF Tryz.underlying119 rfl (by rw [okN]; kernel_rfl)) rfl ⟨?_, below_setCells (by omega) _ _ _ b3'.out⟩
      rw [hC'.out]
      rfl
end Dsc
end
section
/- The walks of packages gamma, fold, context. -/
set_option linter.unusedVariables false
set_option linter.unusedSimpArgs false
namespace Dsc
open Go Go.RowKit
open Go.Proofs

theorem drop_cons {xs : List Int} {k : Nat} (hk : k < xs.length) : xs.drop k = xs.getD k 0 :: xs.drop (k + 1) := by
  rw [List.drop_eq_getElem_cons hk, List.getD_eq_getElem?_getD, List.getElem?_eq_getElem hk]; rfl
theorem ones_any (A : Option Addr) (c : Nat) (bs : List Int) (w : World) (hR : RI w A bs) (hl : bs.length ≤ 1000000) :
    Calls Tryz.prog 106 #[.slice A bs.length c] w fun e w' => e = .returned (.tuple #[.int .i64 (ones bs), .bool (zeroed bs)]) ∧ w = w' := by
  have hR' := Lib.hid hR
  clear hR
  go_enter Tryz.func106, Tryz.ntmps106
  go_wp2_with fail
  go_loop [8] (fun a => ∃ k : Nat, k ≤ bs.length ∧ a = .int .i64 k ∧ ones bs = k + ones (bs.drop k) ∧ zeroed bs = zeroed (bs.drop k)) (fun a => bs.length - (intOf a).toNat)
  case atStart => exact ⟨0, by omega, rfl, by simp, by simp⟩
  case round =>
    obtain ⟨k, hk, rfl, h1, h2⟩ := hrel
    have h1' := Lib.hid h1
    have h2' := Lib.hid h2
    clear h1 h2
    by_cases hlt : k < bs.length
    · obtain ⟨ad, rfl, hc⟩ := hR'.out.at_ hlt
      have hd := Lib.hid (drop_cons hlt)
      obtain ⟨x, hx⟩ : ∃ x, bs.getD k 0 = x := ⟨_, rfl⟩
      rw [hx] at hc
      have hx' := Lib.hid hx
      clear hx
      by_cases h1 : x = 1
      · have hb : (x != 1) = false := by simp [h1]
        have H1 := Lib.hid h1
        clear h1
        go_wp2
        go_round
        case rel =>
          refine ⟨k + 1, by omega, by go_num, ?_, ?_⟩
          · rw [h1'.out, hd.out, hx'.out, ones, if_pos H1.out]; omega
          · rw [h2'.out, hd.out, hx'.out, zeroed, if_pos H1.out]
        case measure => simp [intOf]; omega
      · have hb : (x != 1) = true := by simp [h1]
        have H1 := Lib.hid h1
        clear h1
        go_wp2
        go_ret2
        have e1 : ones bs = k := by rw [h1'.out, hd.out, hx'.out, ones, if_neg H1.out]; omega
        have e2 : zeroed bs = (x == 0) := by
          rw [h2'.out, hd.out, hx'.out, zeroed, if_neg H1.out]
          rw [Bool.eq_iff_iff]; simp
        rw [e1, e2]
        exact ⟨rfl, rfl⟩
    · go_wp2
      go_ret2
      have e0 : bs.drop k = [] := List.drop_eq_nil_of_le (by omega)
      have e1 : ones bs = bs.length := by rw [h1'.out, e0]; show k + 0 = _; omega
      have e2 : zeroed bs = false := by rw [h2'.out, e0]; rfl
      rw [e1, e2]
      exact ⟨rfl, rfl⟩
theorem ones_le : ∀ bs : List Int, ones bs ≤ bs.length
  | [] => by simp [ones]
  | b :: bs => by have := ones_le bs; simp only [ones, List.length_cons]; split <;> omega
theorem whole_any (A : Option Addr) (c : Nat) (bs : List Int) (w : World) (hR : RI w A bs) (hl : bs.length ≤ 1000000) :
    Calls Tryz.prog 110 #[.slice A bs.length c] w fun e w' => e = .returned (.bool (whole bs)) ∧ w = w' := by
  have O := Lib.hid (ones_any A c bs w hR hl)
  have ol := ones_le bs
  obtain ⟨n, hn⟩ : ∃ n, ones bs = n := ⟨_, rfl⟩
  obtain ⟨z, hz⟩ : ∃ z, zeroed bs = z := ⟨_, rfl⟩
  have hw : whole bs = (z && decide (bs.length = 2 * n + 1)) := by rw [← hn, ← hz]; rfl
  rw [hn] at O ol
  rw [hz] at O
  have hw' := Lib.hid hw
  clear hR hn hz hw
  cases z
  · go_enter Tryz.func110, Tryz.ntmps110
    go_wp2_with (go_at_call 106; refine (O.out).mono ?_; rintro e w' ⟨rfl, rfl⟩)
    go_ret
    exact ⟨by rw [hw'.out]; rfl, rfl⟩
  · go_enter Tryz.func110, Tryz.ntmps110
    go_wp2_with (go_at_call 106; refine (O.out).mono ?_; rintro e w' ⟨rfl, rfl⟩)
    go_ret
    refine ⟨ret_bool ?_, rfl⟩
    rw [hw'.out]
    rw [Bool.eq_iff_iff]
    simp
    omega
theorem foldPut_any (x : Int) (w : World) (h0 : -16777216 ≤ x) (h1 : x ≤ 16777216) : Calls Tryz.prog 84 #[.int .i64 x] w fun e w' => e = .returned (.tuple #[.int .i64 (fput x), .int .i64 0]) ∧ w = w' := by
  go_enter Tryz.func84, Tryz.ntmps84
  go_wp2
  all_goals
    go_ret2
    exact ⟨ret_int2 (by unfold fput; first | (rw [if_pos (by omega)]) | (rw [if_neg (by omega)])) rfl, rfl⟩
theorem foldPut_no (x : Int) (w : World) (h : x < -16777216 ∨ 16777216 < x) : Calls Tryz.prog 84 #[.int .i64 x] w fun e w' => e = .returned (.tuple #[.int .i64 0, .int .i64 1000]) ∧ w = w' := by
  rcases h with h | h
  · go_enter Tryz.func84, Tryz.ntmps84
    go_wp2
    go_ret2
    exact ⟨rfl, rfl⟩
  · have hd : decide (x ≤ 16777216) = false := by simp; omega
    go_enter Tryz.func84, Tryz.ntmps84
    go_wp2
    go_ret2
    exact ⟨rfl, rfl⟩
theorem foldGet_any (u : Int) (w : World) (h0 : 0 ≤ u) (h1 : u ≤ 33554432) : Calls Tryz.prog 113 #[.int .i64 u] w fun e w' => e = .returned (.tuple #[.int .i64 (fget u), .int .i64 0]) ∧ w = w' := by
  by_cases h : u % 2 = 1
  · have hb : (u % 2 == 1) = true := by simp [h]
    have H := Lib.hid h
    clear h
    go_enter Tryz.func113, Tryz.ntmps113
    go_wp2
    go_ret2
    exact ⟨ret_int2 (by unfold fget; rw [if_pos H.out]) rfl, rfl⟩
  · have hb : (u % 2 == 1) = false := by simp [h]
    have H := Lib.hid h
    clear h
    go_enter Tryz.func113, Tryz.ntmps113
    go_wp2
    go_ret2
    exact ⟨ret_int2 (by unfold fget; rw [if_neg H.out]) rfl, rfl⟩
end Dsc
end
section
/- The walks of package context. -/
set_option linter.unusedVariables false
set_option linter.unusedSimpArgs false
namespace Dsc
open Go Go.RowKit
open Go.Proofs

theorem least_any (x : Int) (w : World) : Calls Tryz.prog 129 #[.int .i64 x] w fun e w' => e = .returned (.int .i64 (min x 31)) ∧ w = w' := by
  go_enter Tryz.func129, Tryz.ntmps129
  go_wp2
  all_goals go_ret
  all_goals first
    | exact ⟨rfl, rfl⟩
    | exact ⟨by rw [Int.min_eq_right (by omega)]; rfl, rfl⟩
    | exact ⟨by rw [Int.min_eq_left (by omega)]; rfl, rfl⟩
theorem odd_any (x : Int) (w : World) : Calls Tryz.prog 128 #[.int .i64 x] w fun e w' => e = .returned (.bool (x != 0 && x != 1)) ∧ w = w' := by
  go_enter Tryz.func128, Tryz.ntmps128
  go_wp2
  all_goals go_ret
  · subst_vars; exact ⟨rfl, rfl⟩
  · exact ⟨rfl, rfl⟩
theorem getD_mem {xs : List Int} {k : Nat} (hk : k < xs.length) : xs.getD k 0 ∈ xs := by
  rw [List.getD_eq_getElem?_getD, List.getElem?_eq_getElem hk]; exact List.getElem_mem hk
set_option maxRecDepth 10000 in
theorem idx_any (A : Option Addr) (c : Nat) (bs : List Int) (k : Nat) (p : Int → Bool) (w : World) (hR : RI w A bs) (hl : bs.length ≤ 1000000)
    (hcf : ∀ x W, (callFunc k #[.int .i64 x]).run Tryz.prog W = .ok (.enter k #[.int .i64 x]) W)
    (hf : ∀ x ∈ bs, ∀ W, Calls Tryz.prog k #[.int .i64 x] W fun e w' => e = .returned (.bool (p x)) ∧ W = w') :
    Calls Tryz.prog 75 #[.slice A bs.length c, .func (.func k) #[] #[]] w fun e w' => ∃ r : Int, e = .returned (.int .i64 r) ∧ (0 ≤ r ↔ bs.any p = true) ∧ -1 ≤ r ∧ r < 1000000 ∧ ∃ n, w.drewN n = w' := by
  have hR' := Lib.hid hR
  have hf' := Lib.hid hf
  clear hR hf
  go_enter Tryz.func75, Tryz.ntmps75
  go_wp2_with fail
  go_loopg [8] bs.length (fun g a wr => ∃ k : Nat, k ≤ bs.length ∧ g = bs.length - k ∧ a = .int .i64 k ∧ bs.any p = (bs.drop k).any p ∧ ∃ n, w.drewN n = wr)
  case atStart => exact ⟨0, by omega, by omega, rfl, by simp, 0, rfl⟩
  case round =>
    obtain ⟨j, hj, hk, rfl, hx, nd, rfl⟩ := hrel
    have hk' := Lib.hid hk
    have hx' := Lib.hid hx
    clear hk hx
    by_cases hlt : j < bs.length
    · have q0 : (0 : Int) ≤ j := by omega
      have q1 : (j : Int) < bs.length := by omega
      obtain ⟨ad, rfl, hc⟩ := hR'.out.at_ hlt
      obtain ⟨x, hx⟩ : ∃ x, bs.getD j 0 = x := ⟨_, rfl⟩
      rw [hx] at hc
      have hx2 := Lib.hid hx
      clear hx
      go_wp2_with fail
      refine (hf'.out x (hx2.out ▸ getD_mem hlt) _).mono ?_
      rintro e w' ⟨rfl, rfl⟩
      have hd : (bs.drop j).any p = (p x || (bs.drop (j + 1)).any p) := by rw [drop_cons hlt, hx2.out]; rfl
      have hd' := Lib.hid hd
      clear hd
      cases hp : p x
      · go_wp2
        go_roundg (bs.length - (j + 1))
        case measure => have := hk'.out; omega
        case rel => exact ⟨j + 1, by omega, rfl, by go_num, by rw [hx'.out, hd'.out, hp]; rfl, nd, rfl⟩
      · go_wp2
        refine bodyPost_ret (v := .int .i64 j) (by simp [results, Tryz.results75, go_sem]) rfl ?_
        exact ⟨j, rfl, ⟨fun _ => by rw [hx'.out, hd'.out, hp]; rfl, fun _ => by omega⟩, by omega, by omega, nd, rfl⟩
    · go_wp2
      refine bodyPost_ret (v := .int .i64 (-1)) (by simp [results, Tryz.results75, go_sem]) rfl ?_
      have e : bs.any p = false := by rw [hx'.out, List.drop_eq_nil_of_le (by omega)]; rfl
      exact ⟨-1, rfl, ⟨fun h => absurd h (by omega), fun h => by rw [e] at h; cases h⟩, by omega, by omega, nd, rfl⟩
theorem cont_any (A : Option Addr) (c : Nat) (bs : List Int) (k : Nat) (p : Int → Bool) (w : World) (hR : RI w A bs) (hl : bs.length ≤ 1000000)
    (hcf : ∀ x W, (callFunc k #[.int .i64 x]).run Tryz.prog W = .ok (.enter k #[.int .i64 x]) W)
    (hf : ∀ x ∈ bs, ∀ W, Calls Tryz.prog k #[.int .i64 x] W fun e w' => e = .returned (.bool (p x)) ∧ W = w') :
    Calls Tryz.prog 53 #[.slice A bs.length c, .func (.func k) #[] #[]] w fun e w' => e = .returned (.bool (bs.any p)) ∧ ∃ n, w.drewN n = w' := by
  have H := idx_any A c bs k p w hR hl hcf hf
  clear hcf hf hR
  go_enter Tryz.func53, Tryz.ntmps53
  go_wp2_with fail
  refine H.mono ?_
  rintro e w' ⟨r, rfl, h1, h2, h3, nd, rfl⟩
  have hb : decide (0 ≤ r) = bs.any p := by rw [Bool.eq_iff_iff]; simpa using h1
  have hb' := Lib.hid hb
  clear hb h1
  go_wp2
  go_ret
  exact ⟨by rw [← hb'.out]; rfl, nd, rfl⟩
theorem three_fin {W : World} {g B : Nat} {t : TypeId} {w : World} {u v s : Value} (h : Blk W g t #[u, v, s]) (hb : Below B w W) (hB : B ≤ g) (x y z : Value) (o : Obj) :
    Blk ((((W.setCell ⟨g, 0, none⟩ x).setCell ⟨g, 1, none⟩ y).setCell ⟨g, 2, none⟩ z).alloc o) g t #[x, y, z] ∧ Below B w ((((W.setCell ⟨g, 0, none⟩ x).setCell ⟨g, 1, none⟩ y).setCell ⟨g, 2, none⟩ z).alloc o) := by
  refine ⟨((((h.set_ 0 x).set_ 1 y).set_ 2 z)).alloc o, ?_⟩
  have b3 := ((hb.setCell (p := ⟨g, 0, none⟩) hB x).setCell (p := ⟨g, 1, none⟩) hB y).setCell (p := ⟨g, 2, none⟩) hB z
  exact b3.alloc (by have := b3.size; have := h.lt; simp; omega) o
set_option maxRecDepth 10000 in
set_option maxHeartbeats 1000000 in
theorem of_any (before : Int) (A : Option Addr) (c : Nat) (bs : List Int) (w : World) (hR : RI w A bs) (hl : bs.length ≤ 63) (h0 : 0 ≤ before) (h1 : before ≤ 63) (hb : ∀ b ∈ bs, b = 0 ∨ b = 1) :
    Calls Tryz.prog 120 #[.int .i64 before, .slice A bs.length c] w fun e w' => e = .returned (.tuple #[.agg (i3 (ctxOf before bs).x0 (ctxOf before bs).x1 (ctxOf before bs).x2), .int .i64 0]) ∧ Below w.heap.size w w' := by
  go_enter Tryz.func120, Tryz.ntmps120
  go_wp2_with fail
  refine (cont_any A c bs 128 (fun x => x != 0 && x != 1) _ (hR.kept (by go_grown)) (by omega) (fun _ _ => rfl) (fun x _ W => odd_any x W)).mono ?_
  rintro e w' ⟨rfl, nd, rfl⟩
  have hany : (bs.any fun x => x != 0 && x != 1) = false := by
    rw [List.any_eq_false]
    intro x hx
    rcases hb x hx with rfl | rfl <;> decide
  rw [hany]
  clear hany
  have HR := Lib.hid hR
  have HB := Lib.hid hb
  clear hR hb
  go_wp2_with fail
  refine (ones_any A c bs _ ?_ (by omega)).mono ?_
  · exact (HR.out.kept (by go_grown)).drewN nd
  rintro e w' ⟨rfl, rfl⟩
  obtain ⟨a, ha, a0, a1⟩ : ∃ a : Int, min (ones bs : Int) 31 = a ∧ 0 ≤ a ∧ a ≤ 31 := ⟨_, rfl, by omega, by omega⟩
  obtain ⟨b, hb, b0, b1⟩ : ∃ b : Int, min before 31 = b ∧ 0 ≤ b ∧ b ≤ 31 := ⟨_, rfl, by omega, by omega⟩
  obtain ⟨l, hl', l0, l1⟩ : ∃ l : Int, min (bs.length : Int) 31 = l ∧ 0 ≤ l ∧ l ≤ 31 := ⟨_, rfl, by omega, by omega⟩
  have La : ∀ W, Calls Tryz.prog 129 #[.int .i64 (ones bs : Int)] W fun e w' => e = .returned (.int .i64 a) ∧ W = w' := fun W => ha ▸ least_any _ W
  have Lb : ∀ W, Calls Tryz.prog 129 #[.int .i64 before] W fun e w' => e = .returned (.int .i64 b) ∧ W = w' := fun W => hb ▸ least_any _ W
  have Ll : ∀ W, Calls Tryz.prog 129 #[.int .i64 (bs.length : Int)] W fun e w' => e = .returned (.int .i64 l) ∧ W = w' := fun W => hl' ▸ least_any _ W
  have ha' := Lib.hid ha
  have hb' := Lib.hid hb
  have hl2 := Lib.hid hl'
  have LA := Lib.hid La
  have LB := Lib.hid Lb
  have LL := Lib.hid Ll
  clear ha hb hl' La Lb Ll
  obtain ⟨z, hz⟩ : ∃ z, zeroed bs = z := ⟨_, rfl⟩
  obtain ⟨o, ho⟩ : ∃ o : Nat, ones bs = o := ⟨_, rfl⟩
  rw [ho] at LA
  rw [hz, ho]
  have hz' := Lib.hid hz
  have ho' := Lib.hid ho
  clear hz ho
  go_wp2_with fail
  refine (LA.out _).mono ?_
  rintro e w' ⟨rfl, rfl⟩
  go_wp2_with fail
  refine (LB.out _).mono ?_
  rintro e w' ⟨rfl, rfl⟩
  go_wp2_with fail
  refine (LL.out _).mono ?_
  rintro e w' ⟨rfl, rfl⟩
  have BN := Lib.hid (show Below w.heap.size w ((w.alloc (.cells #[.int .i64 0, .int .i64 0, .int .i64 0] 95)).drewN nd) from below_drewN (by go_grown) nd)
  have BK := Lib.hid (show Blk ((w.alloc (.cells #[.int .i64 0, .int .i64 0, .int .i64 0] 95)).drewN nd) w.heap.size 95 #[.int .i64 0, .int .i64 0, .int .i64 0] from (Blk.new _ _ _).drewN nd)
  rcases Nat.eq_zero_or_pos bs.length with hlen | hlen
  · have hlast : bs.getLast? = none := by
      rw [List.eq_nil_of_length_eq_zero hlen]; rfl
    have hlast' := Lib.hid hlast
    clear hlast
    cases z
    · go_wp2
      obtain ⟨k1, k2⟩ := three_fin BK.out BN.out (Nat.le_refl _) (.int .i64 a) (.int .i64 (2 * b)) (.int .i64 l) (.cells #[.int .i64 a, .int .i64 (2 * b), .int .i64 l] 95)
      refine bodyPost_ret (res_cell_tmp (by rfl) _ _ _ 95 #[.int .i64 a, .int .i64 (2 * b), .int .i64 l] _ (by rfl) k1 Tryz.underlying95 rfl (by kernel_rfl)) rfl ⟨?_, k2⟩
      simp [ctxOf, i3, ha'.out, hb'.out, hl2.out, hz'.out, ho'.out, hlast'.out]
      rw [← ha'.out, ho'.out]
    · go_wp2
      obtain ⟨k1, k2⟩ := three_fin BK.out BN.out (Nat.le_refl _) (.int .i64 (a + 32)) (.int .i64 (2 * b + 1)) (.int .i64 l) (.cells #[.int .i64 (a + 32), .int .i64 (2 * b + 1), .int .i64 l] 95)
      refine bodyPost_ret (res_cell_tmp (by rfl) _ _ _ 95 #[.int .i64 (a + 32), .int .i64 (2 * b + 1), .int .i64 l] _ (by rfl) k1 Tryz.underlying95 rfl (by kernel_rfl)) rfl ⟨?_, k2⟩
      simp [ctxOf, i3, ha'.out, hb'.out, hl2.out, hz'.out, ho'.out, hlast'.out]
      rw [← ha'.out, ho'.out]
  · obtain ⟨x, hx⟩ : ∃ x, bs.getD (bs.length - 1) 0 = x := ⟨_, rfl⟩
    have hlast : bs.getLast? = some x := by
      rw [List.getLast?_eq_getElem?, ← hx, List.getD_eq_getElem?_getD, List.getElem?_eq_getElem (by omega)]; rfl
    obtain ⟨ad, rfl, hc0⟩ := HR.out.at_ (k := bs.length - 1) (by omega)
    rw [hx] at hc0
    have hc : ∀ o, (((w.alloc (.cells #[.int .i64 0, .int .i64 0, .int .i64 0] 95)).drewN nd).alloc o).cell? (ad.add (bs.length - 1)) = some (.int .i64 x) := fun o => cell_later (BN.out.alloc (by simp) o) hc0
    have hx' := Lib.hid hx
    have hlast' := Lib.hid hlast
    clear hlast hx hc0
    have q0 : ((bs.length : Int) - 1).toNat = bs.length - 1 := by omega
    have bne : (x == 1) = decide (x = 1) := rfl
    cases z
    · by_cases hx1 : x = 1
      · subst hx1
        go_wp2
        obtain ⟨k1, k2⟩ := three_fin BK.out BN.out (Nat.le_refl _) (.int .i64 a) (.int .i64 (2 * b)) (.int .i64 (l + 32)) (.cells #[.int .i64 a, .int .i64 (2 * b), .int .i64 (l + 32)] 95)
        refine bodyPost_ret (res_cell_tmp (by rfl) _ _ _ 95 #[.int .i64 a, .int .i64 (2 * b), .int .i64 (l + 32)] _ (by rfl) k1 Tryz.underlying95 rfl (by kernel_rfl)) rfl ⟨?_, k2⟩
        simp [ctxOf, i3, ha'.out, hb'.out, hl2.out, hz'.out, ho'.out, hlast'.out]
        rw [← ha'.out, ho'.out]
      · have hx2 : (x == 1) = false := by simp [hx1]
        go_wp2
        obtain ⟨k1, k2⟩ := three_fin BK.out BN.out (Nat.le_refl _) (.int .i64 a) (.int .i64 (2 * b)) (.int .i64 l) (.cells #[.int .i64 a, .int .i64 (2 * b), .int .i64 l] 95)
        refine bodyPost_ret (res_cell_tmp (by rfl) _ _ _ 95 #[.int .i64 a, .int .i64 (2 * b), .int .i64 l] _ (by rfl) k1 Tryz.underlying95 rfl (by kernel_rfl)) rfl ⟨?_, k2⟩
        simp [ctxOf, i3, ha'.out, hb'.out, hl2.out, hz'.out, ho'.out, hlast'.out, *]
        rw [← ha'.out, ho'.out]
    · by_cases hx1 : x = 1
      · subst hx1
        go_wp2
        obtain ⟨k1, k2⟩ := three_fin BK.out BN.out (Nat.le_refl _) (.int .i64 (a + 32)) (.int .i64 (2 * b + 1)) (.int .i64 (l + 32)) (.cells #[.int .i64 (a + 32), .int .i64 (2 * b + 1), .int .i64 (l + 32)] 95)
        refine bodyPost_ret (res_cell_tmp (by rfl) _ _ _ 95 #[.int .i64 (a + 32), .int .i64 (2 * b + 1), .int .i64 (l + 32)] _ (by rfl) k1 Tryz.underlying95 rfl (by kernel_rfl)) rfl ⟨?_, k2⟩
        simp [ctxOf, i3, ha'.out, hb'.out, hl2.out, hz'.out, ho'.out, hlast'.out]
        rw [← ha'.out, ho'.out]
      · have hx2 : (x == 1) = false := by simp [hx1]
        go_wp2
        obtain ⟨k1, k2⟩ := three_fin BK.out BN.out (Nat.le_refl _) (.int .i64 (a + 32)) (.int .i64 (2 * b + 1)) (.int .i64 l) (.cells #[.int .i64 (a + 32), .int .i64 (2 * b + 1), .int .i64 l] 95)
        refine bodyPost_ret (res_cell_tmp (by rfl) _ _ _ 95 #[.int .i64 (a + 32), .int .i64 (2 * b + 1), .int .i64 l] _ (by rfl) k1 Tryz.underlying95 rfl (by kernel_rfl)) rfl ⟨?_, k2⟩
        simp [ctxOf, i3, ha'.out, hb'.out, hl2.out, hz'.out, ho'.out, hlast'.out, *]
        rw [← ha'.out, ho'.out]
end Dsc
end
section
/- The walks of the library's functions that this program calls: slices.Repeat at one 1. -/
set_option linter.unusedVariables false
set_option linter.unusedSimpArgs false
namespace Dsc
open Go Go.RowKit
open Go.Proofs

theorem make_ints (m : Nat) (hm : m ≤ 17592186044416) : ∀ W : World, (Instr.makeSlice 39 (.int .i64 (m : Int)) (.int .i64 (m : Int))).run Tryz.prog W = .ok (.slice (some ⟨W.heap.size, 0, none⟩) m m) (W.alloc (.cells (madeCells #[.int .i64 0] m) 3)) := fun W =>
  run_make_row' 39 3 (.int .i64 0) 8 Tryz.underlying39 info_int rfl .i64 .i64 m (by omega) (by omega) W
theorem madeInts (m : Nat) : madeCells #[Value.int .i64 0] m = (iv (List.replicate m 0)).toArray := by
  apply Array.ext'
  simp only [List.toList_toArray]
  apply List.ext_getElem
  · simp [madeCells, iv]
  · intro i h1 h2
    simp [madeCells, iv, Nat.mod_one]
theorem u64_mask32 (n : Nat) (h : n < 4294967296) : bits .and .u64 (n : Int) 4294967295 = n := by
  have := u64_and_nat n 4294967295 (by omega) (by omega)
  rw [show (4294967295 : Int) = ((4294967295 : Nat) : Int) from rfl, this]
  rw [show (4294967295 : Nat) = 2 ^ 32 - 1 from rfl, Nat.and_two_pow_sub_one_eq_mod]
  congr 1
  omega
theorem mul_any (n : Nat) (w : World) (n1 : (n : Int) ≤ 30) (m0 : bits .and .u64 (n : Int) 4294967295 = n) (m1 : bits .and .u64 1 4294967295 = 1) (m2 : bits .and .u64 0 4294967295 = 0) (m3 : (n : Int) / 4294967296 = 0) :
    Calls Tryz.prog 47 #[.int .u64 1, .int .u64 (n : Int)] w fun e w' => e = .returned (.tuple #[.int .u64 0, .int .u64 n]) ∧ w = w' := by
  have n0 : (0 : Int) ≤ n := by omega
  go_enter Tryz.func47, Tryz.ntmps47
  go_wp2
  go_ret2
  exact ⟨rfl, rfl⟩
theorem rep_src (n g0 : Nat) (w : World) (hc : w.cell? ⟨g0, 0, none⟩ = some (.int .i64 1)) : 0 < (List.replicate (min 1 n) (Value.int .i64 1)).length → (some (⟨w.heap.size, 0, none⟩ : Addr) = some ⟨w.heap.size, 0, none⟩ ∧ ∃ ad : Addr, some (⟨g0, 0, none⟩ : Addr) = some ad ∧ ∀ j v, (List.replicate (min 1 n) (Value.int .i64 1))[j]? = some v → (w.alloc (.cells (madeCells #[Value.int .i64 0] n) 3)).cell? (ad.add j) = some v) := by
  intro hp
  refine ⟨rfl, _, rfl, fun j v hv => ?_⟩
  rw [List.getElem?_replicate] at hv
  split at hv
  · obtain rfl : j = 0 := by omega
    cases hv
    exact cell_later ((Below.refl _ _).alloc (Nat.le_refl _) _) hc
  · cases hv
theorem step_copy_row {P : Program} {ops : Array Oper} {o : Oper} {a : Act} {w : World} {K : Act → World → Prop} {Q : Exit → Act → World → Prop} {E : Prop} (hgd : o.guard = none) (d s : Operand) (dT sT : TypeId)
    (ho : o.op = .call { callee := .builtin .copy, args := #[d, s], argTypes := #[dT, sT] }) (elem : TypeId) (hu : P.underlying dT = some (.slice elem)) (hsz : (P.info? elem).map (·.size) = some 1)
    (g off dLen dCap : Nat) (ad : Addr) (sLen sCap : Nat) (hd : a.eval d = .slice (some ⟨g, off, none⟩) dLen dCap) (hs : a.eval s = .slice (some ad) sLen sCap)
    (cur : Array Value) (t : TypeId) (hg : w.heap[g]? = some (.cells cur t (0, 0))) (cs : List Value) (hn : cs.length = Nat.min sLen dLen)
    (hsrc : ∀ j v, cs[j]? = some v → w.cell? (ad.add j) = some v) (hfit : off + cs.length ≤ cur.size) (h1 : ∀ v ∈ cs, v.oneCell' = true)
    (hK : K (a.put o.dst (goInt cs.length)) (w.setRow g (splice cur.toList off cs).toArray)) :
    if Region.wanted o (yielded ops a.tmps) = true then Oper.wp P o a w K Q else E := by
  have hw : Region.wanted o (yielded ops a.tmps) = true := by simp [Region.wanted, hgd]
  rw [if_pos hw]
  have hrun := run_copy_row (P := P) w dT sT o.type elem g off dLen dCap ad sLen sCap cur t cs hu hsz hg hn hsrc hfit h1
  unfold Oper.wp
  simp [execOp, ho, resolve, invoke, builtin, hd, hs, hrun, Result.andThen]
  exact hK
/-- The first j cells ones, the others none. -/
def repF (n j : Nat) : List Int := List.replicate j 1 ++ List.replicate (n - j) 0
theorem repF_length (n j : Nat) (h : j ≤ n) : (repF n j).length = n := by simp [repF]; omega
theorem splice_rep (n j c : Nat) (h : j + c ≤ n) (hc : 1 ≤ n → 1 ≤ j + c) : splice (iv (repF n j)) j (List.replicate c (Value.int .i64 1)) = iv (repF n (j + c)) := by
  unfold splice iv repF
  simp only [List.map_append, List.map_replicate, List.take_append, List.length_replicate, Nat.sub_self, List.take_zero, List.append_nil, List.drop_append, List.take_replicate, List.drop_replicate, Nat.min_self]
  rw [show j - (j + c) = 0 by omega, show n - j - (j + c - j) = n - (j + c) by omega]
  simp only [Nat.min_zero, Nat.zero_min, Nat.zero_sub, List.replicate_zero, List.nil_append, List.append_assoc]; rw [← List.append_assoc (List.replicate j _), List.replicate_append_replicate]
theorem rep_src2 (n j g : Nat) {wr : World} (hR : Blk wr g 3 (iv (repF n j)).toArray) : ∀ i v, (List.replicate (min j (n - j)) (Value.int .i64 1))[i]? = some v → wr.drew.cell? ((⟨g, 0, none⟩ : Addr).add i) = some v := by
  refine fun i v hv => ?_
  rw [List.getElem?_replicate] at hv
  split at hv
  · cases hv
    have := Blk.cell hR i
    rw [show (⟨g, 0, none⟩ : Addr).add i = ⟨g, i, none⟩ by unfold Addr.add; split <;> simp_all]
    show wr.cell? _ = _
    rw [this]
    simp only [iv, repF, List.map_append, List.map_replicate, List.getElem?_toArray]
    rw [List.getElem?_append_left (by simp; omega), List.getElem?_replicate, if_pos (by omega)]
  · cases hv
set_option maxRecDepth 10000 in
set_option maxHeartbeats 1000000 in
theorem repeat_any (n g0 : Nat) (w : World) (hc : w.cell? ⟨g0, 0, none⟩ = some (.int .i64 1)) (hn : n ≤ 30) :
    Calls Tryz.prog 102 #[.slice (some ⟨g0, 0, none⟩) 1 1, .int .i64 (n : Int)] w fun e w' => ∃ v, e = .returned v ∧ OI w' w.heap.size v (List.replicate n 1) ∧ Below w.heap.size w w' := by
  have n0 : (0 : Int) ≤ n := by omega
  have n1 : (n : Int) ≤ 30 := by omega
  have m0 : bits .and .u64 (n : Int) 4294967295 = n := u64_mask32 n (by omega)
  have m1 : bits .and .u64 1 4294967295 = 1 := u64_mask32 1 (by omega)
  have m2 : bits .and .u64 0 4294967295 = 0 := u64_mask32 0 (by omega)
  have m3 : (n : Int) / 4294967296 = 0 := by omega
  have mk := make_ints n (by omega)
  have hsz : (Tryz.prog.info? 3).map (·.size) = some 1 := by kernel_rfl
  have Hsz := Lib.hid hsz
  have Hc := Lib.hid hc
  have B0 := Lib.hid (show Blk (w.alloc (.cells (madeCells #[Value.int .i64 0] n) 3)) w.heap.size 3 (iv (repF n 0)).toArray by rw [repF, List.replicate_zero, List.nil_append, Nat.sub_zero, ← madeInts]; exact Blk.new _ _ _)
  have Hcl := Lib.hid (show (List.replicate (min 1 n) (Value.int .i64 1)).length = Nat.min 1 n by simp)
  clear hsz hc
  go_enter Tryz.func102, Tryz.ntmps102
  go_wp2_with fail
  refine (mul_any n w n1 m0 m1 m2 m3).mono ?_
  rintro e w' ⟨rfl, rfl⟩
  go_wp2_with (refine wpList_copy_splice rfl (.tmp 31) (.tmp 32) 39 39 rfl 3 Tryz.underlying39 Hsz.out (some ⟨w.heap.size, 0, none⟩) (some ⟨g0, 0, none⟩) n n 1 1 (by rfl) (by rfl) w.heap.size 0 (iv (repF n 0)) 3 B0.out (List.replicate (min 1 n) (.int .i64 1)) Hcl.out (rep_src n g0 w Hc.out) (by simp [iv, repF]; omega) (by simp [Value.oneCell']) w.heap.size w ((Below.refl _ _).alloc (Nat.le_refl _) _) (Nat.le_refl _) ?_; intro w1 hw1 hb1)
  have hw1' := Lib.hid (show Blk w1 w.heap.size 3 (iv (repF n (min 1 n))).toArray by
    have := hw1.out
    rw [splice_rep n 0 (min 1 n) (by omega) (by omega), Nat.zero_add] at this
    exact this)
  have hb1' := Lib.hid hb1
  clear hw1 hb1
  go_loopg [8] (n - min 1 n) (fun k a wr => ∃ j : Nat, j ≤ n ∧ (j = 0 → n = 0) ∧ k = n - j ∧ a = .int .i64 j ∧ Blk wr w.heap.size 3 (iv (repF n j)).toArray ∧ Below w.heap.size w wr)
  case atStart => exact ⟨min 1 n, by omega, by omega, by omega, rfl, hw1'.out, hb1'.out⟩
  case round =>
    obtain ⟨j, hj, hj0, hk, rfl, hR, hB⟩ := hrel
    have hk' := Lib.hid hk
    have hR' := Lib.hid hR
    have hB' := Lib.hid hB
    clear hk hR hB
    by_cases hlt : j < n
    · have q0 : (0 : Int) ≤ j := by omega
      have q1 : (j : Int) < n := by omega
      have q1d : decide ((j : Int) < n) = true := by simpa using q1
      have c1 : (wr.heap[w.heap.size]? = some (.cells (iv (repF n j)).toArray 3 (0, 0))) := hR'.out
      clear c1
      go_wp2_with fail
      have Hcl2 := Lib.hid (show (List.replicate (min j (n - j)) (Value.int .i64 1)).length = Nat.min j (n - j) by simp)
      go_region_law (refine step_copy_row rfl (.tmp 41) (.tmp 44) 39 39 rfl 3 Tryz.underlying39 Hsz.out w.heap.size j (n - j) (n - j) ⟨w.heap.size, 0, none⟩ j n (by simp [Act.eval, Act.put]; omega) (by simp [Act.eval, Act.put]) (iv (repF n j)).toArray 3 (Blk.drew hR'.out) (List.replicate (min j (n - j)) (.int .i64 1)) Hcl2.out (rep_src2 n j w.heap.size hR'.out) (by simp [iv, repF]; omega) (fun v hv => by rw [List.eq_of_mem_replicate hv]; rfl) ?_)
      go_wp2
      go_roundg (n - (j + min j (n - j)))
      case measure => have := hk'.out; omega
      case rel =>
        refine ⟨j + min j (n - j), by omega, by omega, rfl, ?_, ?_, ?_⟩
        · simp [goInt]; rw [IntKind.wrap_i64]; omega
        · have e := setRow_heap wr.drew w.heap.size (iv (repF n j)).toArray (splice (iv (repF n j)) j (List.replicate (min j (n - j)) (Value.int .i64 1))).toArray 3 (0, 0) hR'.out
          rw [splice_rep n j _ (by omega) (by omega)] at e
          rw [splice_rep n j _ (by omega) (by omega)]
          exact e
        · exact below_setRow hB'.out.drew (Nat.le_refl _) _
    · obtain rfl : j = n := by omega
      go_wp2
      refine bodyPost_ret (v := .slice (some ⟨w.heap.size, 0, none⟩) j j) (by simp [results, Tryz.results102, go_sem]) rfl ?_
      refine ⟨_, rfl, ?_, hB'.out⟩
      have hB2 := hR'.out
      have e : repF j j = List.replicate j 1 := by simp [repF]
      rw [e] at hB2
      exact ⟨by simp [iv], .inr ⟨w.heap.size, j, _, by simp, Nat.le_refl _, hB2, by simp, by unfold maxLen; omega, by simp [iv], by simp [iv]⟩⟩
end Dsc
end
section
/- What this claim takes of the library's contracts: the kit's own layings, in plain words. -/
namespace Go.Proofs
def Tryz.lays125_ren : Go.Shelf.Ren := ⟨fun | 125 => 101 | 128 => 118 | 129 => 119 | n => n, fun | 46 => 30 | 3 => 3 | 51 => 58 | 53 => 111 | 4 => 4 | 5 => 5 | 9 => 9 | n => n, fun | n => n⟩
theorem Tryz.lays125 : Go.Proofs.Lays.n125 Tryz.prog Tryz.lays125_ren := {
  mixed := by kernel_rfl
  f125 := Tryz.func101.trans (congrArg some (by kernel_rfl))
  f128 := Tryz.func118.trans (congrArg some (by kernel_rfl))
  f129 := Tryz.func119.trans (congrArg some (by kernel_rfl))
  t3 := Tryz.underlying3
  a3 := Tryz.isAgg3
  z3 := Tryz.sizeOf3
  v3 := Tryz.zeroValue3
  t4 := Tryz.underlying4
  a4 := Tryz.isAgg4
  z4 := Tryz.sizeOf4
  v4 := Tryz.zeroValue4
  t5 := Tryz.underlying5
  a5 := Tryz.isAgg5
  z5 := Tryz.sizeOf5
  v5 := Tryz.zeroValue5
  t9 := Tryz.underlying9
  a9 := Tryz.isAgg9
  z9 := Tryz.sizeOf9
  v9 := Tryz.zeroValue9
  t46 := Tryz.underlying30
  a46 := Tryz.isAgg30
  z46 := Tryz.sizeOf30
  v46 := Tryz.zeroValue30
  t51 := Tryz.underlying58
  a51 := Tryz.isAgg58
  z51 := Tryz.sizeOf58
  v51 := Tryz.zeroValue58
  t53 := Tryz.underlying111
  a53 := Tryz.isAgg111
  z53 := Tryz.sizeOf111
  v53 := Tryz.zeroValue111 }
theorem Tryz.bits_Len (x : Int) (w : World) (h0 : 0 ≤ x) (h1 : x ≤ 18446744073709551615) :
    Calls Tryz.prog 101 #[.int .u64 x] w fun e w' => e = .returned (.int .i64 (Lib.bitLen x.toNat)) ∧ w' = w := Any.bits_Len Tryz.lays125 x w h0 h1
def Tryz.lays105_ren : Go.Shelf.Ren := ⟨fun | 105 => 35 | 212 => 47 | 99 => 48 | 165 => 49 | 166 => 50 | 170 => 51 | 169 => 52 | 263 => 70 | 264 => 71 | 206 => 72 | 240 => 73 | 241 => 74 | 276 => 93 | 277 => 94 | n => n, fun | 9 => 9 | 3 => 3 | 4 => 4 | 20 => 20 | 0 => 0 | 46 => 30 | 109 => 74 | 5 => 5 | 72 => 79 | 76 => 83 | 51 => 58 | 146 => 109 | 53 => 111 | 148 => 112 | 70 => 77 | 37 => 29 | 75 => 82 | 127 => 114 | 164 => 140 | 80 => 85 | n => n, fun | n => n⟩
theorem Tryz.lays105 : Go.Proofs.Lays.n105 Tryz.prog Tryz.lays105_ren := {
  mixed := by kernel_rfl
  f99 := Tryz.func48.trans (congrArg some (by kernel_rfl))
  f105 := Tryz.func35.trans (congrArg some (by kernel_rfl))
  f165 := Tryz.func49.trans (congrArg some (by kernel_rfl))
  f166 := Tryz.func50.trans (congrArg some (by kernel_rfl))
  f169 := Tryz.func52.trans (congrArg some (by kernel_rfl))
  f170 := Tryz.func51.trans (congrArg some (by kernel_rfl))
  f206 := Tryz.func72.trans (congrArg some (by kernel_rfl))
  f212 := Tryz.func47.trans (congrArg some (by kernel_rfl))
  f240 := Tryz.func73.trans (congrArg some (by kernel_rfl))
  f241 := Tryz.func74.trans (congrArg some (by kernel_rfl))
  f263 := Tryz.func70.trans (congrArg some (by kernel_rfl))
  f264 := Tryz.func71.trans (congrArg some (by kernel_rfl))
  f276 := Tryz.func93.trans (congrArg some (by kernel_rfl))
  f277 := Tryz.func94.trans (congrArg some (by kernel_rfl))
  t0 := Tryz.underlying0
  a0 := Tryz.isAgg0
  z0 := Tryz.sizeOf0
  v0 := Tryz.zeroValue0
  t3 := Tryz.underlying3
  a3 := Tryz.isAgg3
  z3 := Tryz.sizeOf3
  v3 := Tryz.zeroValue3
  t4 := Tryz.underlying4
  a4 := Tryz.isAgg4
  z4 := Tryz.sizeOf4
  v4 := Tryz.zeroValue4
  t5 := Tryz.underlying5
  a5 := Tryz.isAgg5
  z5 := Tryz.sizeOf5
  v5 := Tryz.zeroValue5
  t9 := Tryz.underlying9
  a9 := Tryz.isAgg9
  z9 := Tryz.sizeOf9
  v9 := Tryz.zeroValue9
  t20 := Tryz.underlying20
  a20 := Tryz.isAgg20
  z20 := Tryz.sizeOf20
  v20 := Tryz.zeroValue20
  t37 := Tryz.underlying29
  a37 := Tryz.isAgg29
  z37 := Tryz.sizeOf29
  v37 := Tryz.zeroValue29
  t46 := Tryz.underlying30
  a46 := Tryz.isAgg30
  z46 := Tryz.sizeOf30
  v46 := Tryz.zeroValue30
  t51 := Tryz.underlying58
  a51 := Tryz.isAgg58
  z51 := Tryz.sizeOf58
  v51 := Tryz.zeroValue58
  t53 := Tryz.underlying111
  a53 := Tryz.isAgg111
  z53 := Tryz.sizeOf111
  v53 := Tryz.zeroValue111
  t70 := Tryz.underlying77
  a70 := Tryz.isAgg77
  z70 := Tryz.sizeOf77
  v70 := Tryz.zeroValue77
  t72 := Tryz.underlying79
  a72 := Tryz.isAgg79
  z72 := Tryz.sizeOf79
  v72 := Tryz.zeroValue79
  t75 := Tryz.underlying82
  a75 := Tryz.isAgg82
  z75 := Tryz.sizeOf82
  v75 := Tryz.zeroValue82
  t76 := Tryz.underlying83
  a76 := Tryz.isAgg83
  z76 := Tryz.sizeOf83
  v76 := Tryz.zeroValue83
  t109 := Tryz.underlying74
  a109 := Tryz.isAgg74
  z109 := Tryz.sizeOf74
  v109 := Tryz.zeroValue74
  t127 := Tryz.underlying114
  a127 := Tryz.isAgg114
  z127 := Tryz.sizeOf114
  v127 := Tryz.zeroValue114
  t146 := Tryz.underlying109
  a146 := Tryz.isAgg109
  z146 := Tryz.sizeOf109
  v146 := Tryz.zeroValue109
  t148 := Tryz.underlying112
  a148 := Tryz.isAgg112
  z148 := Tryz.sizeOf112
  v148 := Tryz.zeroValue112
  t164 := Tryz.underlying140
  a164 := Tryz.isAgg140
  z164 := Tryz.sizeOf140
  v164 := Tryz.zeroValue140 }
theorem Tryz.Builder_Extra_105 : Builder.Extra Tryz.prog Tryz.lays105_ren := {
  sizeBuilder := by kernel_rfl
  liesBuilder := by kernel_rfl
  t5 := Tryz.underlying5
  a5 := Tryz.isAgg5
  z5 := Tryz.sizeOf5
  v5 := Tryz.zeroValue5
  infoByte := by kernel_rfl
  cellsByte := by kernel_rfl
  sizeByte := by kernel_rfl
  neB5 := by decide }
open Go.RowKit Go.Lib in
theorem Tryz.strings_Repeat (s : ByteArray) (c : Nat) (w : World) (hc : c ≤ 9223372036854775807) (hlen : s.size * c ≤ 140737488355328) :
    Calls Tryz.prog 35 #[.string s, .int .i64 c] w fun e w' => e = .returned (.string ⟨(Lib.repeatL s.data.toList c).toArray⟩) ∧ Below w.heap.size w w' := Any.strings_Repeat Tryz.lays105 Tryz.Builder_Extra_105 s c w hc hlen
end Go.Proofs
end
section
/- The walks of gamma.Bits, gamma.Number. -/
set_option linter.unusedVariables false
set_option linter.unusedSimpArgs false
namespace Dsc
open Go Go.RowKit
open Go.Proofs

theorem len_any (v : Int) (n : Nat) (w : World) (h0 : 1 ≤ v) (h1 : v ≤ 18446744073709551615) (hn : width v = n) :
    Calls Tryz.prog 101 #[.int .u64 v] w fun e w' => e = .returned (.int .i64 ((n : Int) + 1)) ∧ w = w' := by
  refine (Tryz.bits_Len v w (by omega) h1).mono ?_
  rintro e w' ⟨rfl, rfl⟩
  refine ⟨?_, rfl⟩
  obtain ⟨a1, a2, a3⟩ := Lib.bitLenAux_bounds 64 v.toNat (by omega) (by omega)
  have e1 : v.toNat.log2 = Lib.bitLenAux 64 v.toNat - 1 := (Nat.log2_eq_iff (by omega)).2 ⟨a2, by rw [show Lib.bitLenAux 64 v.toNat - 1 + 1 = Lib.bitLenAux 64 v.toNat by omega]; exact a3⟩
  have e2 : (Lib.bitLen v.toNat : Int) = n + 1 := by
    rw [← hn]; unfold width; rw [e1]; unfold Lib.bitLen; omega
  rw [e2]
set_option maxRecDepth 10000 in
theorem bits_any (u : Int) (w : World) (h0 : 0 ≤ u) (h1 : u ≤ 33554432) :
    Calls Tryz.prog 85 #[.int .i64 u] w fun e w' => ∃ v, e = .returned (.tuple #[v, .int .i64 0]) ∧ OI w' w.heap.size v (gbits u) ∧ Below w.heap.size w w' := by
  obtain ⟨n, hn⟩ : ∃ n, width (u + 1) = n := ⟨_, rfl⟩
  have n25 : n ≤ 25 := by have := width_le (v := u + 1) (k := 26) (by omega) (by decide); omega
  have hg : gbits u = List.replicate n 1 ++ 0 :: lows (u + 1) n := by rw [← hn]; rfl
  have b0 : (u + 1) % 18446744073709551616 = u + 1 := by omega
  have n0 : (0 : Int) ≤ n := by omega
  have n1 : (n : Int) ≤ 25 := by omega
  have Hn := Lib.hid hn
  have Hg := Lib.hid hg
  clear hn hg
  go_enter Tryz.func85, Tryz.ntmps85
  go_wp2_with fail
  refine (len_any (u + 1) n w (by omega) (by omega) Hn.out).mono ?_
  rintro e w' ⟨rfl, rfl⟩
  go_wp2_with fail
  refine (repeat_any n w.heap.size (w.alloc (.cells #[.int .i64 1] 3)) ((Blk.new w 3 #[.int .i64 1]).cell 0) (by omega)).mono ?_
  rintro e w1 ⟨v1, rfl, hO1, hb1⟩
  have B1 : Below w.heap.size w w1 := below_then (by go_grown) (by simp) hb1
  have O1 := Lib.hid (hO1.mono (show w.heap.size ≤ _ by simp))
  clear hO1 hb1
  go_wp2_with (refine app_int w.heap.size rfl (.tmp 22) (.tmp 23) rfl v1 (List.replicate n 1) 0 rfl rfl O1.out (by have := B1.size; omega) (by simp; omega) ?_; intro v2 w2 O2 _ hb2)
  have O2' := Lib.hid O2
  have B2 := Lib.hid (B1.trans hb2)
  clear O2 hb2 B1
  go_loopg [6, 7] n (fun k a b wr => ∃ (j : Nat) (xs : List Int), j ≤ n ∧ k = j ∧ b = .int .i64 ((j : Int) - 1) ∧ OI wr w.heap.size a xs ∧ xs ++ lows (u + 1) j = gbits u ∧ xs.length + j = 2 * n + 1 ∧ Below w.heap.size w wr)
  case atStart => exact ⟨n, List.replicate n 1 ++ [0], Nat.le_refl _, rfl, by go_num, O2'.out, by rw [Hg.out]; simp, by simp; omega, B2.out⟩
  case round =>
    obtain ⟨j, xs, hj, hk, rfl, hO, hx, hl, hB⟩ := hrel
    have hk' := Lib.hid hk
    have hO' := Lib.hid hO
    have hx' := Lib.hid hx
    have hB' := Lib.hid hB
    clear hk hO hx hB
    by_cases hlt : 0 < j
    · have q0 : (0 : Int) ≤ (j : Int) - 1 := by omega
      have q1 : (j : Int) - 1 < 63 := by omega
      have e0 : (0 : Int) ≤ (u + 1) / 2 ^ (j - 1) := Int.ediv_nonneg (by omega) (by have : (0 : Int) < 2 ^ (j - 1) := Int.pow_pos (by decide); omega)
      have e1 : (u + 1) / 2 ^ (j - 1) ≤ u + 1 := Int.ediv_le_self _ (by omega)
      have an : bits .and .i64 ((u + 1) / 2 ^ (j - 1)) 1 = (u + 1) / 2 ^ (j - 1) % 2 := and_mask 1 (by omega) ((u + 1) / 2 ^ (j - 1)) e0 (by omega)
      clear e0 e1
      go_wp2_with (refine app_int w.heap.size rfl (.tmp 31) (.tmp 36) rfl u6 xs ((u + 1) / 2 ^ (j - 1) % 2) rfl rfl hO'.out (by have := hB'.out.size; omega) (by omega) ?_; intro v3 w3 O3 _ hb3)
      go_roundg (j - 1)
      case measure => have := hk'.out; omega
      case rel =>
        refine ⟨j - 1, _, by omega, rfl, by go_num, O3, ?_, by simp; omega, hB'.out.trans hb3⟩
        rw [← hx'.out]
        obtain ⟨i, rfl⟩ : ∃ i, j = i + 1 := ⟨j - 1, by omega⟩
        simp [lows]
    · obtain rfl : j = 0 := by omega
      go_wp2
      go_ret2
      have e : xs = gbits u := by rw [← hx'.out]; simp [lows]
      exact ⟨_, rfl, e ▸ hO'.out, hB'.out⟩
end Dsc
end
section
/- The walks of package coder. -/
set_option linter.unusedVariables false
set_option linter.unusedSimpArgs false
namespace Dsc
open Go Go.RowKit
open Go.Proofs

theorem chance_any (p : Int) (w : World) : Calls Tryz.prog 122 #[.int .i64 p] w fun e w' => e = .returned (.bool (decide (1 ≤ p) && decide (p ≤ 4095))) ∧ w = w' := by
  go_enter Tryz.func122, Tryz.ntmps122
  go_wp2
  all_goals go_ret
  all_goals (refine ⟨?_, rfl⟩; simp; try omega)
theorem ends_any (l h : Int) (w : World) (h0 : 0 ≤ l) (h1 : l ≤ 4294967295) (h2 : 0 ≤ h) (h3 : h ≤ 4294967295) :
    Calls Tryz.prog 107 #[.int .i64 l, .int .i64 h] w fun e w' => e = .returned (.bool (decide (l / 16777216 < h / 16777216))) ∧ w = w' := by
  go_enter Tryz.func107, Tryz.ntmps107
  go_wp2
  all_goals go_ret
  all_goals (refine ⟨?_, rfl⟩; simp; try omega)
theorem mid_any (l h p : Int) (w : World) (h0 : 0 ≤ l) (h1 : l < h) (h2 : h ≤ 4294967295) (h3 : 1 ≤ p) (h4 : p ≤ 4095) :
    Calls Tryz.prog 123 #[.int .i64 l, .int .i64 h, .int .i64 p] w fun e w' => e = .returned (.int .i64 (mid l h p)) ∧ w = w' := by
  have ha : 0 ≤ (h - l) / 4096 := by omega
  have hb : 0 ≤ (h - l) % 4096 := by omega
  have e1 : 0 ≤ (h - l) / 4096 * p := Int.mul_nonneg ha (by omega)
  have e2 : 0 ≤ (h - l) % 4096 * p := Int.mul_nonneg hb (by omega)
  have e3 : (h - l) / 4096 * p ≤ (h - l) / 4096 * 4095 := Int.mul_le_mul_of_nonneg_left h4 ha
  have e4 : (h - l) % 4096 * p ≤ (h - l) % 4096 * 4095 := Int.mul_le_mul_of_nonneg_left h4 hb
  go_enter Tryz.func123, Tryz.ntmps123
  go_wp2
  go_ret
  exact ⟨rfl, rfl⟩
theorem up_any (x b : Int) (w : World) (h0 : 0 ≤ x) (h1 : x ≤ 4294967295) (h2 : 0 ≤ b) (h3 : b ≤ 255) :
    Calls Tryz.prog 108 #[.int .i64 x, .int .i64 b] w fun e w' => e = .returned (.int .i64 (up x b)) ∧ w = w' := by
  have e1 : bits .and .i64 (x * 256) 4294967295 = x % 16777216 * 256 := by
    have := and_mask 32 (by omega) (x * 256) (by omega) (by omega)
    simp at this
    rw [this]; omega
  have e2 : bits .or .i64 (x % 16777216 * 256) b = x % 16777216 * 256 + b := or_join 8 (by omega) _ _ (by omega) (by omega) (by omega) h2 (by omega)
  go_enter Tryz.func108, Tryz.ntmps108
  go_wp2
  go_ret
  exact ⟨rfl, rfl⟩
theorem gone_any (l h : Int) (w : World) (h0 : 0 ≤ l) (h1 : l ≤ 4294967295) (h2 : 0 ≤ h) (h3 : h ≤ 4294967295) :
    Calls Tryz.prog 124 #[.int .i64 l, .int .i64 h] w fun e w' => e = .returned (.bool (l / 16777216 == h / 16777216)) ∧ w = w' := by
  go_enter Tryz.func124, Tryz.ntmps124
  go_wp2
  go_ret
  exact ⟨rfl, rfl⟩
theorem newC_any (w : World) : Calls Tryz.prog 62 #[] w fun e w' => e = .returned (.agg #[.int .i64 0, .int .i64 4294967295, .string ⟨#[]⟩]) ∧ Below w.heap.size w w' := by
  go_enter Tryz.func62, Tryz.ntmps62
  go_wp2
  go_returns
  exact ⟨rfl, by go_grown⟩
theorem mayC_any (l h : Int) (o : ByteArray) (w : World) (h0 : 0 ≤ l) (h1 : l ≤ 4294967295) (h2 : 0 ≤ h) (h3 : h ≤ 4294967295) (h4 : l / 16777216 < h / 16777216) (h5 : o.size ≤ 65536) :
    Calls Tryz.prog 88 #[.agg #[.int .i64 l, .int .i64 h, .string o]] w fun e w' => e = .returned (.bool true) ∧ w.alloc (.cells #[.int .i64 l, .int .i64 h, .string o] 102) = w' := by
  go_enter Tryz.func88, Tryz.ntmps88
  go_wp2
  go_ret
  exact ⟨by simp; omega, rfl⟩
theorem chance_true (p : Int) (w : World) (h1 : 1 ≤ p) (h2 : p ≤ 4095) : Calls Tryz.prog 122 #[.int .i64 p] w fun e w' => e = .returned (.bool true) ∧ w = w' :=
  (chance_any p w).mono fun e w' h => ⟨by rw [h.1]; simp [h1, h2], h.2⟩
structure BitAt (w wr : World) (g k : Nat) (l h : Int) (o : List UInt8) (o0 : Nat) (fin : Int × Int × List UInt8) : Prop where
  deep : Deep k l h
  k4 : k ≤ 4
  fin : normC (5 - k) l h o = fin
  len : o.length ≤ o0 + k
  blk : Blk wr g 102 #[.int .i64 l, .int .i64 h, .string (bs o)]
  res : Blk wr (g + 1) 102 #[.int .i64 0, .int .i64 0, .string ⟨#[]⟩]
  below : Below g w wr

theorem BitAt.step {w wr : World} {g k : Nat} {l h : Int} {o : List UInt8} {o0 : Nat} {fin : Int × Int × List UInt8} (H : BitAt w wr g k l h o o0 fin) (he : l / 16777216 = h / 16777216) :
    BitAt w ((((wr.setCell ⟨g, 2, none⟩ (.string (bs o ++ bs [b8 (l / 16777216)]))).setCell ⟨g, 0, none⟩ (.int .i64 (up l 0))).setCell ⟨g, 1, none⟩ (.int .i64 (up h 255))).alloc (.cells #[.int .u8 (l / 16777216)] 5)).drew g (k + 1) (up l 0) (up h 255) (o ++ [byteOf (l / 16777216)]) o0 fin := by
  have h3 : k ≤ 3 := by
    rcases Nat.lt_or_ge k 4 with h | h
    · omega
    · have := H.k4
      obtain rfl : k = 4 := by omega
      exact absurd he (deep_end H.deep)
  have e8 : b8 (l / 16777216) = byteOf (l / 16777216) := by
    have := H.deep
    obtain ⟨a, b, c, _⟩ := this
    unfold b8 byteOf
    rw [Int.emod_eq_of_lt (by omega) (by omega)]
  refine ⟨deep_up h3 H.deep he, by omega, ?_, ?_, ?_, ?_, ?_⟩
  · rw [← H.fin, show 5 - k = (5 - (k + 1)) + 1 from by omega, normC, if_pos he]
  · have := H.len
    simp; omega
  · have := (((H.blk.set_ 2 (.string (bs o ++ bs [b8 (l / 16777216)]))).set_ 0 (.int .i64 (up l 0))).set_ 1 (.int .i64 (up h 255))).alloc (.cells #[.int .u8 (l / 16777216)] 5)
    rw [bs_append, e8] at *
    simpa using this.drew
  · exact (((H.res.far (p := ⟨g, 2, none⟩) (by show g + 1 ≠ g; omega) _).far (p := ⟨g, 0, none⟩) (by show g + 1 ≠ g; omega) _).far (p := ⟨g, 1, none⟩) (by show g + 1 ≠ g; omega) _).alloc _
  · exact (((H.below.setCell (p := ⟨g, 2, none⟩) (Nat.le_refl g) _).setCell (p := ⟨g, 0, none⟩) (Nat.le_refl g) _).setCell (p := ⟨g, 1, none⟩) (Nat.le_refl g) _).alloc (by simp; have := H.blk.lt; omega) _ |>.drew

theorem BitAt.done {w wr : World} {g k : Nat} {l h : Int} {o : List UInt8} {o0 : Nat} {fin : Int × Int × List UInt8} (H : BitAt w wr g k l h o o0 fin) (he : ¬ l / 16777216 = h / 16777216) :
    (l, h, o) = fin ∧ Blk (((wr.setCell ⟨g + 1, 0, none⟩ (.int .i64 l)).setCell ⟨g + 1, 1, none⟩ (.int .i64 h)).setCell ⟨g + 1, 2, none⟩ (.string (bs o))) (g + 1) 102 #[.int .i64 l, .int .i64 h, .string (bs o)] ∧
      Below g w (((wr.setCell ⟨g + 1, 0, none⟩ (.int .i64 l)).setCell ⟨g + 1, 1, none⟩ (.int .i64 h)).setCell ⟨g + 1, 2, none⟩ (.string (bs o))) := by
  refine ⟨?_, ?_, ?_⟩
  · rw [← H.fin]
    obtain ⟨m, hm⟩ : ∃ m, 5 - k = m + 1 := ⟨4 - k, by have := H.k4; omega⟩
    rw [hm, normC, if_neg he]
  · simpa using ((H.res.set_ 0 (.int .i64 l)).set_ 1 (.int .i64 h)).set_ 2 (.string (bs o))
  · exact ((H.below.setCell (by simp) _).setCell (by simp) _).setCell (by simp) _

set_option maxHeartbeats 1000000 in
set_option maxRecDepth 100000 in
theorem bitC_any (l h : Int) (o : List UInt8) (b p : Int) (w : World) (hc : Coder.Ok ⟨l, h, o⟩) (hb : b = 0 ∨ b = 1) (h1 : 1 ≤ p) (h2 : p ≤ 4095) (h5 : o.length ≤ 65532) :
    Calls Tryz.prog 104 #[.agg #[.int .i64 l, .int .i64 h, .string (bs o)], .int .i64 b, .int .i64 p] w fun e w' => e = .returned (.tuple #[.agg #[.int .i64 (bitC ⟨l, h, o⟩ b p).low, .int .i64 (bitC ⟨l, h, o⟩ b p).high, .string (bs (bitC ⟨l, h, o⟩ b p).out)], .int .i64 0]) ∧ Below w.heap.size w w' := by
  have hd := Lib.hid (narrow_deep (b := b) hc h1 h2)
  obtain ⟨n, hn⟩ : ∃ n, n = narrow l h b p := ⟨_, rfl⟩
  have Hn := Lib.hid hn
  clear hn
  obtain ⟨e0, e1, e2⟩ := hc
  simp only [] at e0 e1 e2
  have hm := mid_bd (l := l) (h := h) (p := p) (by omega) h1 h2
  have hs : (bs o).size ≤ 65536 := by rw [bs_size]; omega
  have hq : 0 ≤ b := by omega
  have hq1 : b ≤ 1 := by omega
  rcases hb with hb | hb
  all_goals
    subst hb
    go_enter Tryz.func104, Tryz.ntmps104
    go_wp2_with (first | (go_at_call 88; refine (mayC_any _ _ _ _ e0 (by omega) (by omega) e1 e2 hs).mono ?_; rintro e w' ⟨rfl, rfl⟩) | (go_at_call 123; refine (mid_any _ _ _ _ e0 (by omega) e1 h1 h2).mono ?_; rintro e w' ⟨rfl, rfl⟩) | (go_at_call 122; refine (chance_true _ _ h1 h2).mono ?_; rintro e w' ⟨rfl, rfl⟩))
    clear e2 hs hq hq1
    go_loopg [] 5 (fun k wr => ∃ (j : Nat) (l' h' : Int) (o' : List UInt8), k = 5 - j ∧ BitAt w wr w.heap.size j l' h' o' o.length (normC 5 n.1 n.2 o))
    case atStart =>
      refine ⟨0, _, _, o, rfl, ⟨hd.out, by omega, by rw [Hn.out], by omega, ?_, ?_, ?_⟩⟩
      · exact ((Blk.new _ _ _).alloc _).alloc _
      · exact (Blk.new1 _ _ _ _).alloc _
      · go_grown
    case round =>
      obtain ⟨j, l', h', o', hk, hA⟩ := hrel
      have HA := Lib.hid hA
      obtain ⟨⟨d0, d1, d2, -, -⟩, hk4, -, hlen, hblk, hres, hbel⟩ := hA
      have c0 := hblk.cell 0
      have c1 := hblk.cell 1
      have c2 := hblk.cell 2
      have f0 := hblk.frozen 0
      have f1 := hblk.frozen 1
      have f2 := hblk.frozen 2
      have r0 := hres.cell 0
      have r1 := hres.cell 1
      have r2 := hres.cell 2
      have g0 := hres.frozen 0
      have g1 := hres.frozen 1
      have g2 := hres.frozen 2
      simp at c0 c1 c2 r0 r1 r2
      have hlt := hblk.lt
      have hlt1 := hres.lt
      clear hblk hres hbel hm
      have hs1 : ∀ x, (bs [x]).size = 1 := fun x => bs_size _
      have hsz : (bs o').size ≤ 65536 := by rw [bs_size]; omega
      by_cases hg : l' / 16777216 = h' / 16777216
      · have HG := Lib.hid hg
        have hg' : (l' / 16777216 == h' / 16777216) = true := by simpa using hg
        clear hg r0 r1 r2 g0 g1 g2
        have cv := conv1
        go_wp2_with (first | (go_at_call 124; refine (gone_any _ _ _ d0 (by omega) (by omega) d2).mono ?_; rintro e w' ⟨rfl, rfl⟩))
        go_region_with (first | (go_at_call 108; refine (up_any _ _ _ (by omega) (by omega) (by omega) (by omega)).mono ?_; rintro e w' ⟨rfl, rfl⟩))
        all_goals
          go_wp2
          have HB := HA.out.step HG.out
          go_roundg (5 - (j + 1))
          case measure => omega
          case rel => exact ⟨j + 1, _, _, _, rfl, HB⟩
      · have HG := Lib.hid hg
        have hg' : (l' / 16777216 == h' / 16777216) = false := by simpa using hg
        clear hg
        go_wp2_with (first | (go_at_call 124; refine (gone_any _ _ _ d0 (by omega) (by omega) d2).mono ?_; rintro e w' ⟨rfl, rfl⟩))
        obtain ⟨q1, q2, q3⟩ := HA.out.done HG.out
        refine bodyPost_ret (res_cell_tmp (by rfl) _ _ _ 102 #[.int .i64 l', .int .i64 h', .string (bs o')] _ (by rfl) q2 Tryz.underlying102 rfl (by kernel_rfl)) rfl ?_
        exact ⟨by simp only [bitC, ← Hn.out, ← q1]; rfl, q3⟩
end Dsc
end
section
/- The walk of coder.End. -/
set_option linter.unusedVariables false
set_option linter.unusedSimpArgs false
namespace Dsc
open Go Go.RowKit
open Go.Proofs

set_option maxRecDepth 10000 in
theorem endC_any (l h : Int) (o : List UInt8) (w : World) (hc : Coder.Ok ⟨l, h, o⟩) (h5 : o.length ≤ 65532) :
    Calls Tryz.prog 64 #[.agg #[.int .i64 l, .int .i64 h, .string (bs o)]] w fun e w' => e = .returned (.tuple #[.string (bs (endC ⟨l, h, o⟩)), .int .i64 0]) ∧ Below w.heap.size w w' := by
  obtain ⟨e0, e1, e2⟩ := hc
  simp only [] at e0 e1 e2
  have hs : (bs o).size ≤ 65536 := by rw [bs_size]; omega
  have cv := conv4 ((w.alloc (.cells #[.int .i64 l, .int .i64 h, .string (bs o)] 102)).alloc (.cells #[.int .i64 l, .int .i64 h, .string (bs o)] 102))
  simp only [World.size_alloc] at cv
  have hs4 : ∀ x y z u, (bs [x, y, z, u]).size = 4 := fun x y z u => bs_size _
  have k0 : b8 (l / 16777216) = byteOf (l / 16777216) := by unfold b8 byteOf; congr 2; omega
  have k1 : b8 (l / 65536 % 256) = byteOf (l / 65536) := rfl
  have k2 : b8 (l / 256 % 256) = byteOf (l / 256) := rfl
  have k3 : b8 (l % 256) = byteOf l := rfl
  go_enter Tryz.func64, Tryz.ntmps64
  go_wp2_with (first | (go_at_call 88; refine (mayC_any _ _ _ _ e0 (by omega) (by omega) e1 e2 hs).mono ?_; rintro e w' ⟨rfl, rfl⟩))
  go_ret2
  refine ⟨?_, by go_grown⟩
  simp only [endC, bs_append]
  rfl
end Dsc
end
section
/- The walks of package model. -/
set_option linter.unusedVariables false
set_option linter.unusedSimpArgs false
namespace Dsc
open Go Go.RowKit
open Go.Proofs

theorem index64 (cs : Array Value) (i : Int) (v : Value) (w : World) (h0 : 0 ≤ i) (h1 : i < 64) (hv : cs[i.toNat]? = some v) : (Instr.index 93 (.agg cs) (.int .i64 i)).run Tryz.prog w = .ok v w := by
  have h2 : 0 ≤ i ∧ i < (64 : Nat) := ⟨h0, by omega⟩
  have hsz : (Go.sizeOf 3).run Tryz.prog w = .ok 1 w := by kernel_rfl
  have hag : (isAgg 3).run Tryz.prog w = .ok false w := by kernel_rfl
  unfold Instr.index
  simp only [asIntOf, Sem.run_bind, Sem.run_pure, Result.andThen_ok, run_underlying Tryz.underlying93, if_pos h2, hsz]
  simp [part, Sem.run_bind, hag, hv]
/-- A row of a model's counters. -/
def Model.row (m : Model) (i : Nat) : List Value := iv ((m.c.drop (i * 64)).take 64)
theorem Model.row_length {m : Model} (h : m.Ok) {i : Nat} (hi : i < 3) : (m.row i).length = 64 := by
  simp [Model.row, iv_length, h.len]; omega
theorem Model.row_at {m : Model} (h : m.Ok) {i j : Nat} (hi : i < 3) (hj : j < 64) : (m.row i)[j]? = some (.int .i64 (m.at_ ((i * 64 + j : Nat) : Int))) := by
  have hl := h.len
  unfold Model.row Model.at_
  rw [iv_getD _ _ (by simp; omega)]
  simp only [List.getD_eq_getElem?_getD, Int.toNat_natCast, List.getElem?_take, if_pos hj, List.getElem?_drop]
theorem Model.range {m : Model} (h : m.Ok) {w : World} {g : Nat} {t : TypeId} (hb : Blk w g t m.cells) {i : Nat} (hi : i < 3) : w.rangeAt g (i * 64) (m.row i) := by
  intro j v hv
  have hj : j < 64 := by
    rcases Nat.lt_or_ge j 64 with h1 | h1
    · exact h1
    · rw [List.getElem?_eq_none (by rw [m.row_length h hi]; exact h1)] at hv; cases hv
  rw [m.row_at h hi hj] at hv
  rw [hb.cell, m.cell_c h (by omega), ← hv]
theorem three_of {w : World} {g : Nat} {t : TypeId} {m : Model} (h : m.Ok) (hb : Blk w g t m.cells) : Three w g 192 m.w0 m.w1 m.w2 :=
  ⟨by rw [hb.cell]; exact (m.cell_w h).1, by rw [hb.cell]; exact (m.cell_w h).2.1, by rw [hb.cell]; exact (m.cell_w h).2.2⟩
set_option maxRecDepth 10000 in
theorem mayM_any (m : Model) (w : World) (h : m.Ok) : Calls Tryz.prog 130 #[.agg m.cells] w fun e w' => e = .returned (.bool true) ∧ w.alloc (.cells m.cells 97) = w' := by
  have B := Lib.hid (Blk.new w 97 m.cells)
  have H := Lib.hid h
  clear h
  go_enter Tryz.func130, Tryz.ntmps130
  go_wp2_with fail
  go_loop [6] (fun a => ∃ i : Nat, i ≤ 3 ∧ a = .int .i64 i) (fun a => 3 - (intOf a).toNat)
  case atStart => exact ⟨0, by omega, rfl⟩
  case round =>
    obtain ⟨i, hi, rfl⟩ := hrel
    by_cases hlt : i < 3
    · go_wp2_with (refine wpList_load_mid rfl 93 (.tmp 11) rfl w.heap.size (i * 64) rfl (m.row i) _ (Model.range H.out B.out hlt) Tryz.underlying93 rfl (by rw [Model.row_length H.out hlt]; kernel_rfl) ?_)
      go_loop [13] (fun a => ∃ j : Nat, j ≤ 64 ∧ a = .int .i64 j) (fun a => 64 - (intOf a).toNat)
      case atStart => exact ⟨0, by omega, rfl⟩
      case round =>
        obtain ⟨j, hj, rfl⟩ := hrel
        by_cases hlj : j < 64
        · have ix := fun W => index64 (m.row i).toArray (j : Int) _ W (by omega) (by omega) (by simp only [List.getElem?_toArray, Int.toNat_natCast]; exact Model.row_at H.out hlt hlj)
          have bd := Model.at_bd H.out ((i * 64 + j : Nat) : Int)
          obtain ⟨x, hx⟩ : ∃ x, m.at_ ((i * 64 + j : Nat) : Int) = x := ⟨_, rfl⟩
          rw [hx] at ix bd
          clear hx
          go_wp2_with (go_at_call 138; refine (countMay_any _ _ bd.1 bd.2).mono ?_; rintro e w' ⟨rfl, rfl⟩)
          go_round
          case rel => exact ⟨j + 1, by omega, by go_num⟩
          case measure => simp [intOf]; omega
        · go_wp2
          go_round
          case rel => exact ⟨i + 1, by omega, by go_num⟩
          case measure => simp [intOf]; omega
    · go_wp2_with (go_at_call 139; refine (weights_any _ _ _ _ _ _ (three_of H.out B.out) H.out.w0 H.out.w1 H.out.w2).mono ?_; rintro e w' ⟨rfl, rfl⟩)
      go_ret
      exact ⟨rfl, rfl⟩
/-! Where a row's counter is. -/
theorem counter0_any (g x0 x1 x2 : Nat) (w : World) (c0 : x0 < 64) (c1 : x1 < 64) (c2 : x2 < 64) :
    Calls Tryz.prog 135 #[.agg #[.pointer (some ⟨g, 0, none⟩), .int .i64 x0, .int .i64 x1, .int .i64 x2], .int .i64 0] w fun e w' =>
      e = .returned (.pointer (some ⟨g, x0, none⟩)) ∧ Below w.heap.size w w' := by
  have hx0 : (0 : Int) ≤ x0 := by omega
  have hx0' : (x0 : Int) < 64 := by omega
  have hx1 : (0 : Int) ≤ x1 := by omega
  have hx1' : (x1 : Int) < 64 := by omega
  have hx2 : (0 : Int) ≤ x2 := by omega
  have hx2' : (x2 : Int) < 64 := by omega
  go_enter Tryz.func135, Tryz.ntmps135
  go_wp2
  go_quiet (fail)
  go_wp2
  go_ret
  exact ⟨rfl, by refine below_drewN ?_ _; go_grown⟩
theorem counter1_any (g x0 x1 x2 : Nat) (w : World) (c0 : x0 < 64) (c1 : x1 < 64) (c2 : x2 < 64) :
    Calls Tryz.prog 135 #[.agg #[.pointer (some ⟨g, 0, none⟩), .int .i64 x0, .int .i64 x1, .int .i64 x2], .int .i64 1] w fun e w' =>
      e = .returned (.pointer (some ⟨g, 64 + x1, none⟩)) ∧ Below w.heap.size w w' := by
  have hx0 : (0 : Int) ≤ x0 := by omega
  have hx0' : (x0 : Int) < 64 := by omega
  have hx1 : (0 : Int) ≤ x1 := by omega
  have hx1' : (x1 : Int) < 64 := by omega
  have hx2 : (0 : Int) ≤ x2 := by omega
  have hx2' : (x2 : Int) < 64 := by omega
  go_enter Tryz.func135, Tryz.ntmps135
  go_wp2
  go_quiet (fail)
  go_wp2
  go_ret
  exact ⟨rfl, by refine below_drewN ?_ _; go_grown⟩
theorem counter2_any (g x0 x1 x2 : Nat) (w : World) (c0 : x0 < 64) (c1 : x1 < 64) (c2 : x2 < 64) :
    Calls Tryz.prog 135 #[.agg #[.pointer (some ⟨g, 0, none⟩), .int .i64 x0, .int .i64 x1, .int .i64 x2], .int .i64 2] w fun e w' =>
      e = .returned (.pointer (some ⟨g, 128 + x2, none⟩)) ∧ Below w.heap.size w w' := by
  have hx0 : (0 : Int) ≤ x0 := by omega
  have hx0' : (x0 : Int) < 64 := by omega
  have hx1 : (0 : Int) ≤ x1 := by omega
  have hx1' : (x1 : Int) < 64 := by omega
  have hx2 : (0 : Int) ≤ x2 := by omega
  have hx2' : (x2 : Int) < 64 := by omega
  go_enter Tryz.func135, Tryz.ntmps135
  go_wp2
  go_quiet (fail)
  go_wp2
  go_ret
  exact ⟨rfl, by refine below_drewN ?_ _; go_grown⟩
/-- Where the inputs' walk stands. -/
structure InSt (w wr : World) (n : Nat) (sx : Array Value) (o0 o1 o2 : Int) : Prop where
  hn : n = w.heap.size
  below : Below w.heap.size w wr
  seen : Blk wr n 179 sx
  res : Blk wr (n + 1) 95 #[.int .i64 0, .int .i64 0, .int .i64 0]
  out : Blk wr (n + 1 + 1) 95 #[.int .i64 o0, .int .i64 o1, .int .i64 o2]
theorem InSt.kept {w wr w' : World} {n : Nat} {sx : Array Value} {o0 o1 o2 : Int} (h : InSt w wr n sx o0 o1 o2) (hb : Below wr.heap.size wr w') : InSt w w' n sx o0 o1 o2 :=
  ⟨h.hn, below_then h.below h.below.size hb, h.seen.kept hb, h.res.kept hb, h.out.kept hb⟩
theorem InSt.set0 {w wr : World} {n : Nat} {sx : Array Value} {o0 o1 o2 : Int} (h : InSt w wr n sx o0 o1 o2) (x : Int) : InSt w (wr.setCell ⟨n + 1 + 1, 0, none⟩ (.int .i64 x)) n sx x o1 o2 :=
  ⟨h.hn, h.below.setCell (by have := h.hn; simp; omega) _, h.seen.far (by simp; omega) _, h.res.far (by simp) _, by simpa using h.out.set_ 0 (.int .i64 x)⟩
theorem InSt.set1 {w wr : World} {n : Nat} {sx : Array Value} {o0 o1 o2 : Int} (h : InSt w wr n sx o0 o1 o2) (x : Int) : InSt w (wr.setCell ⟨n + 1 + 1, 1, none⟩ (.int .i64 x)) n sx o0 x o2 :=
  ⟨h.hn, h.below.setCell (by have := h.hn; simp; omega) _, h.seen.far (by simp; omega) _, h.res.far (by simp) _, by simpa using h.out.set_ 1 (.int .i64 x)⟩
theorem InSt.set2 {w wr : World} {n : Nat} {sx : Array Value} {o0 o1 o2 : Int} (h : InSt w wr n sx o0 o1 o2) (x : Int) : InSt w (wr.setCell ⟨n + 1 + 1, 2, none⟩ (.int .i64 x)) n sx o0 o1 x :=
  ⟨h.hn, h.below.setCell (by have := h.hn; simp; omega) _, h.seen.far (by simp; omega) _, h.res.far (by simp) _, by simpa using h.out.set_ 2 (.int .i64 x)⟩
theorem InSt.mod {w wr : World} {n g : Nat} {sx : Array Value} {o0 o1 o2 : Int} {m : Model} (h : InSt w wr n sx o0 o1 o2) (hb : Blk w g 97 m.cells) : Blk wr g 97 m.cells := hb.kept h.below
theorem InSt.tab {w wr : World} {n : Nat} {sx : Array Value} {o0 o1 o2 : Int} (h : InSt w wr n sx o0 o1 o2) (hb : TabW w) : TabW wr := hb.of_ h.below
set_option maxRecDepth 10000 in
set_option maxHeartbeats 1000000 in
theorem inputsM_any (m : Model) (g x0 x1 x2 : Nat) (w : World) (h : m.Ok) (hb : Blk w g 97 m.cells) (hT : TabW w) (c0 : x0 < 64) (c1 : x1 < 64) (c2 : x2 < 64) :
    Calls Tryz.prog 133 #[.agg #[.pointer (some ⟨g, 0, none⟩), .int .i64 x0, .int .i64 x1, .int .i64 x2]] w fun e w' =>
      e = .returned (.agg (i3 (m.inp x0) (m.inp (64 + x1)) (m.inp (128 + x2)))) ∧ Below w.heap.size w w' := by
  have b0 := m.at_bd h x0
  have b1 := m.at_bd h (64 + x1)
  have b2 := m.at_bd h (128 + x2)
  have q0 := countP_bd (m.at_ x0)
  have q1 := countP_bd (m.at_ (64 + x1))
  have q2 := countP_bd (m.at_ (128 + x2))
  have HB := Lib.hid hb
  have HT := Lib.hid hT
  have H := Lib.hid h
  clear hb hT h
  have I0 : InSt w (((w.alloc (.cells #[.pointer (some ⟨g, 0, none⟩), .int .i64 x0, .int .i64 x1, .int .i64 x2] 179)).alloc (.cells #[.int .i64 0, .int .i64 0, .int .i64 0] 95)).alloc (.cells #[.int .i64 0, .int .i64 0, .int .i64 0] 95)) w.heap.size #[.pointer (some ⟨g, 0, none⟩), .int .i64 x0, .int .i64 x1, .int .i64 x2] 0 0 0 :=
    ⟨rfl, by go_grown, ((Blk.new _ _ _).alloc _).alloc _, (Blk.new1 _ _ _ _).alloc _, Blk.new2 _ _ _ _ _⟩
  go_enter Tryz.func133, Tryz.ntmps133
  go_wp2_with fail
  refine wp_loop_rounds 4 ?_
  obtain ⟨s0, s1, s2, s3, -, -, -, -, s4⟩ := I0.seen.facts4
  rw [rounds_succ]
  go_wp2_with fail
  clear s0 s1 s2 s3 s4
  refine (counter0_any g x0 x1 x2 _ c0 c1 c2).mono ?_
  rintro e v0 ⟨rfl, hb0⟩
  have J0 := I0.kept hb0
  clear I0 hb0
  have cc0 : v0.cell? ⟨g, x0, none⟩ = some (.int .i64 (m.at_ (x0 : Int))) := by
    rw [(J0.mod HB.out).cell]
    exact Model.cell_c H.out (by omega)
  go_wp2_with fail
  refine (countP_any _ _ b0.1 b0.2).mono ?_
  rintro e w' ⟨rfl, rfl⟩
  clear cc0
  go_wp2_with fail
  refine (stretch_any _ _ (J0.tab HT.out) (by omega) q0.2).mono ?_
  rintro e u0 ⟨rfl, hd0⟩
  have L0 := J0.kept hd0
  clear J0 hd0
  obtain ⟨p0, p1, p2, p3, p4, p5, p6⟩ := L0.out.facts3
  go_wp2_with fail
  clear p0 p1 p2 p3 p4 p5 p6
  have I1 := L0.set0 (stretch (countP (m.at_ (x0 : Int))))
  clear L0
  obtain ⟨s0, s1, s2, s3, -, -, -, -, s4⟩ := I1.seen.facts4
  rw [rounds_succ]
  go_wp2_with fail
  clear s0 s1 s2 s3 s4
  refine (counter1_any g x0 x1 x2 _ c0 c1 c2).mono ?_
  rintro e v1 ⟨rfl, hb1⟩
  have J1 := I1.kept hb1
  clear I1 hb1
  have cc1 : v1.cell? ⟨g, (64 + x1), none⟩ = some (.int .i64 (m.at_ (64 + x1 : Int))) := by
    rw [(J1.mod HB.out).cell]
    exact Model.cell_c H.out (by omega)
  go_wp2_with fail
  refine (countP_any _ _ b1.1 b1.2).mono ?_
  rintro e w' ⟨rfl, rfl⟩
  clear cc1
  go_wp2_with fail
  refine (stretch_any _ _ (J1.tab HT.out) (by omega) q1.2).mono ?_
  rintro e u1 ⟨rfl, hd1⟩
  have L1 := J1.kept hd1
  clear J1 hd1
  obtain ⟨p0, p1, p2, p3, p4, p5, p6⟩ := L1.out.facts3
  go_wp2_with fail
  clear p0 p1 p2 p3 p4 p5 p6
  have I2 := L1.set1 (stretch (countP (m.at_ (64 + x1 : Int))))
  clear L1
  obtain ⟨s0, s1, s2, s3, -, -, -, -, s4⟩ := I2.seen.facts4
  rw [rounds_succ]
  go_wp2_with fail
  clear s0 s1 s2 s3 s4
  refine (counter2_any g x0 x1 x2 _ c0 c1 c2).mono ?_
  rintro e v2 ⟨rfl, hb2⟩
  have J2 := I2.kept hb2
  clear I2 hb2
  have cc2 : v2.cell? ⟨g, (128 + x2), none⟩ = some (.int .i64 (m.at_ (128 + x2 : Int))) := by
    rw [(J2.mod HB.out).cell]
    exact Model.cell_c H.out (by omega)
  go_wp2_with fail
  refine (countP_any _ _ b2.1 b2.2).mono ?_
  rintro e w' ⟨rfl, rfl⟩
  clear cc2
  go_wp2_with fail
  refine (stretch_any _ _ (J2.tab HT.out) (by omega) q2.2).mono ?_
  rintro e u2 ⟨rfl, hd2⟩
  have L2 := J2.kept hd2
  clear J2 hd2
  obtain ⟨p0, p1, p2, p3, p4, p5, p6⟩ := L2.out.facts3
  go_wp2_with fail
  clear p0 p1 p2 p3 p4 p5 p6
  have I3 := L2.set2 (stretch (countP (m.at_ (128 + x2 : Int))))
  clear L2
  obtain ⟨p0, p1, p2, p3, p4, p5, p6⟩ := I3.out.facts3
  obtain ⟨r0, r1, r2, r3, r4, r5, r6⟩ := I3.res.facts3
  rw [rounds_succ]
  go_wp2_with fail
  refine bodyPost_ret (v := .agg (i3 (m.inp x0) (m.inp (64 + x1)) (m.inp (128 + x2)))) ?_ rfl ⟨rfl, ?_⟩
  · simp [results, Tryz.results133, go_sem, i3, Model.inp, *]
  · have := I3.below
    go_grown
/-! a model that learned nothing -/
def newF (i j s : Nat) : Nat → Value := fun k => .int .i64 (if k < 192 then (if k < i * 64 + j then 32768 else 0) else if k < 192 + s then 22000 else 0)
theorem zeroM : Tryz.zeroCells97 = (List.replicate 195 (Value.int .i64 0)).toArray := by kernel_rfl
theorem newM_blk {w : World} {g : Nat} (h : Row w g 97 195 (newF 3 0 3)) : Blk w g 97 newM.cells := by
  refine h.blk _ (newM.cells_size newM_ok) fun k hk => ?_
  rcases Nat.lt_or_ge k 192 with h1 | h1
  · rw [newM.cell_c newM_ok h1]
    have e : newM.at_ (k : Int) = 32768 := by
      unfold Model.at_ newM
      rw [List.getD_eq_getElem?_getD, Int.toNat_natCast, List.getElem?_replicate, if_pos h1]
      rfl
    rw [e]
    unfold newF
    rw [if_pos h1, if_pos (by omega)]
  · obtain rfl | rfl | rfl : k = 192 ∨ k = 193 ∨ k = 194 := by omega
    · exact (newM.cell_w newM_ok).1
    · exact (newM.cell_w newM_ok).2.1
    · exact (newM.cell_w newM_ok).2.2
set_option maxRecDepth 10000 in
theorem newM_any (w : World) : Calls Tryz.prog 61 #[] w fun e w' => e = .returned (.agg newM.cells) ∧ Below w.heap.size w w' := by
  have Z := zeroM
  have R0 : Row ((w.alloc (.cells Tryz.zeroCells97 97)).alloc (.cells Tryz.zeroCells97 97)) (w.heap.size + 1) 97 195 (newF 0 0 0) := by
    refine (Blk.new1 w _ 97 Tryz.zeroCells97).row (by rw [Z]; simp) fun k hk => ?_
    rw [Z, List.getElem?_toArray, List.getElem?_replicate, if_pos hk]
    simp [newF]
  have S0 : Row ((w.alloc (.cells Tryz.zeroCells97 97)).alloc (.cells Tryz.zeroCells97 97)) w.heap.size 97 195 (fun _ => .int .i64 0) := by
    refine ((Blk.new w 97 Tryz.zeroCells97).alloc _).row (by rw [Z]; simp) fun k hk => ?_
    rw [Z, List.getElem?_toArray, List.getElem?_replicate, if_pos hk]
  clear Z
  go_enter Tryz.func61, Tryz.ntmps61
  go_wp2_with fail
  go_loopg [4] 3 (fun k a wr => ∃ i : Nat, i ≤ 3 ∧ k = 3 - i ∧ a = .int .i64 i ∧ Row wr (w.heap.size + 1) 97 195 (newF i 0 i) ∧ Row wr w.heap.size 97 195 (fun _ => .int .i64 0) ∧ Below w.heap.size w wr)
  case atStart => exact ⟨0, by omega, rfl, rfl, R0, S0, by go_grown⟩
  case round =>
    obtain ⟨i, hi, hk, rfl, hR, hS, hB⟩ := hrel
    have hk' := Lib.hid hk
    have hR' := Lib.hid hR
    have hS' := Lib.hid hS
    have hB' := Lib.hid hB
    clear hk
    by_cases hlt : i < 3
    · have q0 : (0 : Int) ≤ i := by omega
      have q1 : (i : Int) < 3 := by omega
      have q1d : decide ((i : Int) < 3) = true := by simpa using q1
      have c0 := hR.cell (k := 192 + i) (by omega)
      have f0 := hR.frozen (192 + i)
      have z0 := hR.lt
      unfold newF at c0
      clear hR hS hB R0 S0
      go_wp2_with fail
      have R1 : Row (wr.setCell ⟨w.heap.size + 1, 192 + i, none⟩ (.int .i64 22000)) (w.heap.size + 1) 97 195 (newF i 0 (i + 1)) :=
        (hR'.out.set_ (192 + i) (.int .i64 22000)).of_ fun k hk => by
          unfold newF
          by_cases e : k = 192 + i
          · subst e; rw [if_pos rfl, if_neg (by omega), if_pos (by omega)]
          · rw [if_neg e]
            congr 1
            by_cases e1 : k < 192
            · rw [if_pos e1, if_pos e1]
            · rw [if_neg e1, if_neg e1]
              by_cases e2 : k < 192 + i
              · rw [if_pos e2, if_pos (by omega)]
              · rw [if_neg e2, if_neg (by omega)]
      have S1 := hS'.out.far (p := ⟨w.heap.size + 1, 192 + i, none⟩) (by show w.heap.size ≠ w.heap.size + 1; omega) (.int .i64 22000)
      have B1 := hB'.out.setCell (p := ⟨w.heap.size + 1, 192 + i, none⟩) (by show w.heap.size ≤ w.heap.size + 1; omega) (.int .i64 22000)
      clear c0 f0 z0 hR' hS' hB'
      go_loopg [10] 64 (fun k a wq => ∃ j : Nat, j ≤ 64 ∧ k = 64 - j ∧ a = .int .i64 j ∧ Row wq (w.heap.size + 1) 97 195 (newF i j (i + 1)) ∧ Row wq w.heap.size 97 195 (fun _ => .int .i64 0) ∧ Below w.heap.size w wq)
      case atStart => exact ⟨0, by omega, rfl, rfl, R1, S1, B1⟩
      case round =>
        clear R1 S1 B1
        obtain ⟨j, hj, hkj, rfl, hR, hS, hB⟩ := hrel
        have hkj' := Lib.hid hkj
        have hR' := Lib.hid hR
        have hS' := Lib.hid hS
        have hB' := Lib.hid hB
        clear hkj
        by_cases hlj : j < 64
        · have q2 : (0 : Int) ≤ j := by omega
          have q3 : (j : Int) < 64 := by omega
          have c0 := hR.cell (k := i * 64 + j) (by omega)
          have f0 := hR.frozen (i * 64 + j)
          have z0 := hR.lt
          unfold newF at c0
          clear hR hS hB
          go_wp2_with fail
          refine region_still_tail 6 (by kernel_rfl) (by kernel_rfl) ?_
          simp only [List.take_succ_cons, List.take_zero, List.drop_succ_cons, List.drop_zero]
          still_step
          still_step
          still_call (still_of (countNew_any _))
          still_step
          still_step
          still_step
          refine wpStill_nil ?_
          go_wp2
          go_roundg (64 - (j + 1))
          case measure => have := hkj'.out; omega
          case rel =>
            refine ⟨j + 1, by omega, rfl, by go_num, ?_, ?_, ?_⟩
            · refine Row.drew ((hR'.out.set_ (i * 64 + j) (.int .i64 32768)).of_ fun k hk => ?_)
              unfold newF
              by_cases e : k = i * 64 + j
              · subst e; rw [if_pos rfl, if_pos (by omega), if_pos (by omega)]
              · rw [if_neg e]
                congr 1
                by_cases e1 : k < 192
                · rw [if_pos e1, if_pos e1]
                  by_cases e2 : k < i * 64 + j
                  · rw [if_pos e2, if_pos (by omega)]
                  · rw [if_neg e2, if_neg (by omega)]
                · rw [if_neg e1, if_neg e1]
            · exact (hS'.out.far (p := ⟨w.heap.size + 1, i * 64 + j, none⟩) (by show w.heap.size ≠ w.heap.size + 1; omega) _).drew
            · exact (hB'.out.setCell (p := ⟨w.heap.size + 1, i * 64 + j, none⟩) (by show w.heap.size ≤ w.heap.size + 1; omega) _).drew
        · clear hR hS hB
          go_wp2
          go_roundg (3 - (i + 1))
          case measure => have := hk'.out; omega
          case rel =>
            refine ⟨i + 1, by omega, rfl, by go_num, ?_, hS'.out, hB'.out⟩
            obtain rfl : j = 64 := by omega
            refine hR'.out.of_ fun k hk => ?_
            unfold newF
            rw [show i * 64 + 64 = (i + 1) * 64 + 0 from by omega]
    · obtain rfl : i = 3 := by omega
      have BN := Lib.hid (newM_blk hR)
      have hsz := newM.cells_size newM_ok
      have TH := hS.there 0 195 (by omega)
      have hz := hS.lt
      clear hR hS hB R0 S0
      go_wp2_with (first | (refine wpList_load_row rfl 97 (.tmp 1) rfl (w.heap.size + 1) rfl 97 newM.cells (0, 0) _ BN.out Tryz.underlying97 rfl (by rw [hsz]; kernel_rfl) ?_) | (refine wpList_store_mid rfl 97 (.tmp 0) (.tmp 21) rfl w.heap.size 0 newM.cells rfl rfl (by rw [hsz]; exact TH) (by rw [hsz]; kernel_rfl) (ones_all_cells _ _) ?_))
      have BF : Blk (wr.setCells w.heap.size 0 newM.cells.toList) w.heap.size 97 newM.cells := by
        obtain ⟨cs, h1, h2, h3⟩ := hS'.out
        have := h1.setAll newM.cells.toList (by simp [hsz, h2])
        simpa using this
      refine bodyPost_ret (res_cell (by rfl) _ _ _ 97 newM.cells _ (by rfl) BF Tryz.underlying97 rfl (by rw [hsz]; kernel_rfl)) rfl ?_
      exact ⟨rfl, below_setCells (Nat.le_refl _) _ _ _ hB'.out⟩
end Dsc
end
section
/- The walks of package model: the chance, and learning. -/
set_option linter.unusedVariables false
set_option linter.unusedSimpArgs false
namespace Dsc
open Go Go.RowKit
open Go.Proofs

theorem three_new (w : World) (t : TypeId) (a b c : Int) : Three (w.alloc (.cells (i3 a b c) t)) w.heap.size 0 a b c := ⟨(Blk.new _ _ _).cell 0, (Blk.new _ _ _).cell 1, (Blk.new _ _ _).cell 2⟩
theorem Three.kept {w w' : World} {b o : Nat} {x y z : Int} (h : Three w b o x y z) (hb : Below w.heap.size w w') : Three w' b o x y z :=
  ⟨cell_later hb h.c0, cell_later hb h.c1, cell_later hb h.c2⟩
theorem Three.alloc {w : World} {b o : Nat} {x y z : Int} (h : Three w b o x y z) (ob : Obj) : Three (w.alloc ob) b o x y z := h.kept ((Below.refl _ _).alloc (Nat.le_refl _) _)
theorem keep6 {w w' : World} {a0 a1 a2 a3 a4 a5 : Addr} {v0 v1 v2 v3 v4 v5 : Value} (hb : Below w.heap.size w w') (h : w.cell? a0 = some v0 ∧ w.cell? a1 = some v1 ∧ w.cell? a2 = some v2 ∧ w.cell? a3 = some v3 ∧ w.cell? a4 = some v4 ∧ w.cell? a5 = some v5) :
    w'.cell? a0 = some v0 ∧ w'.cell? a1 = some v1 ∧ w'.cell? a2 = some v2 ∧ w'.cell? a3 = some v3 ∧ w'.cell? a4 = some v4 ∧ w'.cell? a5 = some v5 :=
  ⟨cell_later hb h.1, cell_later hb h.2.1, cell_later hb h.2.2.1, cell_later hb h.2.2.2.1, cell_later hb h.2.2.2.2.1, cell_later hb h.2.2.2.2.2⟩
set_option maxRecDepth 10000 in
set_option maxHeartbeats 1000000 in
theorem modelP_any (m : Model) (x0 x1 x2 : Nat) (w : World) (h : m.Ok) (hT : TabW w) (k0 : x0 < 64) (k1 : x1 < 64) (k2 : x2 < 64) :
    Calls Tryz.prog 121 #[.agg m.cells, .agg (i3 x0 x1 x2)] w fun e w' => e = .returned (.tuple #[.int .i64 (m.P ⟨x0, x1, x2⟩), .int .i64 0]) ∧ Below w.heap.size w w' := by
  have HT := Lib.hid hT
  have H := Lib.hid h
  have hsz := m.cells_size h
  clear hT h
  have B := Lib.hid ((Blk.new w 97 m.cells).alloc (.cells (i3 x0 x1 x2) 95))
  have b0 := stretch_bd (countP (m.at_ x0))
  have b1 := stretch_bd (countP (m.at_ (64 + x1)))
  have b2 := stretch_bd (countP (m.at_ (128 + x2)))
  have C0 := Lib.hid (three_new (w.alloc (.cells m.cells 97)) 95 x0 x1 x2)
  go_enter Tryz.func121, Tryz.ntmps121
  go_wp2_with (first | (refine wpList_load_row rfl 97 (.tmp 2) rfl w.heap.size rfl 97 m.cells (0, 0) _ B.out Tryz.underlying97 rfl (by rw [hsz]; kernel_rfl) ?_) | (go_at_call 130; refine (mayM_any _ _ H.out).mono ?_; rintro e w' ⟨rfl, rfl⟩) | (go_at_call 131; refine (there_any _ 0 x0 x1 x2 _ (by first | exact C0.out.alloc _ | (have := C0.out.alloc (.cells m.cells 97); simpa using this)) (by omega) (by omega) (by omega)).mono ?_; rintro e w' ⟨rfl, rfl⟩))
  obtain ⟨v, hv⟩ : ∃ v, v = ((w.alloc (.cells m.cells 97)).alloc (.cells (i3 x0 x1 x2) 95)).alloc (.cells m.cells 97) := ⟨_, rfl⟩
  rw [← hv]
  have hB : Below w.heap.size w v := by rw [hv]; go_grown
  have hB' := Lib.hid hB
  have BM : Blk v w.heap.size 97 m.cells := by rw [hv]; exact B.out.alloc _
  have BC : Three v (w.heap.size + 1) 0 x0 x1 x2 := by
    rw [hv]
    have := C0.out.alloc (.cells m.cells 97)
    simpa using this
  have BW := three_of H.out BM
  have BM' := Lib.hid BM
  have T' := Lib.hid (HT.out.of_ hB)
  obtain ⟨d0, d1, d2⟩ := BC
  obtain ⟨e0, e1, e2⟩ := BW
  clear hv B C0 hB BM
  go_region_held3 (fun w' => w'.cell? ⟨w.heap.size + 1, 0, none⟩ = some (.int .i64 x0) ∧ w'.cell? ⟨w.heap.size + 1, 1, none⟩ = some (.int .i64 x1) ∧ w'.cell? ⟨w.heap.size + 1, 2, none⟩ = some (.int .i64 x2) ∧ w'.cell? ⟨w.heap.size, 192, none⟩ = some (.int .i64 m.w0) ∧ w'.cell? ⟨w.heap.size, 193, none⟩ = some (.int .i64 m.w1) ∧ w'.cell? ⟨w.heap.size, 194, none⟩ = some (.int .i64 m.w2))
    (first | go_keep | exact keep6 hK2 (by assumption) | ((refine ⟨?_, ?_, ?_, ?_, ?_, ?_⟩) <;> (refine cell_later (by assumption) ?_; assumption)))
    (first | (go_at_call 133; refine (inputsM_any m _ x0 x1 x2 _ H.out ?_ ?_ k0 k1 k2).mono ?_; exact BM'.out; exact T'.out; rintro e w' ⟨rfl, hK⟩) | (go_at_call 132; refine (dot_any _ _ _ _ _ _ _ ?_ H.out.w0 H.out.w1 H.out.w2 b0 b1 b2).mono ?_; exact (T'.out.drew).of_ hK; rintro e w'' ⟨rfl, hK2⟩))
  go_wp2
  go_ret2
  refine ⟨rfl, ?_⟩
  have := below_then (B := w.heap.size) (hB'.out.drew) hB'.out.size hK
  exact below_then this this.size hK2

/-! learning -/
theorem frozen_later {w w' : World} {a : Addr} {v : Value} (hb : Below w.heap.size w w') (hc : w.cell? a = some v) (hf : w.frozen? a = false) : w'.frozen? a = false := (hb.frozen (World.block_lt_of_cell? w _ hc)).trans hf
theorem keep10 {w w' : World} {a0 a1 a2 a3 a4 a5 a6 : Addr} {v0 v1 v2 v3 v4 v5 v6 : Value} (hb : Below w.heap.size w w') (h : w.cell? a0 = some v0 ∧ w.cell? a1 = some v1 ∧ w.cell? a2 = some v2 ∧ w.cell? a3 = some v3 ∧ w.cell? a4 = some v4 ∧ w.cell? a5 = some v5 ∧ w.cell? a6 = some v6 ∧ w.frozen? a4 = false ∧ w.frozen? a5 = false ∧ w.frozen? a6 = false) :
    w'.cell? a0 = some v0 ∧ w'.cell? a1 = some v1 ∧ w'.cell? a2 = some v2 ∧ w'.cell? a3 = some v3 ∧ w'.cell? a4 = some v4 ∧ w'.cell? a5 = some v5 ∧ w'.cell? a6 = some v6 ∧ w'.frozen? a4 = false ∧ w'.frozen? a5 = false ∧ w'.frozen? a6 = false :=
  ⟨cell_later hb h.1, cell_later hb h.2.1, cell_later hb h.2.2.1, cell_later hb h.2.2.2.1, cell_later hb h.2.2.2.2.1, cell_later hb h.2.2.2.2.2.1, cell_later hb h.2.2.2.2.2.2.1, frozen_later hb h.2.2.2.2.1 h.2.2.2.2.2.2.2.1, frozen_later hb h.2.2.2.2.2.1 h.2.2.2.2.2.2.2.2.1, frozen_later hb h.2.2.2.2.2.2.1 h.2.2.2.2.2.2.2.2.2⟩
theorem Model.set_c (m : Model) {k : Nat} (hk : k < m.c.length) (v : Int) : m.cells.setIfInBounds k (.int .i64 v) = (Model.mk (m.c.set k v) m.w0 m.w1 m.w2).cells := by
  apply Array.ext'
  simp only [Model.cells, Array.toList_setIfInBounds, List.toList_toArray, iv]
  rw [← List.map_set, List.set_append_left _ _ hk]
theorem Model.set_w0 (m : Model) (hl : m.c.length = 192) (v : Int) : m.cells.setIfInBounds 192 (.int .i64 v) = (Model.mk m.c v m.w1 m.w2).cells := by
  apply Array.ext'
  simp only [Model.cells, Array.toList_setIfInBounds, List.toList_toArray, iv]
  rw [← List.map_set, List.set_append_right _ _ (by omega), hl]; rfl
theorem Model.set_w1 (m : Model) (hl : m.c.length = 192) (v : Int) : m.cells.setIfInBounds 193 (.int .i64 v) = (Model.mk m.c m.w0 v m.w2).cells := by
  apply Array.ext'
  simp only [Model.cells, Array.toList_setIfInBounds, List.toList_toArray, iv]
  rw [← List.map_set, List.set_append_right _ _ (by omega), hl]; rfl
theorem Model.set_w2 (m : Model) (hl : m.c.length = 192) (v : Int) : m.cells.setIfInBounds 194 (.int .i64 v) = (Model.mk m.c m.w0 m.w1 v).cells := by
  apply Array.ext'
  simp only [Model.cells, Array.toList_setIfInBounds, List.toList_toArray, iv]
  rw [← List.map_set, List.set_append_right _ _ (by omega), hl]; rfl
/-- Where the learner's walk stands. -/
structure LearnSt (w wr : World) (n : Nat) (sx : Array Value) (m : Model) : Prop where
  hn : n = w.heap.size
  below : Below w.heap.size w wr
  seen : Blk wr (n + 1 + 1 + 1 + 1) 179 sx
  res : Row wr (n + 1 + 1) 97 195 (fun _ => .int .i64 0)
  mod : Blk wr n 97 m.cells
  ok : m.Ok
section
variable {w wr w' : World} {n : Nat} {sx : Array Value} {m : Model}
theorem LearnSt.kept (h : LearnSt w wr n sx m) (hb : Below wr.heap.size wr w') : LearnSt w w' n sx m :=
  ⟨h.hn, below_then h.below h.below.size hb, h.seen.kept hb, h.res.kept hb, h.mod.kept hb, h.ok⟩
theorem LearnSt.drew (h : LearnSt w wr n sx m) : LearnSt w wr.drew n sx m := ⟨h.hn, h.below.drew, h.seen, h.res, h.mod, h.ok⟩
theorem LearnSt.set (h : LearnSt w wr n sx m) {k : Nat} {v : Value} {m' : Model} (he : m.cells.setIfInBounds k v = m'.cells) (ok : m'.Ok) : LearnSt w (wr.setCell ⟨n, k, none⟩ v) n sx m' :=
  ⟨h.hn, h.below.setCell (by have := h.hn; simp; omega) _, h.seen.far (by simp; omega) _, h.res.far (by simp; omega) _, by have := h.mod.set_ k v; rwa [he] at this, ok⟩
theorem LearnSt.weights (h : LearnSt w wr n sx m) {a b c : Int} (ha : -1048576 ≤ a ∧ a ≤ 1048576) (hb : -1048576 ≤ b ∧ b ≤ 1048576) (hc : -1048576 ≤ c ∧ c ≤ 1048576) :
    LearnSt w (((wr.setCell ⟨n, 192, none⟩ (.int .i64 a)).setCell ⟨n, 193, none⟩ (.int .i64 b)).setCell ⟨n, 194, none⟩ (.int .i64 c)) n sx ⟨m.c, a, b, c⟩ :=
  ((h.set (m.set_w0 h.ok.len a) ⟨h.ok.len, h.ok.c, ha, h.ok.w1, h.ok.w2⟩).set ((Model.mk m.c a m.w1 m.w2).set_w1 h.ok.len b) ⟨h.ok.len, h.ok.c, ha, hb, h.ok.w2⟩).set ((Model.mk m.c a b m.w2).set_w2 h.ok.len c) ⟨h.ok.len, h.ok.c, ha, hb, hc⟩
theorem LearnSt.tab (h : LearnSt w wr n sx m) (hT : TabW w) : TabW wr := hT.of_ h.below
theorem LearnSt.count (h : LearnSt w wr n sx m) {k : Nat} (hk : k < 192) {v : Int} (hv : 0 ≤ v ∧ v ≤ 65535) : LearnSt w (wr.setCell ⟨n, k, none⟩ (.int .i64 v)) n sx ⟨m.c.set k v, m.w0, m.w1, m.w2⟩ :=
  h.set (m.set_c (by rw [h.ok.len]; exact hk) v) ⟨by simp [h.ok.len], mem_set_bd h.ok.c hv, h.ok.w0, h.ok.w1, h.ok.w2⟩
end
theorem at_set_ne (c : List Int) (i : Nat) (v a b' d : Int) (j : Int) (h : i ≠ j.toNat) : (Model.mk (c.set i v) a b' d).at_ j = (Model.mk c a b' d).at_ j := by
  unfold Model.at_
  simp only [List.getD_eq_getElem?_getD, List.getElem?_set_ne h]
theorem at_c (c : List Int) (a b d a' b' d' : Int) (j : Int) : (Model.mk c a b d).at_ j = (Model.mk c a' b' d').at_ j := rfl
theorem learn_eq (m : Model) (x0 x1 x2 : Nat) (b : Int) (k0 : x0 < 64) (k1 : x1 < 64) (k2 : x2 < 64) (m0 m1 m2 m3 : Model)
    (h0 : m0 = Model.mk m.c (trn m.w0 (stretch (countP (m.at_ x0))) (4096 * b - dot3 m.w0 m.w1 m.w2 (stretch (countP (m.at_ x0))) (stretch (countP (m.at_ (64 + x1)))) (stretch (countP (m.at_ (128 + x2)))))) (trn m.w1 (stretch (countP (m.at_ (64 + x1)))) (4096 * b - dot3 m.w0 m.w1 m.w2 (stretch (countP (m.at_ x0))) (stretch (countP (m.at_ (64 + x1)))) (stretch (countP (m.at_ (128 + x2)))))) (trn m.w2 (stretch (countP (m.at_ (128 + x2)))) (4096 * b - dot3 m.w0 m.w1 m.w2 (stretch (countP (m.at_ x0))) (stretch (countP (m.at_ (64 + x1)))) (stretch (countP (m.at_ (128 + x2)))))))
    (h1 : m1 = Model.mk (m0.c.set x0 (countNext (m0.at_ (x0 : Int)) b)) m0.w0 m0.w1 m0.w2)
    (h2 : m2 = Model.mk (m1.c.set (64 + x1) (countNext (m1.at_ (64 + x1 : Int)) b)) m1.w0 m1.w1 m1.w2)
    (h3 : m3 = Model.mk (m2.c.set (128 + x2) (countNext (m2.at_ (128 + x2 : Int)) b)) m2.w0 m2.w1 m2.w2) : m3 = m.learn ⟨x0, x1, x2⟩ b := by
  have e0 : m0.at_ x0 = m.at_ x0 := by rw [h0]; rfl
  have e1 : m1.at_ (64 + x1 : Int) = m.at_ (64 + x1) := by
    rw [h1, at_set_ne _ _ _ _ _ _ _ (by omega), h0]; rfl
  have e2 : m2.at_ (128 + x2 : Int) = m.at_ (128 + x2) := by
    rw [h2, at_set_ne _ _ _ _ _ _ _ (by omega), h1, at_set_ne _ _ _ _ _ _ _ (by omega), h0]; rfl
  rw [e0] at h1
  rw [e1] at h2
  rw [e2] at h3
  rw [h3, h2, h1, h0]
  unfold Model.learn Model.P Model.inp
  simp only [Int.toNat_natCast, show (64 + (x1 : Int)).toNat = 64 + x1 from by omega, show (128 + (x2 : Int)).toNat = 128 + x2 from by omega]
set_option maxRecDepth 10000 in
set_option maxHeartbeats 1000000 in
theorem modelLearn_any (m : Model) (x0 x1 x2 : Nat) (b : Int) (w : World) (h : m.Ok) (hT : TabW w) (hb : b = 0 ∨ b = 1) (k0 : x0 < 64) (k1 : x1 < 64) (k2 : x2 < 64) :
    Calls Tryz.prog 125 #[.agg m.cells, .agg (i3 x0 x1 x2), .int .i64 b] w fun e w' => e = .returned (.tuple #[.agg (m.learn ⟨x0, x1, x2⟩ b).cells, .int .i64 0]) ∧ Below w.heap.size w w' := by
  have HT := Lib.hid hT
  have H := Lib.hid h
  have hsz := m.cells_size h
  have hb' := Lib.hid hb
  have hq0 : 0 ≤ b := by omega
  have hq1 : b ≤ 1 := by omega
  clear hT h hb
  have Z := zeroM
  have B := Lib.hid (((Blk.new w 97 m.cells).alloc (.cells (i3 x0 x1 x2) 95)).alloc (.cells Tryz.zeroCells97 97))
  have S0 := Lib.hid (show Row (((w.alloc (.cells m.cells 97)).alloc (.cells (i3 x0 x1 x2) 95)).alloc (.cells Tryz.zeroCells97 97)) (w.heap.size + 1 + 1) 97 195 (fun _ => .int .i64 0) by
    refine (Blk.new2 w _ _ 97 Tryz.zeroCells97).row (by rw [Z]; simp) fun k hk => ?_
    rw [Z, List.getElem?_toArray, List.getElem?_replicate, if_pos hk])
  have C0 := Lib.hid (three_new (w.alloc (.cells m.cells 97)) 95 x0 x1 x2)
  clear Z
  have z0 : (i3 x0 x1 x2)[0]? = some (.int .i64 x0) := rfl
  have z1 : (i3 x0 x1 x2)[1]? = some (.int .i64 x1) := rfl
  have z2 : (i3 x0 x1 x2)[2]? = some (.int .i64 x2) := rfl
  go_enter Tryz.func125, Tryz.ntmps125
  go_wp2_with (first | (refine wpList_load_row rfl 97 (.tmp 3) rfl w.heap.size rfl 97 m.cells (0, 0) _ B.out Tryz.underlying97 rfl (by rw [hsz]; kernel_rfl) ?_) | (go_at_call 130; refine (mayM_any _ _ H.out).mono ?_; rintro e w' ⟨rfl, rfl⟩) | (go_at_call 131; refine (there_any _ 0 x0 x1 x2 _ (by have := (C0.out.alloc (.cells Tryz.zeroCells97 97)).alloc (.cells m.cells 97); simpa using this) (by omega) (by omega) (by omega)).mono ?_; rintro e w' ⟨rfl, rfl⟩))
  obtain ⟨v, hv⟩ : ∃ v, v = ((((w.alloc (.cells m.cells 97)).alloc (.cells (i3 x0 x1 x2) 95)).alloc (.cells Tryz.zeroCells97 97)).alloc (.cells m.cells 97)).alloc (.cells #[.pointer (some ⟨w.heap.size, 0, none⟩), .int .i64 x0, .int .i64 x1, .int .i64 x2] 179) := ⟨_, rfl⟩
  rw [← hv]
  have L : LearnSt w v w.heap.size #[.pointer (some ⟨w.heap.size, 0, none⟩), .int .i64 x0, .int .i64 x1, .int .i64 x2] m := by
    rw [hv]
    refine ⟨rfl, by go_grown, ?_, (S0.out.alloc _).alloc _, (B.out.alloc _).alloc _, H.out⟩
    have := Blk.new2 ((w.alloc (.cells m.cells 97)).alloc (.cells (i3 x0 x1 x2) 95)) (.cells Tryz.zeroCells97 97) (.cells m.cells 97) 179 #[.pointer (some ⟨w.heap.size, 0, none⟩), .int .i64 x0, .int .i64 x1, .int .i64 x2]
    simpa using this
  clear hv B S0 C0 z0 z1 z2
  have L' := Lib.hid L
  have T' := Lib.hid (HT.out.of_ L.below)
  have bd0 := stretch_bd (countP (m.at_ x0))
  have bd1 := stretch_bd (countP (m.at_ (64 + x1)))
  have bd2 := stretch_bd (countP (m.at_ (128 + x2)))
  obtain ⟨d0, d1, d2, d3, -, -, -, -, d4⟩ := L.seen.facts4
  obtain ⟨e0, e1, e2⟩ := three_of H.out L.mod
  have g0 := L.mod.frozen 192
  have g1 := L.mod.frozen 193
  have g2 := L.mod.frozen 194
  have gz := L.mod.lt
  clear L
  obtain ⟨m0, hm0⟩ : ∃ q, q = Model.mk m.c (trn m.w0 (stretch (countP (m.at_ x0))) (4096 * b - dot3 m.w0 m.w1 m.w2 (stretch (countP (m.at_ x0))) (stretch (countP (m.at_ (64 + x1)))) (stretch (countP (m.at_ (128 + x2)))))) (trn m.w1 (stretch (countP (m.at_ (64 + x1)))) (4096 * b - dot3 m.w0 m.w1 m.w2 (stretch (countP (m.at_ x0))) (stretch (countP (m.at_ (64 + x1)))) (stretch (countP (m.at_ (128 + x2)))))) (trn m.w2 (stretch (countP (m.at_ (128 + x2)))) (4096 * b - dot3 m.w0 m.w1 m.w2 (stretch (countP (m.at_ x0))) (stretch (countP (m.at_ (64 + x1)))) (stretch (countP (m.at_ (128 + x2)))))) := ⟨_, rfl⟩
  have hm0' := Lib.hid hm0
  clear hm0
  go_cut [] (fun wr => LearnSt w wr w.heap.size #[.pointer (some ⟨w.heap.size, 0, none⟩), .int .i64 x0, .int .i64 x1, .int .i64 x2] m0)
  case first =>
    go_region_with (first | (go_at_call 133; refine (inputsM_any m _ x0 x1 x2 _ H.out ?_ ?_ k0 k1 k2).mono ?_; exact L'.out.mod; exact T'.out; rintro e w' ⟨rfl, hK⟩; have e0' := cell_later (w := v.drew) hK e0; have e1' := cell_later (w := v.drew) hK e1; have e2' := cell_later (w := v.drew) hK e2; have g0' := frozen_later (w := v.drew) hK e0 g0; have g1' := frozen_later (w := v.drew) hK e1 g1; have g2' := frozen_later (w := v.drew) hK e2 g2; have K' := Lib.hid hK; clear hK) | (go_at_call 134; refine (train_any _ _ _ _ _ _ _ _ ?_ hb'.out H.out.w0 H.out.w1 H.out.w2 bd0 bd1 bd2).mono ?_; exact (T'.out.drew).of_ K'.out; rintro e w'' ⟨rfl, hK2⟩; have e0'' := cell_later hK2 e0'; have e1'' := cell_later hK2 e1'; have e2'' := cell_later hK2 e2'; have g0'' := frozen_later hK2 e0' g0'; have g1'' := frozen_later hK2 e1' g1'; have g2'' := frozen_later hK2 e2' g2'; have K2' := Lib.hid hK2; clear hK2))
    all_goals
      go_wp2
      go_meet
      case rel => rw [hm0'.out]; exact (((L'.out.drew).kept K'.out).kept K2'.out).weights (within_bd _ (by decide)) (within_bd _ (by decide)) (within_bd _ (by decide))
  case rest =>
    have I0 := hcut
    clear hcut d0 d1 d2 d3 d4 e0 e1 e2 g0 g1 g2 gz L' T' bd0 bd1 bd2
    go_wp2_with fail
    refine wp_loop_rounds 4 ?_
    obtain ⟨s0, s1, s2, s3, -, -, -, -, s4⟩ := I0.seen.facts4
    rw [rounds_succ]
    go_wp2_with fail
    clear s0 s1 s2 s3 s4
    refine (counter0_any w.heap.size x0 x1 x2 _ k0 k1 k2).mono ?_
    rintro e v0 ⟨rfl, hb0⟩
    have J0 := I0.kept hb0
    clear I0 hb0
    have cc0 : v0.cell? ⟨w.heap.size, x0, none⟩ = some (.int .i64 (m0.at_ (x0 : Int))) := by
      rw [J0.mod.cell]
      exact Model.cell_c J0.ok (by omega)
    have ff0 := J0.mod.frozen x0
    have bb0 := m0.at_bd J0.ok (x0 : Int)
    go_wp2_with fail
    refine (countNext_any _ b _ bb0.1 bb0.2 hb'.out).mono ?_
    rintro e w' ⟨rfl, rfl⟩
    go_wp2_with fail
    clear cc0 ff0
    have I1 := J0.count (k := x0) (by omega) (countNext_bd b bb0.1 bb0.2)
    clear J0 bb0
    obtain ⟨m1, hm1⟩ : ∃ q, q = Model.mk (m0.c.set x0 (countNext (m0.at_ (x0 : Int)) b)) m0.w0 m0.w1 m0.w2 := ⟨_, rfl⟩
    rw [← hm1] at I1
    have hm1' := Lib.hid hm1
    clear hm1
    obtain ⟨s0, s1, s2, s3, -, -, -, -, s4⟩ := I1.seen.facts4
    rw [rounds_succ]
    go_wp2_with fail
    clear s0 s1 s2 s3 s4
    refine (counter1_any w.heap.size x0 x1 x2 _ k0 k1 k2).mono ?_
    rintro e v1 ⟨rfl, hb1⟩
    have J1 := I1.kept hb1
    clear I1 hb1
    have cc1 : v1.cell? ⟨w.heap.size, (64 + x1), none⟩ = some (.int .i64 (m1.at_ (64 + x1 : Int))) := by
      rw [J1.mod.cell]
      exact Model.cell_c J1.ok (by omega)
    have ff1 := J1.mod.frozen (64 + x1)
    have bb1 := m1.at_bd J1.ok (64 + x1 : Int)
    go_wp2_with fail
    refine (countNext_any _ b _ bb1.1 bb1.2 hb'.out).mono ?_
    rintro e w' ⟨rfl, rfl⟩
    go_wp2_with fail
    clear cc1 ff1
    have I2 := J1.count (k := (64 + x1)) (by omega) (countNext_bd b bb1.1 bb1.2)
    clear J1 bb1
    obtain ⟨m2, hm2⟩ : ∃ q, q = Model.mk (m1.c.set (64 + x1) (countNext (m1.at_ (64 + x1 : Int)) b)) m1.w0 m1.w1 m1.w2 := ⟨_, rfl⟩
    rw [← hm2] at I2
    have hm2' := Lib.hid hm2
    clear hm2
    obtain ⟨s0, s1, s2, s3, -, -, -, -, s4⟩ := I2.seen.facts4
    rw [rounds_succ]
    go_wp2_with fail
    clear s0 s1 s2 s3 s4
    refine (counter2_any w.heap.size x0 x1 x2 _ k0 k1 k2).mono ?_
    rintro e v2 ⟨rfl, hb2⟩
    have J2 := I2.kept hb2
    clear I2 hb2
    have cc2 : v2.cell? ⟨w.heap.size, (128 + x2), none⟩ = some (.int .i64 (m2.at_ (128 + x2 : Int))) := by
      rw [J2.mod.cell]
      exact Model.cell_c J2.ok (by omega)
    have ff2 := J2.mod.frozen (128 + x2)
    have bb2 := m2.at_bd J2.ok (128 + x2 : Int)
    go_wp2_with fail
    refine (countNext_any _ b _ bb2.1 bb2.2 hb'.out).mono ?_
    rintro e w' ⟨rfl, rfl⟩
    go_wp2_with fail
    clear cc2 ff2
    have I3 := J2.count (k := (128 + x2)) (by omega) (countNext_bd b bb2.1 bb2.2)
    clear J2 bb2
    obtain ⟨m3, hm3⟩ : ∃ q, q = Model.mk (m2.c.set (128 + x2) (countNext (m2.at_ (128 + x2 : Int)) b)) m2.w0 m2.w1 m2.w2 := ⟨_, rfl⟩
    rw [← hm3] at I3
    have hm3' := Lib.hid hm3
    clear hm3
    have hsz3 := m3.cells_size I3.ok
    have TH := I3.res.there 0 195 (by omega)
    rw [rounds_succ]
    go_wp2_with (first | (refine wpList_load_row rfl 97 (.tmp 3) rfl w.heap.size rfl 97 m3.cells (0, 0) _ I3.mod Tryz.underlying97 rfl (by rw [hsz3]; kernel_rfl) ?_) | (refine wpList_store_mid rfl 97 (.tmp 6) (.tmp 56) rfl (w.heap.size + 1 + 1) 0 m3.cells rfl rfl (by rw [hsz3]; exact TH) (by rw [hsz3]; kernel_rfl) (ones_all_cells _ _) ?_))
    obtain ⟨cs, h1, h2, h3⟩ := I3.res
    have BF := h1.setAll m3.cells.toList (by simp [hsz3, h2])
    rw [Array.toArray_toList] at BF
    refine bodyPost_ret (res_cell_tmp (by rfl) _ _ _ 97 m3.cells _ (by rfl) BF Tryz.underlying97 rfl (by rw [hsz3]; kernel_rfl)) rfl ?_
    refine ⟨?_, below_setCells (by omega) _ _ _ I3.below⟩
    rw [← learn_eq m x0 x1 x2 b k0 k1 k2 m0 m1 m2 m3 hm0'.out hm1'.out hm2'.out hm3'.out]
    rfl
end Dsc
end
section
/- The walks of package residual's state and writer. -/
set_option linter.unusedVariables false
set_option linter.unusedSimpArgs false
namespace Dsc
open Go Go.RowKit
open Go.Proofs

/-- The cells of a block that begins with a state. -/
def stL (m : Model) (before : Int) (A : Option Addr) (n c : Nat) (rest : List Value) : List Value := m.cells.toList ++ (.int .i64 before :: .slice A n c :: rest)
section
variable {w : World} {g : Nat} {t : TypeId} {m : Model} {before : Int} {A : Option Addr} {n c : Nat} {rest : List Value}
theorem stL_model (h : Blk w g t (stL m before A n c rest).toArray) : w.rangeAt g 0 m.cells.toList := fun j v hv => by
  rw [Nat.zero_add, h.cell, List.getElem?_toArray, stL, List.getElem?_append_left (by exact (List.getElem?_eq_some_iff.1 hv).1)]
  exact hv
theorem stL_at (h : Blk w g t (stL m before A n c rest).toArray) (ok : m.Ok) (k : Nat) : w.cell? ⟨g, 195 + k, none⟩ = (Value.int .i64 before :: Value.slice A n c :: rest)[k]? := by
  have := m.cells_size ok
  rw [h.cell, List.getElem?_toArray, stL, List.getElem?_append_right (by simp [this])]
  congr 1
  simp [this]
end
theorem keep3 {w w' : World} {a0 a1 : Addr} {v0 v1 : Value} (hb : Below w.heap.size w w') (h : w.cell? a0 = some v0 ∧ w.cell? a1 = some v1) : w'.cell? a0 = some v0 ∧ w'.cell? a1 = some v1 :=
  ⟨cell_later hb h.1, cell_later hb h.2⟩
theorem keep_m {w w' : World} {g k : Nat} {cs : List Value} {v0 v1 v2 : Value} (hb : Below w.heap.size w w') (h : w.rangeAt g 0 cs ∧ w.cell? ⟨k, 0, none⟩ = some v0 ∧ w.cell? ⟨k, 1, none⟩ = some v1 ∧ w.cell? ⟨k, 2, none⟩ = some v2) :
    w'.rangeAt g 0 cs ∧ w'.cell? ⟨k, 0, none⟩ = some v0 ∧ w'.cell? ⟨k, 1, none⟩ = some v1 ∧ w'.cell? ⟨k, 2, none⟩ = some v2 :=
  ⟨fun j v hv => cell_later hb (h.1 j v hv), cell_later hb h.2.1, cell_later hb h.2.2.1, cell_later hb h.2.2.2⟩
theorem below_alloc {a w : World} (h : Below a.heap.size a w) (o : Obj) : Below a.heap.size a (w.alloc o) := h.alloc h.size o
theorem keep3s {w : World} {a0 a1 : Nat} {v0 v1 : Value} {g k : Nat} (hg : g < k) (x y z : Value) (h : w.cell? ⟨g, a0, none⟩ = some v0 ∧ w.cell? ⟨g, a1, none⟩ = some v1) :
    (((w.setCell ⟨k, 0, none⟩ x).setCell ⟨k, 1, none⟩ y).setCell ⟨k, 2, none⟩ z).cell? ⟨g, a0, none⟩ = some v0 ∧ (((w.setCell ⟨k, 0, none⟩ x).setCell ⟨k, 1, none⟩ y).setCell ⟨k, 2, none⟩ z).cell? ⟨g, a1, none⟩ = some v1 := by
  have b : Below k w (((w.setCell ⟨k, 0, none⟩ x).setCell ⟨k, 1, none⟩ y).setCell ⟨k, 2, none⟩ z) := (((Below.refl k w).setCell (Nat.le_refl _) x).setCell (Nat.le_refl _) y).setCell (Nat.le_refl _) z
  exact ⟨(b.cell (p := ⟨g, a0, none⟩) hg).trans h.1, (b.cell (p := ⟨g, a1, none⟩) hg).trans h.2⟩
set_option maxRecDepth 10000 in
set_option maxHeartbeats 1000000 in
theorem chanceS_any (g : Nat) (t : TypeId) (m : Model) (before : Int) (A : Option Addr) (c : Nat) (bits : List Int) (rest : List Value) (w : World) (h : m.Ok) (hT : TabW w)
    (h0 : 0 ≤ before) (h1 : before ≤ 63) (hl : bits.length ≤ 63) (hb : ∀ b ∈ bits, b = 0 ∨ b = 1) (hR : RI w A bits) (hB : Blk w g t (stL m before A bits.length c rest).toArray) :
    Calls Tryz.prog 103 #[.pointer (some ⟨g, 0, none⟩)] w fun e w' => e = .returned (.tuple #[.int .i64 (chanceM m before bits), .agg (i3 (ctxOf before bits).x0 (ctxOf before bits).x1 (ctxOf before bits).x2)]) ∧ Below w.heap.size w w' := by
  have c0 := stL_at hB h 0
  have c1 := stL_at hB h 1
  simp at c0 c1
  have gl := hB.lt
  have HT := Lib.hid hT
  have H := Lib.hid h
  have HB := Lib.hid hB
  have HR := Lib.hid hR
  have Hb := Lib.hid hb
  have HM := Lib.hid (stL_model hB)
  clear hT h hB hR hb
  obtain ⟨n0, n1, n2, hx, k0, k1, k2⟩ : ∃ n0 n1 n2 : Nat, ctxOf before bits = ⟨n0, n1, n2⟩ ∧ n0 < 64 ∧ n1 < 64 ∧ n2 < 64 := by
    obtain ⟨a0, a1, a2⟩ := ctxOf_ok bits h0
    refine ⟨(ctxOf before bits).x0.toNat, (ctxOf before bits).x1.toNat, (ctxOf before bits).x2.toNat, ?_, by omega, by omega, by omega⟩
    rw [Int.toNat_of_nonneg a0.1, Int.toNat_of_nonneg a1.1, Int.toNat_of_nonneg a2.1]
  have HC := Lib.hid (show ∀ W, RI W A bits → Calls Tryz.prog 120 #[.int .i64 before, .slice A bits.length c] W fun e w' => e = .returned (.tuple #[.agg #[.int .i64 n0, .int .i64 n1, .int .i64 n2], .int .i64 0]) ∧ Below W.heap.size W w' from fun W hr => by
    have := of_any before A c bits W hr hl h0 h1 Hb.out
    rw [hx] at this
    exact this)
  have e1 : chanceM m before bits = m.P ⟨n0, n1, n2⟩ := by unfold chanceM; rw [hx]
  rw [e1, hx]
  have HP := Lib.hid (show ∀ W, TabW W → Calls Tryz.prog 121 #[.agg m.cells, .agg #[.int .i64 n0, .int .i64 n1, .int .i64 n2]] W fun e w' => e = .returned (.tuple #[.int .i64 (m.P ⟨n0, n1, n2⟩), .int .i64 0]) ∧ Below W.heap.size W w' from fun W hT => modelP_any m n0 n1 n2 W H.out hT k0 k1 k2)
  obtain ⟨q, hq⟩ : ∃ q, m.P ⟨n0, n1, n2⟩ = q := ⟨_, rfl⟩
  rw [hq] at HP ⊢
  clear hx e1 hq
  have hu := Tryz.underlying97
  have hi : (Tryz.prog.info? 97).map (·.size) = some m.cells.toList.length := by rw [Array.length_toList, m.cells_size H.out]; kernel_rfl
  have Hi := Lib.hid hi
  clear hi
  go_enter Tryz.func103, Tryz.ntmps103
  go_wp2_with fail
  go_cut [4] (fun a wr => ∃ k : Nat, a = .pointer (some ⟨k, 0, none⟩) ∧ w.heap.size < k ∧ Blk wr k 95 #[.int .i64 n0, .int .i64 n1, .int .i64 n2] ∧ Blk wr w.heap.size 95 #[.int .i64 0, .int .i64 0, .int .i64 0] ∧ Below w.heap.size w wr)
  case first =>
    go_region_held3 (fun w' => w'.cell? ⟨g, 195, none⟩ = some (.int .i64 before) ∧ w'.cell? ⟨g, 196, none⟩ = some (.slice A bits.length c))
      (first | go_keep | (refine keep3 (w := w) (below_then (by go_grown) (by first | (simp; done) | (simp; omega)) hK) ?_; exact ⟨c0, c1⟩) | (refine keep3 (w := w) (below_alloc (below_then (by go_grown) (by first | (simp; done) | (simp; omega)) hK) _) ?_; exact ⟨c0, c1⟩) | (refine keep3 (w := w) ((((below_then (by go_grown) (by first | (simp; done) | (simp; omega)) hK).setCell (by simp) _).setCell (by simp) _).setCell (by simp) _) ?_; exact ⟨c0, c1⟩))
      (first | (go_at_call 120; refine (HC.out _ (HR.out.kept (by go_grown))).mono ?_; rintro e w' ⟨rfl, hK⟩; obtain ⟨hq1, hq2⟩ := bcell hK))
    all_goals
      go_wp2
      go_meet
      case rel =>
        first
          | (have hb := below_then (B := w.heap.size) (w := w) (by go_grown) (by first | (simp; done) | (simp; omega)) hK
             exact ⟨_, rfl, by have := hK.size; simp at this; omega, Blk.new _ _ _, (((Blk.new w 95 #[.int .i64 0, .int .i64 0, .int .i64 0]).drew.kept hK).alloc _), below_alloc hb _⟩)
          | (have hb := below_then (B := w.heap.size) (w := w) (by go_grown) (by first | (simp; done) | (simp; omega)) hK
             refine ⟨w.heap.size + 1, rfl, by omega, ?_, ?_, ((hb.setCell (by simp) _).setCell (by simp) _).setCell (by simp) _⟩
             · exact ((((Blk.new1 w _ 95 #[.int .i64 0, .int .i64 0, .int .i64 0]).drew.kept hK).set_ 0 _).set_ 1 _).set_ 2 _
             · exact (((((Blk.new w 95 #[.int .i64 0, .int .i64 0, .int .i64 0]).alloc _).drew.kept hK).far (by simp) _).far (by simp) _).far (by simp) _)
  case rest =>
    obtain ⟨k, rfl, hk, hb1, hb2, hb3⟩ := hcut
    have B1 := Lib.hid hb1
    have B2 := Lib.hid hb2
    have B3 := Lib.hid hb3
    clear hb1 hb2 hb3
    have d0 := B1.out.cell 0
    have d1 := B1.out.cell 1
    have d2 := B1.out.cell 2
    simp at d0 d1 d2
    have RM := HM.out
    have RM2 : wc.rangeAt g 0 m.cells.toList := fun j v hv => cell_later B3.out (RM j v hv)
    clear RM c0 c1
    go_wp2_with fail
    have S0 : (fun w' : World => w'.rangeAt g 0 m.cells.toList ∧ w'.cell? ⟨k, 0, none⟩ = some (.int .i64 n0) ∧ w'.cell? ⟨k, 1, none⟩ = some (.int .i64 n1) ∧ w'.cell? ⟨k, 2, none⟩ = some (.int .i64 n2)) wc.drew := ⟨RM2, d0, d1, d2⟩
    refine wp_region_held_drew (S := fun w' : World => w'.rangeAt g 0 m.cells.toList ∧ w'.cell? ⟨k, 0, none⟩ = some (.int .i64 n0) ∧ w'.cell? ⟨k, 1, none⟩ = some (.int .i64 n1) ∧ w'.cell? ⟨k, 2, none⟩ = some (.int .i64 n2)) (by kernel_rfl) S0 (fun _ => ?_)
    refine wpAnyH_take (i := 0) (v := .pointer (some ⟨g, 0, none⟩)) rfl (by kernel_rfl) (by kernel_rfl) (by kernel_rfl) (fun _ _ _ h => h) (Or.inl ⟨by rfl, fun w hSw => by rfl⟩) S0 ?_
    try simp only [Act.put, List.setIfInBounds_toArray, List.set_cons_zero, List.set_cons_succ]
    refine wpAnyH_take (i := 1) (v := .pointer (some ⟨g, 0, none⟩)) rfl (by kernel_rfl) (by kernel_rfl) (by kernel_rfl) (fun _ _ _ h => h) (Or.inl ⟨by rfl, fun w hSw => by rfl⟩) S0 ?_
    try simp only [Act.put, List.setIfInBounds_toArray, List.set_cons_zero, List.set_cons_succ]
    refine wpAnyH_take (i := 2) (v := .pointer (some ⟨g, 0, none⟩)) rfl (by kernel_rfl) (by kernel_rfl) (by kernel_rfl) (fun _ _ _ h => h) (Or.inl ⟨by rfl, fun w hSw => by go_simp⟩) S0 ?_
    try simp only [Act.put, List.setIfInBounds_toArray, List.set_cons_zero, List.set_cons_succ]
    refine wpAnyH_take (i := 3) (v := .agg m.cells) rfl (by kernel_rfl) (by kernel_rfl) (by kernel_rfl) (fun _ _ _ h => h) (yieldsIf_load_mid (by rfl) 97 (.tmp 23) rfl g 0 rfl m.cells.toList _ (fun _ h => h.1) hu rfl Hi.out) S0 ?_
    try simp only [Act.put, List.setIfInBounds_toArray, List.set_cons_zero, List.set_cons_succ]
    refine wpAnyH_take (i := 4) (v := .agg #[.int .i64 n0, .int .i64 n1, .int .i64 n2]) rfl (by kernel_rfl) (by kernel_rfl) (by kernel_rfl) (fun _ _ _ h => h) (Or.inl ⟨by rfl, fun w hSw => by obtain ⟨s0, s1, s2, s3⟩ := hSw; clear s0; go_simp⟩) S0 ?_
    try simp only [Act.put, List.setIfInBounds_toArray, List.set_cons_zero, List.set_cons_succ]
    refine wpAnyH_all (rs := [5]) (by kernel_rfl) (by simp) ?_
    intro i hi
    obtain rfl : i = 5 := by simpa using hi
    refine wpOp_gen rfl (by rfl) ?_
    intro K' hK'
    go_simp
    refine (HP.out _ ((HT.out.of_ B3.out).drew)).mono ?_
    rintro e w1 ⟨rfl, hK⟩
    refine hK' _ _ ?_
    have S1 := keep_m hK S0
    refine ⟨S1, ?_⟩
    try simp only [Act.put, List.setIfInBounds_toArray, List.set_cons_zero, List.set_cons_succ]
    refine wpAnyH_take (i := 6) (v := .tuple #[.int .i64 q, .int .i64 0]) rfl (by kernel_rfl) (by kernel_rfl) (by kernel_rfl) (fun _ _ _ h => h) (Or.inl ⟨by rfl, fun w hSw => by rfl⟩) S1 ?_
    try simp only [Act.put, List.setIfInBounds_toArray, List.set_cons_zero, List.set_cons_succ]
    refine wpAnyH_take (i := 7) (v := .int .i64 q) rfl (by kernel_rfl) (by kernel_rfl) (by kernel_rfl) (fun _ _ _ h => h) (Or.inl ⟨by rfl, fun w hSw => by rfl⟩) S1 ?_
    try simp only [Act.put, List.setIfInBounds_toArray, List.set_cons_zero, List.set_cons_succ]
    refine wpAnyH_take (i := 8) (v := .int .i64 0) rfl (by kernel_rfl) (by kernel_rfl) (by kernel_rfl) (fun _ _ _ h => h) (Or.inl ⟨by rfl, fun w hSw => by rfl⟩) S1 ?_
    try simp only [Act.put, List.setIfInBounds_toArray, List.set_cons_zero, List.set_cons_succ]
    refine wpAnyH_take (i := 9) (v := .int .i64 q) rfl (by kernel_rfl) (by kernel_rfl) (by kernel_rfl) (fun _ _ _ h => h) (Or.inl ⟨by rfl, fun w hSw => by rfl⟩) S1 ?_
    try simp only [Act.put, List.setIfInBounds_toArray, List.set_cons_zero, List.set_cons_succ]
    refine wpAnyH_take (i := 10) (v := .int .i64 0) rfl (by kernel_rfl) (by kernel_rfl) (by kernel_rfl) (fun _ _ _ h => h) (Or.inl ⟨by rfl, fun w hSw => by rfl⟩) S1 ?_
    try simp only [Act.put, List.setIfInBounds_toArray, List.set_cons_zero, List.set_cons_succ]
    refine wpAnyH_done (by kernel_rfl) ?_ _
    go_wp2_with fail
    have bK : Below wc.heap.size wc w1 := below_undrew hK
    have R1 := Lib.hid (B1.out.kept bK)
    have R2 := Lib.hid (B2.out.kept bK)
    have BF := Lib.hid (below_then B3.out B3.out.size bK)
    obtain ⟨d0', d1', d2', -, -, -, -⟩ := R1.out.facts3
    obtain ⟨z0, z1, z2, y0, y1, y2, -⟩ := R2.out.facts3
    clear S0 S1 hK bK RM2 d0 d1 d2 hu hK'
    go_region
    go_wp2
    have q1 : Blk ((((w1.setCell ⟨w.heap.size, 0, none⟩ (.int .i64 n0)).setCell ⟨w.heap.size, 1, none⟩ (.int .i64 n1)).setCell ⟨w.heap.size, 2, none⟩ (.int .i64 n2)).drew) w.heap.size 95 #[.int .i64 n0, .int .i64 n1, .int .i64 n2] := (((R2.out.set_ 0 _).set_ 1 _).set_ 2 _)
    refine bodyPost_ret (res_tmp_cell (by rfl) _ _ _ 95 #[.int .i64 n0, .int .i64 n1, .int .i64 n2] _ (by rfl) q1 Tryz.underlying95 rfl (by kernel_rfl)) rfl ⟨rfl, ?_⟩
    exact (((BF.out.setCell (p := ⟨w.heap.size, 0, none⟩) (Nat.le_refl _) _).setCell (p := ⟨w.heap.size, 1, none⟩) (Nat.le_refl _) _).setCell (p := ⟨w.heap.size, 2, none⟩) (Nat.le_refl _) _).drew
end Dsc
end
section
/- The walks of package residual's state: learn, next. -/
set_option linter.unusedVariables false
set_option linter.unusedSimpArgs false
namespace Dsc
open Go Go.RowKit
open Go.Proofs

section
variable {w w' : World} {g : Nat} {t : TypeId}
/-- A part in the midst of a block stored anew. -/
theorem Blk.setMid {us ms ms' zs : List Value} (h : Blk w g t (us ++ (ms ++ zs)).toArray) (hl : ms'.length = ms.length) : Blk (w.setCells g us.length ms') g t (us ++ (ms' ++ zs)).toArray := by
  have hr : Row w g t (us ++ (ms ++ zs)).length (fun k => (us ++ (ms ++ zs)).getD k undef) := h.row (by simp) fun k hk => by
    rw [List.getElem?_toArray, List.getD_eq_getElem?_getD, List.getElem?_eq_getElem hk]; rfl
  refine (Row.setAll ms' us.length w hr (by simp; omega)).blk _ (by simp; omega) fun k hk => ?_
  simp only [List.length_append] at hk
  rw [List.getElem?_toArray]
  by_cases e : us.length ≤ k ∧ k < us.length + ms'.length
  · rw [if_pos e, List.getElem?_append_right e.1, List.getElem?_append_left (by omega), List.getD_eq_getElem?_getD, List.getElem?_eq_getElem (by omega)]; rfl
  · rw [if_neg e, List.getD_eq_getElem?_getD]
    by_cases e1 : k < us.length
    · rw [List.getElem?_append_left e1, List.getElem?_append_left e1, List.getElem?_eq_getElem e1]; rfl
    · rw [List.getElem?_append_right (by omega), List.getElem?_append_right (by omega), List.getElem?_append_right (by omega), List.getElem?_append_right (by omega), hl, List.getElem?_eq_getElem (by omega)]; rfl
theorem Blk.thereMid {us ms zs : List Value} (h : Blk w g t (us ++ (ms ++ zs)).toArray) : w.there g us.length ms.length := fun j hj => by
  rw [h.cell, List.getElem?_toArray, List.getElem?_append_right (by omega), List.getElem?_append_left (by omega), List.getElem?_eq_getElem (by omega)]
  exact ⟨rfl, h.frozen _⟩
theorem Blk.rangeMid {us ms zs : List Value} (h : Blk w g t (us ++ (ms ++ zs)).toArray) : w.rangeAt g us.length ms := fun j v hv => by
  have hj : j < ms.length := (List.getElem?_eq_some_iff.1 hv).1
  rw [h.cell, List.getElem?_toArray, List.getElem?_append_right (by omega), List.getElem?_append_left (by omega), show us.length + j - us.length = j by omega]
  exact hv
end
/-- What one block's owner leaves as it was: all below 'base' but that block. -/
structure Fr (g base : Nat) (w w' : World) : Prop where
  os : w'.os = w.os
  tape : w'.tape = w.tape
  output : w'.output = w.output
  size : w.heap.size ≤ w'.heap.size
  block : ∀ k, k < base → k ≠ g → w'.heap[k]? = w.heap[k]?
section
variable {g base : Nat} {w w1 w2 : World}
theorem Fr.refl (g base : Nat) (w : World) : Fr g base w w := ⟨rfl, rfl, rfl, Nat.le_refl _, fun _ _ _ => rfl⟩
theorem Fr.trans (h : Fr g base w w1) (k : Fr g base w1 w2) : Fr g base w w2 := ⟨k.os.trans h.os, k.tape.trans h.tape, k.output.trans h.output, Nat.le_trans h.size k.size, fun i a b => (k.block i a b).trans (h.block i a b)⟩
theorem Fr.of_below {B : Nat} (h : Below B w w1) (hB : base ≤ B) : Fr g base w w1 := ⟨h.os, h.tape, h.output, h.size, fun k a _ => h.block k (by omega)⟩
theorem Fr.below (h : Fr g base w w1) {B : Nat} (hB : B ≤ g) (hb : g < base) : Below B w w1 := ⟨h.os, h.tape, h.output, h.size, fun k a => h.block k (by omega) (by omega)⟩
theorem Fr.setCell (h : Fr g base w w1) (i : Nat) (v : Value) : Fr g base w (w1.setCell ⟨g, i, none⟩ v) :=
  h.trans ⟨rfl, rfl, rfl, by simp, fun k a b => Below.heap_setCell w1 ⟨g, i, none⟩ v k b⟩
theorem Fr.setCells : ∀ (vs : List Value) (o : Nat) (w1 : World), Fr g base w w1 → Fr g base w (w1.setCells g o vs)
  | [], _, _, h => h
  | v :: vs, o, w1, h => Fr.setCells vs (o + 1) _ (h.setCell o v)
end
theorem OI.setCellFar {w : World} {base g i : Nat} {v u : Value} {xs : List Int} (h : OI w base v xs) (hg : g < base) : OI (w.setCell ⟨g, i, none⟩ u) base v xs := by
  obtain ⟨h1, h2⟩ := h
  refine ⟨h1, ?_⟩
  rcases h2 with h2 | ⟨k, cap, cur, e, hk, hh, r⟩
  · exact .inl h2
  · exact .inr ⟨k, cap, cur, e, hk, (Below.heap_setCell w ⟨g, i, none⟩ u k (by show k ≠ g; omega)).trans hh, r⟩
theorem OI.setRow {base g : Nat} {v : Value} {xs : List Int} (hg : g < base) : ∀ (vs : List Value) (o : Nat) {w : World}, OI w base v xs → OI (w.setCells g o vs) base v xs
  | [], _, _, h => h
  | u :: vs, o, _, h => OI.setRow hg vs (o + 1) (h.setCellFar hg)
theorem OI.ri {w : World} {base n c : Nat} {A : Option Addr} {xs : List Int} (h : OI w base (.slice A n c) xs) : RI w A xs := by
  obtain ⟨A', c', e, r, _⟩ := h.slice
  cases e
  exact r
/-- A state in its block. -/
structure StI (w0 : World) (base : Nat) (w : World) (g : Nat) (t : TypeId) (m : Model) (before : Int) (bits : List Int) (rest : List Value) : Prop where
  ok : m.Ok
  tab : TabW w0
  hg : w0.heap.size ≤ g
  hb : g < base
  below : Below w0.heap.size w0 w
  base_le : base ≤ w.heap.size
  own : ∃ A c, OI w base (.slice A bits.length c) bits ∧ RI w A bits ∧ Blk w g t (stL m before A bits.length c rest).toArray
theorem StI.tabw {w0 w : World} {base g : Nat} {t : TypeId} {m : Model} {before : Int} {bits : List Int} {rest : List Value} (h : StI w0 base w g t m before bits rest) : TabW w := h.tab.of_ h.below
theorem StI.drew {w0 w : World} {base g : Nat} {t : TypeId} {m : Model} {before : Int} {bits : List Int} {rest : List Value} (h : StI w0 base w g t m before bits rest) : StI w0 base w.drew g t m before bits rest := by
  obtain ⟨A, c, o, r, k⟩ := h.own
  exact ⟨h.ok, h.tab, h.hg, h.hb, h.below.drew, h.base_le, A, c, o.drew, r.drew, k.drew⟩
theorem Fr.drew {g base : Nat} {w w1 : World} (h : Fr g base w w1) : Fr g base w w1.drew := ⟨h.os, h.tape, h.output, h.size, h.block⟩
theorem Fr.undrew {g base : Nat} {w w1 : World} (h : Fr g base w.drew w1) : Fr g base w w1 := ⟨h.os, h.tape, h.output, h.size, h.block⟩
/-- A state between two numbers: no bits. -/
structure StN (w0 w : World) (g : Nat) (t : TypeId) (m : Model) (before : Int) (rest : List Value) : Prop where
  ok : m.Ok
  tab : TabW w0
  hg : w0.heap.size ≤ g
  below : Below w0.heap.size w0 w
  blk : Blk w g t (stL m before none 0 0 rest).toArray
theorem StN.st {w0 w : World} {base g : Nat} {t : TypeId} {m : Model} {before : Int} {rest : List Value} (h : StN w0 w g t m before rest) (h1 : g < base) (h2 : base ≤ w.heap.size) : StI w0 base w g t m before [] rest :=
  ⟨h.ok, h.tab, h.hg, h1, h.below, h2, none, 0, OI.nil _ _, RI.nil _ _, h.blk⟩
theorem StN.kept {w0 w w' : World} {g : Nat} {t : TypeId} {m : Model} {before : Int} {rest : List Value} (h : StN w0 w g t m before rest) (hb : Below w.heap.size w w') : StN w0 w' g t m before rest :=
  ⟨h.ok, h.tab, h.hg, below_then h.below h.below.size hb, h.blk.kept hb⟩
theorem OI.fr {w w' : World} {base base1 g : Nat} {v : Value} {xs : List Int} (h : OI w base v xs) (hf : Fr g base1 w w') (hb : w.heap.size ≤ base1) (hg : g < base) : OI w' base v xs := by
  obtain ⟨h1, h2⟩ := h
  refine ⟨h1, ?_⟩
  rcases h2 with h2 | ⟨k, cap, cur, e, hk, hh, r⟩
  · exact .inl h2
  · have hlt : k < w.heap.size := by
      rcases Nat.lt_or_ge k w.heap.size with h | h
      · exact h
      · rw [Array.getElem?_eq_none h] at hh; cases hh
    exact .inr ⟨k, cap, cur, e, hk, (hf.block k (by omega) (by omega)).trans hh, r⟩
theorem stL_step {m m' : Model} {before : Int} {A : Option Addr} {n c : Nat} {rest : List Value} {w : World} {g : Nat} {t : TypeId} (h : Blk w g t (stL m before A n c rest).toArray) (ok : m.Ok) (ok' : m'.Ok) :
    Blk (w.setCells g 0 m'.cells.toList) g t (stL m' before A n c rest).toArray :=
  Blk.setMid (us := []) h (by rw [Array.length_toList, Array.length_toList, m'.cells_size ok', m.cells_size ok])
theorem stL_bits {m : Model} {before : Int} {A A' : Option Addr} {n c n' c' : Nat} {rest : List Value} {w : World} {g : Nat} {t : TypeId} (h : Blk w g t (stL m before A n c rest).toArray) (ok : m.Ok) :
    Blk (w.setCell ⟨g, 196, none⟩ (.slice A' n' c')) g t (stL m before A' n' c' rest).toArray := by
  have hz : (m.cells.toList ++ [Value.int .i64 before]).length = 196 := by simp [m.cells_size ok]
  have := Blk.setMid (us := m.cells.toList ++ [.int .i64 before]) (ms := [.slice A n c]) (ms' := [.slice A' n' c']) (zs := rest) (w := w) (g := g) (t := t) (by simpa [stL] using h) rfl
  rw [hz] at this
  rw [show w.setCell ⟨g, 196, none⟩ (.slice A' n' c') = w.setCells g 196 [.slice A' n' c'] from rfl]
  simpa [stL] using this
theorem stL_before {m : Model} {before b' : Int} {A : Option Addr} {n c : Nat} {rest : List Value} {w : World} {g : Nat} {t : TypeId} (h : Blk w g t (stL m before A n c rest).toArray) (ok : m.Ok) :
    Blk (w.setCell ⟨g, 195, none⟩ (.int .i64 b')) g t (stL m b' A n c rest).toArray := by
  have hz : m.cells.toList.length = 195 := by simp [m.cells_size ok]
  have := Blk.setMid (us := m.cells.toList) (ms := [.int .i64 before]) (ms' := [.int .i64 b']) (zs := .slice A n c :: rest) (w := w) (g := g) (t := t) (by simpa [stL] using h) rfl
  rw [hz] at this
  rw [show w.setCell ⟨g, 195, none⟩ (.int .i64 b') = w.setCells g 195 [.int .i64 b'] from rfl]
  simpa [stL] using this
theorem stL_rest {m : Model} {before : Int} {A : Option Addr} {n c : Nat} {rest rest' : List Value} {w : World} {g : Nat} {t : TypeId} (h : Blk w g t (stL m before A n c rest).toArray) (ok : m.Ok) (hl : rest'.length = rest.length) :
    Blk (w.setCells g 197 rest') g t (stL m before A n c rest').toArray := by
  have hz : (m.cells.toList ++ [Value.int .i64 before, .slice A n c]).length = 197 := by simp [m.cells_size ok]
  have := Blk.setMid (us := m.cells.toList ++ [.int .i64 before, .slice A n c]) (ms := rest) (ms' := rest') (zs := []) (w := w) (g := g) (t := t) (by simpa [stL] using h) hl
  rw [hz] at this
  simpa [stL] using this
set_option maxRecDepth 10000 in
set_option maxHeartbeats 1000000 in
theorem learnS_any (w0 : World) (base g : Nat) (t : TypeId) (m : Model) (before : Int) (bits : List Int) (rest : List Value) (n0 n1 n2 : Nat) (b : Int) (w : World) (hS : StI w0 base w g t m before bits rest)
    (hb : b = 0 ∨ b = 1) (k0 : n0 < 64) (k1 : n1 < 64) (k2 : n2 < 64) (hl : bits.length ≤ 1000) :
    Calls Tryz.prog 105 #[.pointer (some ⟨g, 0, none⟩), .agg (i3 n0 n1 n2), .int .i64 b] w fun e w' => e = .returned (.tuple #[]) ∧ StI w0 base w' g t (m.learn ⟨n0, n1, n2⟩ b) before (bits ++ [b]) rest ∧ Fr g base w w' := by
  obtain ⟨A, c, ho, hr, hk⟩ := hS.own
  have hz := m.cells_size hS.ok
  have ok' : (m.learn ⟨n0, n1, n2⟩ b).Ok := Model.learn_ok hS.ok _ b
  obtain ⟨m', hm⟩ : ∃ m', m.learn ⟨n0, n1, n2⟩ b = m' := ⟨_, rfl⟩
  rw [hm] at ok'
  have hz' := m'.cells_size ok'
  have HL := Lib.hid (show ∀ W, TabW W → Calls Tryz.prog 125 #[.agg m.cells, .agg #[.int .i64 n0, .int .i64 n1, .int .i64 n2], .int .i64 b] W fun e w' => e = .returned (.tuple #[.agg m'.cells, .int .i64 0]) ∧ Below W.heap.size W w' from fun W hT => hm ▸ modelLearn_any m n0 n1 n2 b W hS.ok hT hb k0 k1 k2)
  rw [hm]
  have HS := Lib.hid hS
  have HO := Lib.hid ho
  have HR := Lib.hid hr
  have HK := Lib.hid hk
  have gl := hk.lt
  have hi : (Tryz.prog.info? 97).map (·.size) = some 195 := by kernel_rfl
  have Hi := Lib.hid hi
  have ok2 := Lib.hid ok'
  clear hS ho hr hk hm ok' hi hb
  go_enter Tryz.func105, Tryz.ntmps105
  go_wp2_with fail
  obtain ⟨W, hW⟩ : ∃ W, W = (w.alloc (.cells (i3 n0 n1 n2) 95)).drew := ⟨_, rfl⟩
  have hb0 : Below w.heap.size w W := by rw [hW]; exact Below.drew (by go_grown)
  have x3 : Blk W w.heap.size 95 #[.int .i64 n0, .int .i64 n1, .int .i64 n2] := by rw [hW]; exact Blk.new _ _ _
  obtain ⟨e0, e1, e2, -, -, -, -⟩ := x3.facts3
  have KW : Blk W g t (stL m before A bits.length c rest).toArray := HK.out.kept hb0
  have TW : TabW W := HS.out.tabw.of_ hb0
  refine wp_region_any_drew (by kernel_rfl) ?_
  rw [← hW]
  have Hb0 := Lib.hid hb0
  have KW' := Lib.hid KW
  have TW' := Lib.hid TW
  clear hW hb0 x3 KW TW
  refine wpAny_take (i := 0) (v := .pointer (some ⟨g, 0, none⟩)) rfl (by decide +kernel) (by decide +kernel) (by decide +kernel) (fun _ _ _ h => h) (Or.inl ⟨by rfl, fun w => by rfl⟩) ?_
  try simp only [Act.put, Array.toArray_toList, List.getElem_toArray, List.getElem_cons_zero, List.getElem_cons_succ, List.setIfInBounds_toArray, List.set_cons_zero, List.set_cons_succ]
  refine wpAny_take (i := 1) (v := .pointer (some ⟨g, 0, none⟩)) rfl (by decide +kernel) (by decide +kernel) (by decide +kernel) (fun _ _ _ h => h) (Or.inl ⟨by rfl, fun w => by rfl⟩) ?_
  try simp only [Act.put, Array.toArray_toList, List.getElem_toArray, List.getElem_cons_zero, List.getElem_cons_succ, List.setIfInBounds_toArray, List.set_cons_zero, List.set_cons_succ]
  refine wpAny_take (i := 2) (v := .pointer (some ⟨g, 0, none⟩)) rfl (by decide +kernel) (by decide +kernel) (by decide +kernel) (fun _ _ _ h => h) (Or.inl ⟨by rfl, fun w => by rfl⟩) ?_
  try simp only [Act.put, Array.toArray_toList, List.getElem_toArray, List.getElem_cons_zero, List.getElem_cons_succ, List.setIfInBounds_toArray, List.set_cons_zero, List.set_cons_succ]
  refine wpAny_take (i := 3) (v := .pointer (some ⟨g, 0, none⟩)) rfl (by decide +kernel) (by decide +kernel) (by decide +kernel) (fun _ _ _ h => h) (Or.inl ⟨by rfl, fun w => by go_simp⟩) ?_
  try simp only [Act.put, Array.toArray_toList, List.getElem_toArray, List.getElem_cons_zero, List.getElem_cons_succ, List.setIfInBounds_toArray, List.set_cons_zero, List.set_cons_succ]
  refine wpAny_take (i := 6) (v := .int .i64 b) rfl (by decide +kernel) (by decide +kernel) (by decide +kernel) (fun _ _ _ h => h) (Or.inl ⟨by rfl, fun w => by rfl⟩) ?_
  try simp only [Act.put, Array.toArray_toList, List.getElem_toArray, List.getElem_cons_zero, List.getElem_cons_succ, List.setIfInBounds_toArray, List.set_cons_zero, List.set_cons_succ]
  have hi3 : ∀ K' : Act → World → Prop, True := fun _ => trivial
  refine wpAny_all (rs := [4, 5]) (by decide +kernel) (by simp) ?_
  intro i hi
  have hi2 : i = 4 ∨ i = 5 := by simpa using hi
  clear hi hi3
  rcases hi2 with rfl | rfl
  refine wpOp_load 97 (.tmp 10) rfl (by rfl) rfl g 0 (by rfl) m.cells.toList _ (stL_model KW'.out) Tryz.underlying97 rfl (by rw [Array.length_toList, hz]; exact Hi.out) ?_
  try simp only [Act.put, Array.toArray_toList, List.getElem_toArray, List.getElem_cons_zero, List.getElem_cons_succ, List.setIfInBounds_toArray, List.set_cons_zero, List.set_cons_succ]
  refine wpAny_all (rs := [5]) (by decide +kernel) (by simp) ?_
  intro i hi
  obtain rfl : i = 5 := by simpa using hi
  refine wpOp_value (w' := W) (v := .agg #[.int .i64 n0, .int .i64 n1, .int .i64 n2]) rfl (by rfl) (by go_simp) ?_
  try simp only [Act.put, Array.toArray_toList, List.getElem_toArray, List.getElem_cons_zero, List.getElem_cons_succ, List.setIfInBounds_toArray, List.set_cons_zero, List.set_cons_succ]
  rotate_left 1
  refine wpOp_value (w' := W) (v := .agg #[.int .i64 n0, .int .i64 n1, .int .i64 n2]) rfl (by rfl) (by go_simp) ?_
  try simp only [Act.put, Array.toArray_toList, List.getElem_toArray, List.getElem_cons_zero, List.getElem_cons_succ, List.setIfInBounds_toArray, List.set_cons_zero, List.set_cons_succ]
  refine wpAny_all (rs := [4]) (by decide +kernel) (by simp) ?_
  intro i hi
  obtain rfl : i = 4 := by simpa using hi
  refine wpOp_load 97 (.tmp 10) rfl (by rfl) rfl g 0 (by rfl) m.cells.toList _ (stL_model KW'.out) Tryz.underlying97 rfl (by rw [Array.length_toList, hz]; exact Hi.out) ?_
  try simp only [Act.put, Array.toArray_toList, List.getElem_toArray, List.getElem_cons_zero, List.getElem_cons_succ, List.setIfInBounds_toArray, List.set_cons_zero, List.set_cons_succ]
  all_goals
    refine wpAny_all (rs := [7]) (by decide +kernel) (by simp) ?_
    intro i hi
    obtain rfl : i = 7 := by simpa using hi
    refine wpOp_gen rfl (by rfl) ?_
    intro K' hK'
    go_simp
    refine (HL.out _ TW'.out).mono ?_
    rintro e w1 ⟨rfl, hK⟩
    refine hK' _ _ ?_
    clear hK'
    try simp only [Act.put, Array.toArray_toList, List.getElem_toArray, List.getElem_cons_zero, List.getElem_cons_succ, List.setIfInBounds_toArray, List.set_cons_zero, List.set_cons_succ]
    refine wpAny_take (i := 8) (v := .tuple #[.agg m'.cells, .int .i64 0]) rfl (by decide +kernel) (by decide +kernel) (by decide +kernel) (fun _ _ _ h => h) (Or.inl ⟨by rfl, fun w => by rfl⟩) ?_
    try simp only [Act.put, Array.toArray_toList, List.getElem_toArray, List.getElem_cons_zero, List.getElem_cons_succ, List.setIfInBounds_toArray, List.set_cons_zero, List.set_cons_succ]
    refine wpAny_take (i := 9) (v := .agg m'.cells) rfl (by decide +kernel) (by decide +kernel) (by decide +kernel) (fun _ _ _ h => h) (Or.inl ⟨by rfl, fun w => by rfl⟩) ?_
    try simp only [Act.put, Array.toArray_toList, List.getElem_toArray, List.getElem_cons_zero, List.getElem_cons_succ, List.setIfInBounds_toArray, List.set_cons_zero, List.set_cons_succ]
    refine wpAny_take (i := 10) (v := .int .i64 0) rfl (by decide +kernel) (by decide +kernel) (by decide +kernel) (fun _ _ _ h => h) (Or.inl ⟨by rfl, fun w => by rfl⟩) ?_
    try simp only [Act.put, Array.toArray_toList, List.getElem_toArray, List.getElem_cons_zero, List.getElem_cons_succ, List.setIfInBounds_toArray, List.set_cons_zero, List.set_cons_succ]
    refine wpAny_take (i := 11) (v := .pointer (some ⟨g, 0, none⟩)) rfl (by decide +kernel) (by decide +kernel) (by decide +kernel) (fun _ _ _ h => h) (Or.inl ⟨by rfl, fun w => by rfl⟩) ?_
    try simp only [Act.put, Array.toArray_toList, List.getElem_toArray, List.getElem_cons_zero, List.getElem_cons_succ, List.setIfInBounds_toArray, List.set_cons_zero, List.set_cons_succ]
    refine wpAny_take (i := 12) (v := .pointer (some ⟨g, 0, none⟩)) rfl (by decide +kernel) (by decide +kernel) (by decide +kernel) (fun _ _ _ h => h) (Or.inl ⟨by rfl, fun w => by go_simp⟩) ?_
    try simp only [Act.put, Array.toArray_toList, List.getElem_toArray, List.getElem_cons_zero, List.getElem_cons_succ, List.setIfInBounds_toArray, List.set_cons_zero, List.set_cons_succ]
    have lz : m.cells.toList.length = 195 := by rw [Array.length_toList, hz]
    have K1 : Blk w1 g t (stL m before A bits.length c rest).toArray := KW'.out.kept hK
    refine wpAny_all (rs := [13]) (by decide +kernel) (by simp) ?_
    intro i hi
    obtain rfl : i = 13 := by simpa using hi
    refine wpOp_store 97 (.tmp 18) (.tmp 15) rfl (by rfl) rfl g 0 m'.cells (by rfl) (by rfl) (by have h9 := Blk.thereMid (us := []) K1; rw [lz] at h9; rw [hz']; exact h9) (by rw [hz']; exact Hi.out) (ones_all_cells _ _) ?_
    try simp only [Act.put, Array.toArray_toList, List.getElem_toArray, List.getElem_cons_zero, List.getElem_cons_succ, List.setIfInBounds_toArray, List.set_cons_zero, List.set_cons_succ]
    refine wpAny_done (by decide +kernel) ?_ _
    have K2 := stL_step K1 HS.out.ok ok2.out
    have F1 : Fr g base w w1 := Fr.of_below (below_then Hb0.out Hb0.out.size hK) HS.out.base_le
    have F2 : Fr g base w (w1.setCells g 0 m'.cells.toList) := Fr.setCells _ _ _ F1
    obtain ⟨w2, hw2⟩ : ∃ w2, w2 = w1.setCells g 0 m'.cells.toList := ⟨_, rfl⟩
    rw [← hw2] at K2 F2 ⊢
    have O1 : OI w1 base (.slice A bits.length c) bits := (HO.out.kept Hb0.out).kept hK
    have O2 : OI w2 base (.slice A bits.length c) bits := by rw [hw2]; exact OI.setRow HS.out.hb _ _ O1
    have cc := stL_at K2 ok2.out 1
    simp at cc
    have cf := K2.frozen 196
    have cl := K2.lt
    have bs2 := F2.size
    have K2' := Lib.hid K2
    have F2' := Lib.hid F2
    have O2' := Lib.hid O2
    have hbase := HS.out.base_le
    have hgb := HS.out.hb
    clear hw2 K1 K2 F1 F2 O1 O2 e0 e1 e2 hK lz hi gl
    go_wp2_with (refine app_int base rfl (.tmp 23) (.tmp 25) rfl (.slice A bits.length c) bits b rfl rfl O2'.out (by omega) (by omega) ?_; intro v3 w3 O3 _ hb3; obtain ⟨A3, c3, rfl, R3, _⟩ := O3.slice; have q1 := (hb3.cell (p := ⟨g, 196, none⟩) hgb).trans cc; have q2 := (hb3.frozen (p := ⟨g, 196, none⟩) hgb).trans cf)
    go_end0
    have F3 : Fr g base w (w3.setCell ⟨g, 196, none⟩ (.slice A3 (bits.length + 1) c3)) := (F2'.out.trans (Fr.of_below hb3 (Nat.le_refl _))).setCell _ _
    have O4 : OI (w3.setCell ⟨g, 196, none⟩ (.slice A3 (bits.length + 1) c3)) base (.slice A3 (bits ++ [b]).length c3) (bits ++ [b]) := O3.setCellFar hgb
    have K4 : Blk (w3.setCell ⟨g, 196, none⟩ (.slice A3 (bits.length + 1) c3)) g t (stL m' before A3 (bits ++ [b]).length c3 rest).toArray := by
      have := stL_bits (A' := A3) (n' := bits.length + 1) (c' := c3) (K2'.out.below hb3 hgb) ok2.out
      simpa using this
    exact ⟨rfl, ⟨ok2.out, HS.out.tab, HS.out.hg, hgb, HS.out.below.trans (F3.below HS.out.hg hgb), by have := F3.size; omega, A3, c3, O4, O4.ri, K4⟩, F3⟩
end Dsc
end
