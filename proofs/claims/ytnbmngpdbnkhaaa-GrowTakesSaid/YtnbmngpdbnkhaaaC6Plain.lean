/- Bits of whole numbers, counted. Conditions: none. -/
import Derived.Test.YtnbmngpdbnkhaaaC6Types
import Derived.Laws.Bits128
set_option linter.unusedVariables false
set_option linter.unusedSimpArgs false
namespace Go.Sk
theorem ofInt_wrap (n : Int) : BitVec.ofInt 64 (IntKind.i64.wrap n) = BitVec.ofInt 64 n := by
  apply BitVec.eq_of_toNat_eq
  simp only [BitVec.toNat_ofInt]
  simp [IntKind.wrap, IntKind.signed, IntKind.bits]
  omega
theorem ofInt_nat (b : BitVec 64) : BitVec.ofInt 64 (b.toNat : Int) = b := by
  simp [BitVec.ofInt_natCast]
theorem ofInt_and (x y : Int) : BitVec.ofInt 64 (Go.bits .and .i64 x y) = BitVec.ofInt 64 x &&& BitVec.ofInt 64 y := by
  show BitVec.ofInt 64 (IntKind.i64.wrap ((BitVec.ofInt 64 x &&& BitVec.ofInt 64 y).toNat : Int)) = _
  rw [ofInt_wrap, ofInt_nat]
theorem and_swap (x y z : Int) : Go.bits .and .i64 (Go.bits .and .i64 x y) z = Go.bits .and .i64 (Go.bits .and .i64 x z) y := by
  show IntKind.i64.wrap ((BitVec.ofInt 64 (Go.bits .and .i64 x y) &&& BitVec.ofInt 64 z).toNat : Int) = IntKind.i64.wrap ((BitVec.ofInt 64 (Go.bits .and .i64 x z) &&& BitVec.ofInt 64 y).toNat : Int)
  rw [ofInt_and, ofInt_and, BitVec.and_assoc, BitVec.and_comm (BitVec.ofInt 64 y), ← BitVec.and_assoc]
theorem i64_and1 (n : Int) : Go.bits .and .i64 n 1 = n % 2 := by
  have h : (BitVec.ofInt 64 n &&& BitVec.ofInt 64 1).toNat = (BitVec.ofInt 64 n).toNat % 2 := by
    rw [BitVec.toNat_and]
    have : (BitVec.ofInt 64 1).toNat = 2 ^ 1 - 1 := by decide
    rw [this, Nat.and_two_pow_sub_one_eq_mod]
  show IntKind.i64.wrap ((BitVec.ofInt 64 n &&& BitVec.ofInt 64 1).toNat : Int) = _
  rw [h, BitVec.toNat_ofInt]
  simp [IntKind.wrap, IntKind.signed, IntKind.bits]
  omega
/-- The i-th bit. -/
def bitN (m : Int) (i : Nat) : Int := (m / 2 ^ i) % 2
theorem bitN_two (m : Int) (i : Nat) : bitN m i = 0 ∨ bitN m i = 1 := by unfold bitN; omega
theorem shr_bit (m : Int) (i : Nat) (h : i < 7) : Go.bits .and .i64 (m.fdiv (2 ^ min (i : Int).toNat IntKind.i64.bits)) 1 = bitN m i := by
  rw [i64_and1]
  have : min (i : Int).toNat IntKind.i64.bits = i := by simp [IntKind.bits]; omega
  rw [this, Int.fdiv_eq_ediv_of_nonneg _ (Int.le_of_lt (Int.pow_pos (by decide)))]
  rfl
def countN (m : Int) : Nat → Int
  | 0 => 0
  | i + 1 => countN m i + bitN m i
theorem countN_le (m : Int) (i : Nat) : 0 ≤ countN m i ∧ countN m i ≤ i := by
  induction i with
  | zero => simp [countN]
  | succ i ih => simp only [countN]; have := bitN_two m i; omega
theorem count_mod (m : Int) : countN (m % 128) 7 = countN m 7 := by
  simp only [countN, bitN]
  omega
theorem count_and (x b : Int) : countN (Go.bits .and .i64 (Go.bits .and .i64 x 127) b) 7 = countN (Go.bits .and .i64 x b) 7 := by
  rw [and_swap, i64_and127, count_mod]
theorem wrap_count (m : Int) (i : Nat) (h : i < 7) : IntKind.i64.wrap (countN m i + bitN m i) = countN m (i + 1) := by
  have h1 := countN_le m i
  have h2 := bitN_two m i
  simp only [countN]
  simp [IntKind.wrap, IntKind.signed, IntKind.bits]
  omega
def quorumF (v b : Int) : Bool := decide (countN (Go.bits .and .i64 v b) 7 > (countN v 7) / 2)
theorem quorum_ref (v b : Int) : decide (2 * countN (Go.bits .and .i64 (Go.bits .and .i64 v 127) b) 7 > countN (Go.bits .and .i64 v 127) 7) = quorumF v b := by
  unfold quorumF
  rw [count_and, i64_and127, count_mod]
  have h1 := countN_le v 7
  have h2 := countN_le (Go.bits .and .i64 v b) 7
  apply decide_eq_decide.2
  omega
end Go.Sk
