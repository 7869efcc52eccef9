/- Plain words: a string's byte. No program, no model in sight. -/
namespace Go.Proofs.Ythadhnmbddddbaa
/-- Byte i of a string, as a number (0 behind its end). -/
def bt (s : ByteArray) (i : Nat) : Nat := (s.data.toList.getD i 0).toNat
theorem bt_lt (s : ByteArray) (i : Nat) : bt s i < 256 := UInt8.toNat_lt _
theorem cast1 (k : Nat) : ((k + 1 : Nat) : Int) = (k : Int) + 1 := Int.natCast_succ k
theorem mul_bd {a b A B : Int} (h1 : 0 ≤ a) (h2 : a ≤ A) (h3 : 0 ≤ b) (h4 : b ≤ B) : 0 ≤ a * b ∧ a * b ≤ A * B :=
  ⟨Int.mul_nonneg h1 h3, Int.mul_le_mul h2 h4 h3 (Int.le_trans h1 h2)⟩
end Go.Proofs.Ythadhnmbddddbaa
