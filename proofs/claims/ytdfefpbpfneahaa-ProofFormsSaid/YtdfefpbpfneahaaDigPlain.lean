/- MD5 in plain words: rounds, blocks, the padding. No program in sight but the numbers' own operations. -/
import Derived.Test.YtdfefpbpfneahaaStr
import Derived.Test.YtdfefpbpfneahaaPlain
import Derived.Test.YtdfefpbpfneahaaNum
namespace Go.Proofs.Ytdfefpbpfneahaa
open Go.RowKit
set_option linter.unusedVariables false
set_option linter.unusedSimpArgs false
theorem bits_rng (op : BinOp) (a b : Int) : 0 ≤ bits op .u32 a b ∧ bits op .u32 a b < 4294967296 := by
  unfold bits
  split <;> (rw [IntKind.wrap_u32]; omega)
def nt (x : Int) : Int := bits .xor .u32 IntKind.u32.max x
def fF (i : Nat) (b c d : Int) : Int :=
  if i / 16 = 0 then bits .or .u32 (bits .and .u32 b c) (bits .and .u32 (nt b) d)
  else if i / 16 = 1 then bits .or .u32 (bits .and .u32 d b) (bits .and .u32 (nt d) c)
  else if i / 16 = 2 then bits .xor .u32 (bits .xor .u32 b c) d
  else bits .xor .u32 c (bits .or .u32 b (nt d))
def fG (i : Nat) : Nat := if i / 16 = 0 then i else if i / 16 = 1 then (5 * i + 1) % 16 else if i / 16 = 2 then (3 * i + 5) % 16 else 7 * i % 16
def fT (i : Nat) : Nat := [7, 12, 17, 22, 5, 9, 14, 20, 4, 11, 16, 23, 6, 10, 15, 21].getD (i / 16 * 4 + i % 4) 0
def kL : List Int := [3614090360, 3905402710, 606105819, 3250441966, 4118548399, 1200080426, 2821735955, 4249261313, 1770035416, 2336552879, 4294925233, 2304563134, 1804603682, 4254626195, 2792965006, 1236535329, 4129170786, 3225465664, 643717713, 3921069994, 3593408605, 38016083, 3634488961, 3889429448, 568446438, 3275163606, 4107603335, 1163531501, 2850285829, 4243563512, 1735328473, 2368359562, 4294588738, 2272392833, 1839030562, 4259657740, 2763975236, 1272893353, 4139469664, 3200236656, 681279174, 3936430074, 3572445317, 76029189, 3654602809, 3873151461, 530742520, 3299628645, 4096336452, 1126891415, 2878612391, 4237533241, 1700485571, 2399980690, 4293915773, 2240044497, 1873313359, 4264355552, 2734768916, 1309151649, 4149444226, 3174756917, 718787259, 3951481745]
def fK (i : Nat) : Int := kL.getD i 0
def rotl (x : Int) (t : Nat) : Int := bits .or .u32 (x * 2 ^ t % 4294967296) (x / 2 ^ (32 - t))
theorem fF_rng (i : Nat) (b c d : Int) : 0 ≤ fF i b c d ∧ fF i b c d < 4294967296 := by
  unfold fF; repeat' split
  all_goals exact bits_rng _ _ _
theorem rotl_rng (x : Int) (t : Nat) : 0 ≤ rotl x t ∧ rotl x t < 4294967296 := bits_rng _ _ _
theorem fG_lt (i : Nat) (h : i < 64) : fG i < 16 := by unfold fG; repeat' split
                                                       all_goals omega
theorem fT_rng (i : Nat) (h : i < 64) : 1 ≤ fT i ∧ fT i ≤ 31 := by
  have h1 : i / 16 * 4 + i % 4 < 16 := by omega
  unfold fT
  generalize i / 16 * 4 + i % 4 = j at h1
  have : j = 0 ∨ j = 1 ∨ j = 2 ∨ j = 3 ∨ j = 4 ∨ j = 5 ∨ j = 6 ∨ j = 7 ∨ j = 8 ∨ j = 9 ∨ j = 10 ∨ j = 11 ∨ j = 12 ∨ j = 13 ∨ j = 14 ∨ j = 15 := by omega
  rcases this with rfl | rfl | rfl | rfl | rfl | rfl | rfl | rfl | rfl | rfl | rfl | rfl | rfl | rfl | rfl | rfl <;> decide
theorem kL_all : ∀ x ∈ kL, 0 ≤ x ∧ x < 4294967296 := by decide
theorem fK_rng (i : Nat) (h : i < 64) : 0 ≤ fK i ∧ fK i < 4294967296 := by
  have hl : kL.length = 64 := by decide
  unfold fK
  rw [getD_lt _ _ _ (by omega)]
  exact kL_all _ (List.getElem_mem _)
structure St where
  a : Int
  b : Int
  c : Int
  d : Int
def St.ok (s : St) : Prop := (0 ≤ s.a ∧ s.a < 4294967296) ∧ (0 ≤ s.b ∧ s.b < 4294967296) ∧ (0 ≤ s.c ∧ s.c < 4294967296) ∧ (0 ≤ s.d ∧ s.d < 4294967296)
def inner (W : Nat → Int) (i : Nat) (s : St) : Int := (s.a + fF i s.b s.c s.d + fK i + W (fG i)) % 4294967296
def rnd (W : Nat → Int) (i : Nat) (s : St) : St := ⟨s.d, (s.b + rotl (inner W i s) (fT i)) % 4294967296, s.b, s.c⟩
def rnds (W : Nat → Int) (s : St) : Nat → St
  | 0 => s
  | i + 1 => rnd W i (rnds W s i)
theorem rnd_ok {W : Nat → Int} {i : Nat} {s : St} (h : s.ok) : (rnd W i s).ok := by
  obtain ⟨_, h2, h3, h4⟩ := h
  exact ⟨h4, ⟨by show 0 ≤ _ % _; omega, by show _ % _ < _; omega⟩, h2, h3⟩
theorem rnds_ok {W : Nat → Int} {s : St} (h : s.ok) : ∀ i, (rnds W s i).ok
  | 0 => h
  | i + 1 => rnd_ok (rnds_ok h i)
/-- A block's words. -/
def wd (x : ByteArray) (j : Nat) : Int := byt x (4 * j) + byt x (4 * j + 1) * 256 + byt x (4 * j + 2) * 65536 + byt x (4 * j + 3) * 16777216
theorem wd_rng (x : ByteArray) (j : Nat) : 0 ≤ wd x j ∧ wd x j < 4294967296 := by
  have a := byt_range x (4 * j); have b := byt_range x (4 * j + 1); have c := byt_range x (4 * j + 2); have d := byt_range x (4 * j + 3)
  unfold wd; omega
def St.add (s t : St) : St := ⟨(s.a + t.a) % 4294967296, (s.b + t.b) % 4294967296, (s.c + t.c) % 4294967296, (s.d + t.d) % 4294967296⟩
def blk (s : St) (x : ByteArray) : St := s.add (rnds (wd x) s 64)
theorem add_ok (s t : St) : (s.add t).ok := by
  refine ⟨⟨?_, ?_⟩, ⟨?_, ?_⟩, ⟨?_, ?_⟩, ⟨?_, ?_⟩⟩ <;> (unfold St.add; simp only []; omega)
theorem blk_ok (s : St) (x : ByteArray) : (blk s x).ok := add_ok _ _
def st0 : St := ⟨1732584193, 4023233417, 2562383102, 271733878⟩
theorem st0_ok : st0.ok := by unfold St.ok st0; decide
def blks (x : ByteArray) : Nat → St
  | 0 => st0
  | j + 1 => blk (blks x j) (x.extract (64 * j) (64 * j + 64))
theorem blks_ok (x : ByteArray) : ∀ j, (blks x j).ok
  | 0 => st0_ok
  | _ + 1 => blk_ok _ _
def le4 (x : Int) : List Int := [x % 256, x / 256 % 256, x / 65536 % 256, x / 16777216 % 256]
def stOut (s : St) : ByteArray := strOfNums (le4 s.a ++ le4 s.b ++ le4 s.c ++ le4 s.d)
def zeros (n : Nat) : Nat := (119 - n % 64) % 64
def tailOf (n : Nat) : List Int := 128 :: List.replicate (zeros n) 0 ++ (le4 ((n : Int) * 8 % 4294967296) ++ le4 ((n : Int) * 8 / 4294967296))
def padded (s : ByteArray) : ByteArray := s ++ strOfNums (tailOf s.size)
theorem padded_size (s : ByteArray) : (padded s).size = s.size + 9 + zeros s.size := by
  unfold padded tailOf; rw [size_app, size_nums]; simp [le4]; omega
theorem padded_mod (s : ByteArray) : (padded s).size % 64 = 0 := by
  rw [padded_size]; unfold zeros; omega
def md5 (s : ByteArray) : ByteArray := stOut (blks (padded s) ((padded s).size / 64))
theorem md5_size (s : ByteArray) : (md5 s).size = 16 := by unfold md5 stOut; rw [size_nums]; rfl
theorem md5_abc : md5 ⟨#[97, 98, 99]⟩ = ⟨#[0x90, 0x01, 0x50, 0x98, 0x3c, 0xd2, 0x4f, 0xb0, 0xd6, 0x96, 0x3f, 0x7d, 0x28, 0xe1, 0x7f, 0x72]⟩ := by decide +kernel
end Go.Proofs.Ytdfefpbpfneahaa
