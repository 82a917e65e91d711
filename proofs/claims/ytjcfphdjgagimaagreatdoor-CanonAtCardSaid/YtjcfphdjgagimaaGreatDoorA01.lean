/- SHA-256, plainly, and the ways in which it may be reckoned. No program. -/
import Derived.Lib.Hide
import Derived.Test.YtjcfphdjgagimaaGreatDoorRows
import Derived.WalkKit
import Derived.WalkSpells
import Derived.WalkLawsBesides
import Derived.ProofKit
import Derived.Deep.QuietTactic
import Derived.BigQuiet
import Derived.Laws.BitsAllLaws
import Derived.SizedLaws
import Derived.Lib.SmallJoins
import Derived.Deep.Slices
import Derived.Deep.Fields
import Derived.Laws.OwnMore
import Derived.Maps.AppendAt
import Derived.Deep.AppendLies
import Derived.Deep.Draws
import Derived.RegionTactic
import Derived.OwnWalk
import Derived.Deep.Quiet
import Derived.StillTail

namespace Go.Proofs.YtjcfphdjgagimaaGreatDoor

def W32 : Nat := 4294967296
/-- a word turned right -/
def rotr (x a : Nat) : Nat := x / 2 ^ a + x % 2 ^ a * 2 ^ (32 - a)
/-- .. bit by bit -/
def rot1 (x : Nat) : Nat := x / 2 + x % 2 * 2147483648
theorem rotr_lt {x a : Nat} (hx : x < W32) (ha : a ≤ 32) : rotr x a < W32 := by
  unfold rotr W32 at *
  have e : (2 : Nat) ^ a * 2 ^ (32 - a) = 4294967296 := by rw [← Nat.pow_add, show a + (32 - a) = 32 by omega]
  have hp : 0 < 2 ^ a := Nat.pow_pos (by decide)
  have h1 : x / 2 ^ a < 2 ^ (32 - a) := by rw [Nat.div_lt_iff_lt_mul hp, Nat.mul_comm, e]; exact hx
  have h2 : x % 2 ^ a + 1 ≤ 2 ^ a := Nat.mod_lt _ hp
  have h3 : (x % 2 ^ a + 1) * 2 ^ (32 - a) ≤ 2 ^ a * 2 ^ (32 - a) := Nat.mul_le_mul_right _ h2
  rw [e, Nat.succ_mul] at h3
  omega
theorem rotr_zero (x : Nat) : rotr x 0 = x := by simp [rotr, Nat.mod_one]
theorem rotr_succ {x a : Nat} (_ : x < W32) (ha : a < 32) : rot1 (rotr x a) = rotr x (a + 1) := by
  obtain ⟨k, hk⟩ : ∃ k, 32 - a = k + 1 := ⟨31 - a, by omega⟩
  have hk2 : 32 - (a + 1) = k := by omega
  have hka : a + k = 31 := by omega
  unfold rot1 rotr
  rw [hk, hk2]
  obtain ⟨q, hq⟩ : ∃ q, q = x / 2 ^ a := ⟨_, rfl⟩
  obtain ⟨m, hm⟩ : ∃ m, m = x % 2 ^ a := ⟨_, rfl⟩
  have e1 : x / 2 ^ (a + 1) = q / 2 := by rw [Nat.pow_succ, ← Nat.div_div_eq_div_mul, hq]
  have e2 : x % 2 ^ (a + 1) = m + 2 ^ a * (q % 2) := by rw [Nat.pow_succ, Nat.mod_mul, hq, hm]
  rw [e1, e2, ← hq, ← hm, Nat.pow_succ, Nat.add_mul, Nat.mul_right_comm, ← Nat.pow_add, hka]
  have e3 : m * (2 ^ k * 2) = m * 2 ^ k * 2 := by rw [Nat.mul_assoc]
  rw [e3]
  generalize m * 2 ^ k = z
  omega
/-- as the program turns it -/
theorem rotr_or {x a : Nat} (hx : x < W32) (h0 : 0 < a) (ha : a < 32) : (x <<< (32 - a)) % W32 ||| x >>> a = rotr x a := by
  unfold W32 at *
  rw [Nat.shiftLeft_eq, Nat.shiftRight_eq_div_pow]
  have e : (4294967296 : Nat) = 2 ^ a * 2 ^ (32 - a) := by rw [← Nat.pow_add, show a + (32 - a) = 32 by omega]
  have hp : 0 < 2 ^ a := Nat.pow_pos (by decide)
  have h1 : x / 2 ^ a < 2 ^ (32 - a) := by rw [Nat.div_lt_iff_lt_mul hp, Nat.mul_comm, ← e]; exact hx
  have h2 : x * 2 ^ (32 - a) % 4294967296 = x % 2 ^ a * 2 ^ (32 - a) := by rw [e, Nat.mul_mod_mul_right]
  rw [h2, Nat.mul_comm (x % 2 ^ a), ← Nat.two_pow_add_eq_or_of_lt h1]
  unfold rotr
  rw [Nat.mul_comm (x % 2 ^ a)]
  omega
def bigS0 (x : Nat) : Nat := rotr x 2 ^^^ rotr x 13 ^^^ rotr x 22
def bigS1 (x : Nat) : Nat := rotr x 6 ^^^ rotr x 11 ^^^ rotr x 25
def smS0 (x : Nat) : Nat := rotr x 7 ^^^ rotr x 18 ^^^ x / 8
def smS1 (x : Nat) : Nat := rotr x 17 ^^^ rotr x 19 ^^^ x / 1024
def chF (e f g : Nat) : Nat := (e &&& f) ^^^ ((4294967295 - e) &&& g)
def majF (a b c : Nat) : Nat := (a &&& b) ^^^ (a &&& c) ^^^ (b &&& c)
theorem xor_lt {a b : Nat} (ha : a < W32) (hb : b < W32) : a ^^^ b < W32 := Nat.xor_lt_two_pow (n := 32) ha hb
theorem and_lt {a b : Nat} (ha : a < W32) : a &&& b < W32 := Nat.lt_of_le_of_lt Nat.and_le_left ha
theorem not_bit {e i : Nat} (he : e < W32) : (4294967295 - e).testBit i = (decide (i < 32) && !e.testBit i) := by
  have := Nat.testBit_two_pow_sub_succ (x := e) (n := 32) he i
  rw [show (2 : Nat) ^ 32 - (e + 1) = 4294967295 - e by omega] at this
  exact this
theorem ch_or {e f g : Nat} (he : e < W32) : chF e f g = (e &&& f) ||| ((4294967295 - e) &&& g) := by
  apply Nat.eq_of_testBit_eq
  intro i
  unfold chF
  simp only [Nat.testBit_xor, Nat.testBit_or, Nat.testBit_and, not_bit he]
  cases e.testBit i <;> cases f.testBit i <;> cases g.testBit i <;> simp
theorem maj_or (a b c : Nat) : majF a b c = (a &&& b) ||| (a &&& c) ||| (b &&& c) := by
  apply Nat.eq_of_testBit_eq
  intro i
  unfold majF
  simp only [Nat.testBit_xor, Nat.testBit_or, Nat.testBit_and]
  cases a.testBit i <;> cases b.testBit i <;> cases c.testBit i <;> simp
/-- eight words -/
structure V8 where
  a : Nat
  b : Nat
  c : Nat
  d : Nat
  e : Nat
  f : Nat
  g : Nat
  h : Nat
def V8.l (v : V8) : List Nat := [v.a, v.b, v.c, v.d, v.e, v.f, v.g, v.h]
structure V8.ok (v : V8) : Prop where
  a : v.a < W32
  b : v.b < W32
  c : v.c < W32
  d : v.d < W32
  e : v.e < W32
  f : v.f < W32
  g : v.g < W32
  h : v.h < W32
def first8 : V8 := ⟨1779033703, 3144134277, 1013904242, 2773480762, 1359893119, 2600822924, 528734635, 1541459225⟩
def rootsK : List Nat := [
  1116352408, 1899447441, 3049323471, 3921009573, 961987163, 1508970993, 2453635748, 2870763221,
  3624381080, 310598401, 607225278, 1426881987, 1925078388, 2162078206, 2614888103, 3248222580,
  3835390401, 4022224774, 264347078, 604807628, 770255983, 1249150122, 1555081692, 1996064986,
  2554220882, 2821834349, 2952996808, 3210313671, 3336571891, 3584528711, 113926993, 338241895,
  666307205, 773529912, 1294757372, 1396182291, 1695183700, 1986661051, 2177026350, 2456956037,
  2730485921, 2820302411, 3259730800, 3345764771, 3516065817, 3600352804, 4094571909, 275423344,
  430227734, 506948616, 659060556, 883997877, 958139571, 1322822218, 1537002063, 1747873779,
  1955562222, 2024104815, 2227730452, 2361852424, 2428436474, 2756734187, 3204031479, 3329325298]
def rnd (v : V8) (k w : Nat) : V8 :=
  ⟨(v.h + bigS1 v.e + chF v.e v.f v.g + k + w + (bigS0 v.a + majF v.a v.b v.c)) % W32, v.a, v.b, v.c, (v.d + (v.h + bigS1 v.e + chF v.e v.f v.g + k + w)) % W32, v.e, v.f, v.g⟩
theorem rnd_ok {v : V8} (h : v.ok) (k w : Nat) : (rnd v k w).ok := ⟨Nat.mod_lt _ (by decide), h.a, h.b, h.c, Nat.mod_lt _ (by decide), h.e, h.f, h.g⟩
/-- four bytes as a word -/
def wordB (b : List UInt8) (i : Nat) : Nat := (((b.getD (4 * i) 0).toNat * 256 + (b.getD (4 * i + 1) 0).toNat) * 256 + (b.getD (4 * i + 2) 0).toNat) * 256 + (b.getD (4 * i + 3) 0).toNat
theorem wordB_lt (b : List UInt8) (i : Nat) : wordB b i < W32 := by
  unfold wordB W32
  have h0 := (b.getD (4 * i) 0).toNat_lt
  have h1 := (b.getD (4 * i + 1) 0).toNat_lt
  have h2 := (b.getD (4 * i + 2) 0).toNat_lt
  have h3 := (b.getD (4 * i + 3) 0).toNat_lt
  omega
/-- so many words of a block -/
def schedI (b : List UInt8) : Nat → List Nat
  | 0 => []
  | i + 1 => schedI b i ++ [if i < 16 then wordB b i else ((schedI b i).getD (i - 16) 0 + (schedI b i).getD (i - 7) 0 + smS0 ((schedI b i).getD (i - 15) 0) + smS1 ((schedI b i).getD (i - 2) 0)) % W32]
theorem schedI_len (b : List UInt8) : ∀ i, (schedI b i).length = i
  | 0 => rfl
  | i + 1 => by rw [schedI, List.length_append, schedI_len b i]; rfl
theorem schedI_lt (b : List UInt8) : ∀ i, ∀ x ∈ schedI b i, x < W32
  | 0, x, hx => by simp [schedI] at hx
  | i + 1, x, hx => by
    rw [schedI] at hx
    rcases List.mem_append.1 hx with hx | hx
    · exact schedI_lt b i x hx
    · rw [List.mem_singleton] at hx
      rw [hx]
      split
      · exact wordB_lt b i
      · exact Nat.mod_lt _ (by decide)
def schedW (b : List UInt8) : List Nat := schedI b 64
/-- so many rounds -/
def rounds (b : List UInt8) (v : V8) : Nat → V8
  | 0 => v
  | i + 1 => rnd (rounds b v i) (rootsK.getD i 0) ((schedW b).getD i 0)
theorem rounds_ok {b : List UInt8} {v : V8} (h : v.ok) : ∀ i, (rounds b v i).ok
  | 0 => h
  | i + 1 => rnd_ok (rounds_ok h i) _ _
def add8 (v u : V8) : V8 := ⟨(v.a + u.a) % W32, (v.b + u.b) % W32, (v.c + u.c) % W32, (v.d + u.d) % W32, (v.e + u.e) % W32, (v.f + u.f) % W32, (v.g + u.g) % W32, (v.h + u.h) % W32⟩
theorem add8_ok (v u : V8) : (add8 v u).ok := ⟨Nat.mod_lt _ (by decide), Nat.mod_lt _ (by decide), Nat.mod_lt _ (by decide), Nat.mod_lt _ (by decide), Nat.mod_lt _ (by decide), Nat.mod_lt _ (by decide), Nat.mod_lt _ (by decide), Nat.mod_lt _ (by decide)⟩
/-- a block taken -/
def compress (v : V8) (b : List UInt8) : V8 := add8 v (rounds b v 64)
theorem compress_ok (v : V8) (b : List UInt8) : (compress v b).ok := add8_ok _ _
def blocksN : Nat → V8 → List UInt8 → V8
  | 0, v, _ => v
  | n + 1, v, l => blocksN n (compress v (l.take 64)) (l.drop 64)
/-- all whole blocks taken -/
def hashed (l : List UInt8) : V8 := blocksN (l.length / 64) first8 l
theorem blocksN_ok : ∀ (n : Nat) {v : V8} (l : List UInt8), v.ok → (blocksN n v l).ok
  | 0, _, _, h => h
  | n + 1, _, _, _ => blocksN_ok n _ (compress_ok _ _)
theorem first_ok : first8.ok := ⟨by decide, by decide, by decide, by decide, by decide, by decide, by decide, by decide⟩
theorem hashed_ok (l : List UInt8) : (hashed l).ok := blocksN_ok _ _ first_ok
theorem blocksN_append : ∀ (n m : Nat) (v : V8) (A B : List UInt8), A.length = 64 * n → blocksN (n + m) v (A ++ B) = blocksN m (blocksN n v A) B
  | 0, m, v, A, B, h => by
    have : A = [] := List.eq_nil_of_length_eq_zero (by omega)
    rw [this, Nat.zero_add, List.nil_append]; rfl
  | n + 1, m, v, A, B, h => by
    rw [show n + 1 + m = (n + m) + 1 by omega, blocksN, blocksN, List.take_append_of_le_length (by omega), List.drop_append_of_le_length (by omega), blocksN_append n m _ _ _ (by rw [List.length_drop]; omega)]
theorem blocksN_take : ∀ (n : Nat) (v : V8) (l : List UInt8), blocksN n v l = blocksN n v (l.take (64 * n))
  | 0, _, _ => rfl
  | n + 1, v, l => by
    rw [blocksN, blocksN, List.take_take, Nat.min_eq_left (by omega), blocksN_take n, List.drop_take]
    congr 2
/-- one more whole block -/
theorem hashed_block {l b : List UInt8} {n : Nat} (hl : l.length = 64 * n) (hb : b.length = 64) : hashed (l ++ b) = compress (hashed l) b := by
  unfold hashed
  rw [List.length_append, hl, hb, show (64 * n + 64) / 64 = n + 1 by omega, blocksN_append n 1 _ _ _ hl, show 64 * n / 64 = n by omega]
  show compress _ (b.take 64) = _
  rw [List.take_of_length_le (by omega)]
/-- what is not a whole block yet is not taken -/
theorem hashed_rest {l r : List UInt8} {n : Nat} (hl : l.length = 64 * n) (hr : r.length < 64) : hashed (l ++ r) = hashed l := by
  unfold hashed
  rw [List.length_append, hl, show (64 * n + r.length) / 64 = n by omega, show 64 * n / 64 = n by omega, blocksN_take, ← hl, List.take_left]
end Go.Proofs.YtjcfphdjgagimaaGreatDoor

/- SHA-256: what is filled up, what comes out, what a hash has of what was written. Plain, no program. -/
namespace Go.Proofs.YtjcfphdjgagimaaGreatDoor

/-- a number as eight bytes -/
def eightB (n : Nat) : List UInt8 := (List.range 8).map fun i => UInt8.ofNat (n / 256 ^ (7 - i))
theorem eightB_len (n : Nat) : (eightB n).length = 8 := by simp [eightB]
/-- .. from its lowest end -/
def eightI (n : Nat) : Nat → List UInt8
  | 0 => []
  | i + 1 => UInt8.ofNat (n / 256 ^ i) :: eightI n i
theorem eightI_all (n : Nat) : eightI n 8 = eightB n := by
  unfold eightB eightI eightI eightI eightI eightI eightI eightI eightI eightI
  rfl
def zerosN (n : Nat) : Nat := (119 - n % 64) % 64
def padS (l : List UInt8) : List UInt8 := l ++ [128] ++ List.replicate (zerosN l.length) 0 ++ eightB (8 * l.length)
theorem pad_len (l : List UInt8) : (padS l).length % 64 = 0 := by
  unfold padS zerosN
  simp only [List.length_append, List.length_replicate, eightB_len, List.length_singleton]
  omega
theorem zeros_step {n k : Nat} (h : k < zerosN n) : (n + 1 + k) % 64 ≠ 56 := by
  unfold zerosN at h
  omega
theorem zeros_end (n : Nat) : (n + 1 + zerosN n) % 64 = 56 := by
  unfold zerosN
  omega
/-- a word as four bytes -/
def wordS (x : Nat) : List UInt8 := [UInt8.ofNat (x / 16777216), UInt8.ofNat (x / 65536), UInt8.ofNat (x / 256), UInt8.ofNat x]
def digestS (v : V8) : List UInt8 := v.l.flatMap wordS
theorem digest_len (v : V8) : (digestS v).length = 32 := rfl
def shaS (l : List UInt8) : List UInt8 := digestS (hashed (padS l))
theorem sha_len (l : List UInt8) : (shaS l).length = 32 := rfl
/-- what is written for parts -/
def partsS (ps : List (List UInt8)) : List UInt8 := ps.flatMap fun p => eightB p.length ++ p
/-- the words with the first ones taken off -/
def sub8 (v : V8) : V8 := ⟨(v.a + (W32 - first8.a)) % W32, (v.b + (W32 - first8.b)) % W32, (v.c + (W32 - first8.c)) % W32, (v.d + (W32 - first8.d)) % W32, (v.e + (W32 - first8.e)) % W32, (v.f + (W32 - first8.f)) % W32, (v.g + (W32 - first8.g)) % W32, (v.h + (W32 - first8.h)) % W32⟩
theorem sub8_back {v : V8} (h : v.ok) : add8 (sub8 v) first8 = v := by
  obtain ⟨a, b, c, d, e, f, g, i⟩ := v
  obtain ⟨h0, h1, h2, h3, h4, h5, h6, h7⟩ := h
  simp only [W32] at h0 h1 h2 h3 h4 h5 h6 h7
  simp only [add8, sub8, first8, W32, V8.mk.injEq]
  refine ⟨?_, ?_, ?_, ?_, ?_, ?_, ?_, ?_⟩ <;> omega
theorem sub8_add (v u : V8) : add8 (sub8 v) u = sub8 (add8 v u) := by
  obtain ⟨a, b, c, d, e, f, g, i⟩ := v
  obtain ⟨a', b', c', d', e', f', g', i'⟩ := u
  simp only [add8, sub8, first8, W32, V8.mk.injEq]
  refine ⟨?_, ?_, ?_, ?_, ?_, ?_, ?_, ?_⟩ <;> omega
theorem sub8_first : sub8 first8 = ⟨0, 0, 0, 0, 0, 0, 0, 0⟩ := rfl
/-- a block taken, the first words taken off -/
theorem sub8_mix {v : V8} (b : List UInt8) : add8 (sub8 v) (rounds b v 64) = sub8 (compress v b) := sub8_add v _
/-- what a hash has: whole blocks taken, the rest kept -/
structure HashOf (M : List UInt8) (s : V8) (part : List UInt8) : Prop where
  st : s = sub8 (hashed M)
  len : part.length = 64
  rest : part.take (M.length % 64) = M.drop (64 * (M.length / 64))
theorem HashOf.new : HashOf [] ⟨0, 0, 0, 0, 0, 0, 0, 0⟩ (List.replicate 64 0) := ⟨sub8_first.symm, by simp, by simp⟩
/-- some bytes more, not yet a block -/
theorem HashOf.some {M : List UInt8} {s : V8} {part b : List UInt8} (h : HashOf M s part) (hb : M.length % 64 + b.length < 64) : HashOf (M ++ b) s (part.take (M.length % 64) ++ b ++ part.drop (M.length % 64 + b.length)) := by
  have hl := h.len
  have e1 : M = M.take (64 * (M.length / 64)) ++ M.drop (64 * (M.length / 64)) := (List.take_append_drop _ _).symm
  have l1 : (M.take (64 * (M.length / 64))).length = 64 * (M.length / 64) := by rw [List.length_take]; omega
  have l2 : (M.drop (64 * (M.length / 64))).length = M.length % 64 := by rw [List.length_drop]; omega
  have e2 : (M ++ b).length % 64 = M.length % 64 + b.length := by rw [List.length_append]; omega
  have e3 : (M ++ b).length / 64 = M.length / 64 := by rw [List.length_append]; omega
  refine ⟨?_, ?_, ?_⟩
  · rw [h.st]
    congr 1
    conv => lhs; rw [e1]
    conv => rhs; rw [e1, List.append_assoc]
    rw [hashed_rest l1 (by rw [l2]; omega), hashed_rest l1 (by rw [List.length_append, l2]; omega)]
  · simp only [List.length_append, List.length_take, List.length_drop]; omega
  · rw [e2, e3, List.take_append_of_le_length (by simp only [List.length_append, List.length_take]; omega), List.take_of_length_le (by simp only [List.length_append, List.length_take]; omega), List.drop_append_of_le_length (by omega), h.rest]
/-- a block is full -/
theorem HashOf.full {M : List UInt8} {s : V8} {part b : List UInt8} (h : HashOf M s part) (hb : M.length % 64 + b.length = 64) : HashOf (M ++ b) (add8 s (rounds (part.take (M.length % 64) ++ b) (add8 s first8) 64)) (part.take (M.length % 64) ++ b) := by
  have hl := h.len
  have e1 : M = M.take (64 * (M.length / 64)) ++ M.drop (64 * (M.length / 64)) := (List.take_append_drop _ _).symm
  have l1 : (M.take (64 * (M.length / 64))).length = 64 * (M.length / 64) := by rw [List.length_take]; omega
  have l2 : (M.drop (64 * (M.length / 64))).length = M.length % 64 := by rw [List.length_drop]; omega
  have e2 : (M ++ b).length % 64 = 0 := by rw [List.length_append]; omega
  have hM : hashed M = hashed (M.take (64 * (M.length / 64))) := by
    conv => lhs; rw [e1]
    rw [hashed_rest l1 (by rw [l2]; omega)]
  refine ⟨?_, ?_, ?_⟩
  · rw [h.st, sub8_back (hashed_ok M), sub8_mix, h.rest]
    congr 1
    conv => rhs; rw [e1, List.append_assoc]
    rw [hashed_block l1 (by rw [List.length_append, l2]; omega), hM]
  · simp only [List.length_append, List.length_take]; omega
  · rw [e2, List.take_zero, List.drop_of_length_le (by omega)]
/-- the end: all is whole blocks -/
theorem HashOf.whole {M : List UInt8} {s : V8} {part : List UInt8} (h : HashOf (padS M) s part) : digestS (add8 s first8) = shaS M := by
  rw [h.st, sub8_back (hashed_ok _)]; rfl
end Go.Proofs.YtjcfphdjgagimaaGreatDoor

/- Small plain facts on numbers and worlds, no program. -/
namespace Go.Proofs.YtjcfphdjgagimaaGreatDoor
open Go.RowKit Go.WideShapes Go.ChangeShapes

theorem Tryz.own : ownKnob Tryz.prog.godebug = none := by kernel_rfl
theorem Tryz.laidOut : laidOutB Tryz.prog = true := by kernel_rfl

section
variable {H : Type} {enc : TypeId × Value → H} {P : Program}
/-- The row's last step, where all that was there before the call is as it was. -/
theorem post_below {f : Func} {s : ChangeSpec} {apart fresh handsOn again : Bool} {W W' : World} {args : Array Value} {v : Value} {ds gs : List (DataW H)} {before pa pv : List MemPlace}
    (hW : DataW.Whole enc P f.params.toList s.vars apart W args.toList ds gs before)
    (hres : ∀ (b : Nat) (sp : Nat → Bool) (hd : Bool), DataW.TrodAll enc P W' b sp hd f.resultTypes.toList (v.resultList f.resultTypes.size) (s.fn H (ds ++ gs)).results [])
    (hargs : ∀ sp : Nat → Bool, (∀ p ∈ before, sp p.block = true) → DataW.TrodAll enc P W' 0 sp true f.params.toList args.toList (s.fn H (ds ++ gs)).args pa)
    (hvars : ∀ sp : Nat → Bool, (∀ p ∈ before, sp p.block = true) → DataW.TrodVars enc P W' sp s.vars (s.fn H (ds ++ gs)).vars pv)
    (hps : before = pa ++ pv) (hb : Below W.heap.size W W')
    (hok : ∀ (j : Nat) (t : TypeId) (r : Value), f.resultTypes[j]? = some t → (v.resultList f.resultTypes.size)[j]? = some r → Value.okWide P W' .any 0 t r) :
    s.post enc P f apart fresh handsOn again W args v W' := by
  have hlt : ∀ p ∈ before, p.block < W.heap.size := fun p hp => hW.lt p hp
  have hold : ∀ p ∈ before, (fun b => decide (b < W.heap.size)) p.block = true := fun p hp => by simpa using hlt p hp
  refine ⟨ds, gs, before, [], pa, pv, hW, hres _ _ _, hargs _ hold, hvars _ hold, World.keptBut_mono (fun p hp => ⟨hp, ?_⟩) (hb.frame (· ∈ before)), fun _ => ?_⟩
  · rw [hps, List.mem_append] at hp
    exact Or.inr hp
  · obtain ⟨_, _, _, _, _, hz, hn⟩ := hW
    refine ⟨hok, _, _, ([] ++ pa) ++ pv, ⟨[] ++ pa, pv, trodAll_append (hargs _ (fun _ _ => rfl)) (hres _ _ _), hvars _ (fun _ _ => rfl), rfl, ?_, ?_⟩, ?_⟩
    · intro b off hp
      have hin : MemPlace.cell b off ∈ before := by rw [hps]; simpa using hp
      rw [hb.frozen (hlt _ hin)]
      exact hz b off hin
    · intro ha
      have := hn ha
      rw [hps] at this
      simpa using this
    · intro p hp _
      rw [hps]
      simpa using hp
end

theorem i64_bd {n : Int} (h : (Lit.int .i64 n).wf = true) : -9223372036854775808 ≤ n ∧ n < 9223372036854775808 := by
  simp [Lit.wf, IntKind.min, IntKind.max, IntKind.bits, IntKind.signed] at h
  omega
theorem u8_bd {n : Int} (h : (Lit.int .u8 n).wf = true) : 0 ≤ n ∧ n < 256 := by
  simp [Lit.wf, IntKind.min, IntKind.max, IntKind.bits, IntKind.signed] at h
  omega
theorem bthen {a b c : World} (h : Below a.heap.size a b) (k : Below b.heap.size b c) : Below a.heap.size a c := h.trans (k.mono h.size)
theorem cellAt {a b : World} (h : Below a.heap.size a b) {x o : Nat} {u : Value} (hx : x < a.heap.size) (hu : a.cell? ⟨x, o, none⟩ = some u) : b.cell? ⟨x, o, none⟩ = some u :=
  (h.cell (p := ⟨x, o, none⟩) hx).trans hu
theorem ret_b {x y : Bool} (h : x = y) : Ending.returned (.bool x) = .returned (.bool y) := by rw [h]
theorem ret_i {k : IntKind} {x y : Int} (h : x = y) : Ending.returned (.int k x) = .returned (.int k y) := by rw [h]
end Go.Proofs.YtjcfphdjgagimaaGreatDoor

/- From a law's contract ('it returns true, and all that was there is as it was') to its row. -/
namespace Go.Proofs.YtjcfphdjgagimaaGreatDoor
open Go.RowKit Go.WideShapes Go.ChangeShapes Go.ChangeAt

theorem trodAll_stays {H : Type} {enc : TypeId × Value → H} {W W' : World} {sp : Nat → Bool} (hb : Below W.heap.size W W') :
    ∀ (ts : List TypeId) (vs : List Value) (ds : List (DataW H)) (ps : List MemPlace), (∀ t ∈ ts, Tryz.prog.readableRec t = true ∧ t < Tryz.prog.types.size) →
      DataW.TrodAll enc Tryz.prog W 0 (fun _ => true) true ts vs ds ps → (∀ p ∈ ps, p.block < W.heap.size ∧ sp p.block = true) →
      DataW.TrodAll enc Tryz.prog W' 0 sp true ts vs ds ps
  | [], [], [], _, _, h, _ => h
  | t :: ts, v :: vs, d :: ds, ps, hr, h, hp => by
    obtain ⟨p, q, h1, h2, rfl⟩ := h
    refine ⟨p, q, ?_, trodAll_stays hb ts vs ds q (fun t ht => hr t (by simp [ht])) h2 (fun x hx => hp x (by simp [hx])), rfl⟩
    exact WideElems.Trod_stays Tryz.laidOut (hr t (by simp)).1 (hr t (by simp)).2 h1 (fun x hx => hb.same (hp x (by simp [hx])).1) (fun x hx => (hp x (by simp [hx])).2)
  | [], _ :: _, _, _, _, h, _ => h.elim
  | [], [], _ :: _, _, _, h, _ => h.elim
  | _ :: _, [], _, _, _, h, _ => h.elim
  | _ :: _, _ :: _, [], _, _, h, _ => h.elim

theorem trodAll_len {H : Type} {enc : TypeId × Value → H} {P : Program} {W : World} {base : Nat} {sp : Nat → Bool} {hd : Bool} :
    ∀ (ts : List TypeId) (vs : List Value) (ds : List (DataW H)) (ps : List MemPlace), DataW.TrodAll enc P W base sp hd ts vs ds ps → ds.length = ts.length
  | [], [], [], _, _ => rfl
  | t :: ts, v :: vs, d :: ds, ps, h => by
    obtain ⟨p, q, _, h2, _⟩ := h
    simpa using trodAll_len ts vs ds q h2
  | [], _ :: _, _, _, h => h.elim
  | [], [], _ :: _, _, h => h.elim
  | _ :: _, [], _, _, h => h.elim
  | _ :: _, _ :: _, [], _, h => h.elim

set_option maxRecDepth 100000 in
/-- every parameter's type can be read -/
theorem law_reads {ts : List TypeId} (h : (ts.all fun t => Tryz.prog.readableRec t && decide (t < Tryz.prog.types.size)) = true) : ∀ t ∈ ts, Tryz.prog.readableRec t = true ∧ t < Tryz.prog.types.size := by
  intro t ht
  have := List.all_eq_true.1 h t ht
  simpa using this

end Go.Proofs.YtjcfphdjgagimaaGreatDoor

/- Arguments opened: structs by value of any number of one-cell fields. -/
namespace Go.Proofs.YtjcfphdjgagimaaGreatDoor
open Go.RowKit Go.WideShapes Go.ChangeShapes Go.ChangeAt Go.Deep Go.Joins

section
variable {H : Type} {enc : TypeId × Value → H} {P : Program} {w : World} {base : Nat} {spare : Nat → Bool} {held : Bool}
end
end Go.Proofs.YtjcfphdjgagimaaGreatDoor

/- Words for memory: what may change between two worlds (Fr), what a slice reads as (Rd), a block known whole (Blk), append onto an owned row. No program. -/
namespace Go.Proofs.YtjcfphdjgagimaaGreatDoor
open Go.RowKit

theorem add_none (b o j : Nat) : (⟨b, o, none⟩ : Addr).add j = ⟨b, o + j, none⟩ := by
  unfold Addr.add
  split
  · rename_i h; subst h; rfl
  · rfl

/-- Between w and w' only blocks of S, and new ones, have turned. -/
structure Fr (S : Nat → Prop) (w w' : World) : Prop where
  os : w'.os = w.os
  tape : w'.tape = w.tape
  output : w'.output = w.output
  size : w.heap.size ≤ w'.heap.size
  block : ∀ k, k < w.heap.size → ¬ S k → w'.heap[k]? = w.heap[k]?

/-- the block of a slice's address -/
def ablk : Option Addr → Option Nat | some a => some a.block | none => none

namespace Fr
variable {S S' : Nat → Prop} {a b c : World}
theorem refl (S : Nat → Prop) (w : World) : Fr S w w := ⟨rfl, rfl, rfl, Nat.le_refl _, fun _ _ _ => rfl⟩
theorem mono (h : Fr S a b) (hs : ∀ k, k < a.heap.size → S k → S' k) : Fr S' a b := ⟨h.os, h.tape, h.output, h.size, fun k hk hn => h.block k hk (fun hx => hn (hs k hk hx))⟩
theorem trans (h : Fr S a b) (k : Fr S' b c) (hs : ∀ x, x < a.heap.size → S' x → S x) : Fr S a c :=
  ⟨k.os.trans h.os, k.tape.trans h.tape, k.output.trans h.output, Nat.le_trans h.size k.size, fun x hx hn =>
    (k.block x (Nat.lt_of_lt_of_le hx h.size) (fun hy => hn (hs x hx hy))).trans (h.block x hx hn)⟩
theorem of_below (h : Below a.heap.size a b) (S : Nat → Prop) : Fr S a b := ⟨h.os, h.tape, h.output, h.size, fun k hk _ => h.block k hk⟩
theorem of_grown {row : Option Nat} (h : a.grownBy b row) (hr : ∀ k, k < a.heap.size → row = some k → S k) : Fr S a b :=
  ⟨h.os, h.tape, h.output, h.size, fun k hk hn => h.block k hk (fun e => hn (hr k hk e.symm))⟩
theorem below {B : Nat} (h : Fr S a b) (hB : B ≤ a.heap.size) (hs : ∀ k, k < B → ¬ S k) : Below B a b := ⟨h.os, h.tape, h.output, h.size, fun k hk => h.block k (by omega) (hs k hk)⟩
theorem then_below (h : Fr S a b) (k : Below b.heap.size b c) : Fr S a c := h.trans (of_below k S) (fun _ _ h => h)
theorem drew (h : Fr S a b) : Fr S a b.drew := ⟨h.os, h.tape, h.output, h.size, h.block⟩
theorem drewN (h : Fr S a b) (n : Nat) : Fr S a (b.drewN n) := ⟨h.os, h.tape, h.output, h.size, h.block⟩
theorem alloc (h : Fr S a b) (o : Obj) : Fr S a (b.alloc o) :=
  h.then_below ((Below.refl _ _).alloc (Nat.le_refl _) o)
theorem setCell (h : Fr S a b) {p : Addr} (hp : p.block < a.heap.size → S p.block) (u : Value) : Fr S a (b.setCell p u) :=
  ⟨h.os, h.tape, h.output, by simpa [World.setCell] using h.size, fun k hk hn => (Below.heap_setCell b p u k (by rintro rfl; exact hn (hp hk))).trans (h.block k hk hn)⟩
theorem setAt (h : Fr S a b) (x o : Nat) (hx : S x) (u : Value) : Fr S a (b.setCell ⟨x, o, none⟩ u) := h.setCell (p := ⟨x, o, none⟩) (fun _ => hx) u
theorem cell (h : Fr S a b) {p : Addr} (hp : p.block < a.heap.size) (hn : ¬ S p.block) : b.cell? p = a.cell? p := World.cell?_of_block (w := a) (h.block p.block hp hn)
theorem frozen (h : Fr S a b) {p : Addr} (hp : p.block < a.heap.size) (hn : ¬ S p.block) : b.frozen? p = a.frozen? p := World.frozen?_of_block (w := a) (h.block p.block hp hn)
end Fr

/-- The slice's address A reads, n elements of so many cells, as the cells xs; they lie in a block of Z. -/
def Rd (w : World) (Z : Nat → Prop) (size : Nat) (A : Option Addr) (n : Nat) (xs : List Value) : Prop :=
  xs.length = n * size ∧ (0 < n * size → ∃ b off, A = some ⟨b, off, none⟩ ∧ Z b ∧ b < w.heap.size ∧ ∀ j u, xs[j]? = some u → w.cell? ⟨b, off + j, none⟩ = some u)

namespace Rd
variable {w w' : World} {Z Z' S : Nat → Prop} {size n : Nat} {A : Option Addr} {xs : List Value}
theorem nil : Rd w Z size A 0 [] := ⟨by simp, fun h => by simp at h⟩
theorem fr (h : Rd w Z size A n xs) (k : Fr S w w') (hs : ∀ b, b < w.heap.size → Z b → ¬ S b) : Rd w' Z size A n xs :=
  ⟨h.1, fun hn => by
    obtain ⟨b, off, e, hz, hb, hc⟩ := h.2 hn
    exact ⟨b, off, e, hz, Nat.lt_of_lt_of_le hb k.size, fun j u hu => (k.cell (p := ⟨b, off + j, none⟩) hb (hs b hb hz)).trans (hc j u hu)⟩⟩
theorem below (h : Rd w Z size A n xs) (k : Below w.heap.size w w') : Rd w' Z size A n xs := h.fr (Fr.of_below k (fun _ => False)) (fun _ _ _ h => h)
theorem mono (h : Rd w Z size A n xs) (hz : ∀ b, b < w.heap.size → Z b → Z' b) : Rd w Z' size A n xs :=
  ⟨h.1, fun hn => by
    obtain ⟨b, off, e, hz', hb, hc⟩ := h.2 hn
    exact ⟨b, off, e, hz b hb hz', hb, hc⟩⟩
theorem drew (h : Rd w Z size A n xs) : Rd w.drew Z size A n xs := h
theorem drewN (h : Rd w Z size A n xs) (k : Nat) : Rd (w.drewN k) Z size A n xs := h
theorem alloc (h : Rd w Z size A n xs) (o : Obj) : Rd (w.alloc o) Z size A n xs := h.below ((Below.refl _ _).alloc (Nat.le_refl _) o)
/-- cell j of all -/
theorem atj {j : Nat} {u : Value} (h : Rd w Z size A n xs) (hu : xs[j]? = some u) : ∃ b off, A = some ⟨b, off, none⟩ ∧ Z b ∧ b < w.heap.size ∧ w.cell? ⟨b, off + j, none⟩ = some u := by
  have hj := (List.getElem?_eq_some_iff.1 hu).1
  have := h.1
  obtain ⟨b, off, e, hz, hb, hc⟩ := h.2 (by omega)
  exact ⟨b, off, e, hz, hb, hc j u hu⟩
/-- element k of a mapped list -/
theorem atm {α : Type} {f : α → Value} {l : List α} {k : Nat} (h : Rd w Z 1 A n (l.map f)) (hk : k < l.length) : ∃ b off, A = some ⟨b, off, none⟩ ∧ Z b ∧ b < w.heap.size ∧ w.cell? ⟨b, off + k, none⟩ = some (f l[k]) :=
  h.atj (by rw [List.getElem?_map, List.getElem?_eq_getElem hk]; rfl)
theorem some_of (h : Rd w Z size A n xs) (hn : 0 < n * size) : ∃ b off, A = some ⟨b, off, none⟩ ∧ Z b ∧ b < w.heap.size := by
  obtain ⟨b, off, e, hz, hb, _⟩ := h.2 hn
  exact ⟨b, off, e, hz, hb⟩
theorem take (h : Rd w Z size A n xs) {k : Nat} (hk : k ≤ n) : Rd w Z size A k (xs.take (k * size)) := by
  have hle : k * size ≤ n * size := Nat.mul_le_mul_right _ hk
  refine ⟨by rw [List.length_take, h.1]; omega, fun hn => ?_⟩
  obtain ⟨b, off, e, hz, hb, hc⟩ := h.2 (by omega)
  refine ⟨b, off, e, hz, hb, fun j u hu => hc j u ?_⟩
  rw [List.getElem?_take] at hu
  split at hu
  · exact hu
  · cases hu
/-- s[k:] -/
theorem drop (h : Rd w Z size A n xs) {k cap : Nat} (hk : k ≤ n) (hc : n ≤ cap) : Rd w Z size (if cap = k then A else A.map (·.add (k * size))) (n - k) (xs.drop (k * size)) := by
  refine ⟨by rw [List.length_drop, h.1, Nat.sub_mul], fun hn => ?_⟩
  have hkn : k < n := by
    rcases Nat.lt_or_ge k n with h1 | h1
    · exact h1
    · rw [show n - k = 0 by omega] at hn; simp at hn
  have hs : 0 < size := Nat.pos_of_mul_pos_left hn
  obtain ⟨b, off, rfl, hz, hb, hcell⟩ := h.2 (Nat.mul_pos (by omega) hs)
  rw [if_neg (by omega)]
  refine ⟨b, off + k * size, ?_, hz, hb, fun j u hu => ?_⟩
  · rw [Option.map_some, add_none]
  · rw [Nat.add_assoc]
    exact hcell _ u (by rw [← hu, List.getElem?_drop])
theorem of_own {base e : Nat} {c : Nat} (h : w.ownsRow base e size (.slice A n c) n xs) (hz : ∀ b, ablk A = some b → b < w.heap.size → Z b) : Rd w Z size A n xs := by
  refine ⟨h.1, fun hn => ?_⟩
  have hn' : 0 < n := Nat.pos_of_mul_pos_right hn
  obtain ⟨g, cap, hv, _, hlt⟩ := h.form hn'
  have hA : A = some ⟨g, 0, none⟩ := by injection hv
  subst hA
  refine ⟨g, 0, rfl, hz g rfl hlt, hlt, fun j u hu => ?_⟩
  have := h.cells (g := g) rfl j u hu
  rwa [add_none] at this
theorem of_block {b : Nat} {t : TypeId} {cs : Array Value} {fr : Nat × Nat} (h : w.heap[b]? = some (.cells cs t fr)) (hz : Z b) (hs : cs.size = n * size) : Rd w Z size (some ⟨b, 0, none⟩) n cs.toList := by
  refine ⟨by simpa using hs, fun _ => ⟨b, 0, rfl, hz, (Array.getElem?_eq_some_iff.1 h).1, fun j u hu => ?_⟩⟩
  rw [cell_of_row w b _ cs t fr h]
  simpa using hu
/-- a slice's literal, just laid -/
theorem lit {t : TypeId} {cs : Array Value} {b : Nat} (hs : cs.toList = xs) (hn : xs.length = n * size) (hb : b = w.heap.size) : Rd (w.alloc (.cells cs t)) (fun b => w.heap.size ≤ b) size (some ⟨b, 0, none⟩) n xs := by
  subst hs hb
  exact of_block (heap_alloc_new w _) (Nat.le_refl _) (by simpa using hn)
end Rd

/-- Block g is just the cells cs of element type t, none frozen. -/
def Blk (w : World) (g : Nat) (t : TypeId) (cs : Array Value) : Prop := w.heap[g]? = some (.cells cs t (0, 0))

namespace Blk
variable {w w' : World} {g : Nat} {t : TypeId} {cs : Array Value}
theorem lt (h : Blk w g t cs) : g < w.heap.size := (Array.getElem?_eq_some_iff.1 h).1
theorem cell (h : Blk w g t cs) (i : Nat) : w.cell? ⟨g, i, none⟩ = cs[i]? := cell_of_row w g i cs t (0, 0) h
theorem frozen (h : Blk w g t cs) (i : Nat) : w.frozen? ⟨g, i, none⟩ = false := by
  unfold Blk at h
  simp [World.frozen?, h]
theorem new (w : World) (t : TypeId) (cs : Array Value) : Blk (w.alloc (.cells cs t)) w.heap.size t cs := heap_alloc_new w _
theorem drew (h : Blk w g t cs) : Blk w.drew g t cs := h
theorem drewN (h : Blk w g t cs) (n : Nat) : Blk (w.drewN n) g t cs := h
theorem alloc (h : Blk w g t cs) (o : Obj) : Blk (w.alloc o) g t cs := (Below.heap_alloc w o g h.lt).trans h
theorem set_ (h : Blk w g t cs) (i : Nat) (u : Value) : Blk (w.setCell ⟨g, i, none⟩ u) g t (cs.setIfInBounds i u) := by
  unfold Blk at h ⊢
  simp [World.setCell, Array.getElem?_modify, h]
theorem far (h : Blk w g t cs) {p : Addr} (hp : g ≠ p.block) (u : Value) : Blk (w.setCell p u) g t cs := (Below.heap_setCell w p u g hp).trans h
theorem fr {S : Nat → Prop} (h : Blk w g t cs) (k : Fr S w w') (hs : ¬ S g) : Blk w' g t cs := (k.block g h.lt hs).trans h
theorem below (h : Blk w g t cs) (k : Below w.heap.size w w') : Blk w' g t cs := (k.block g h.lt).trans h
theorem grown {row : Option Nat} (h : Blk w g t cs) (hb : w.grownBy w' row) (hg : row ≠ some g) : Blk w' g t cs := (hb.block g h.lt (fun e => hg e.symm)).trans h
theorem ne_ {g' : Nat} {t' : TypeId} {cs' : Array Value} (h : Blk w g t cs) (h' : Blk w g' t' cs') (hne : t ≠ t') : g ≠ g' := by
  rintro rfl
  unfold Blk at h h'
  rw [h] at h'
  injection h' with h'
  injection h' with _ ht
  exact hne ht
theorem own_ne {base : Nat} {e : TypeId} {size n : Nat} {v : Value} {xs : List Value} (hg : Blk w g t cs) (h : w.ownsRow base e size v n xs) (hne : e ≠ t) : v.ownBlock ≠ some g := by
  rcases h.2 with ⟨rfl, _⟩ | ⟨g', cap, cur, rfl, _, hh, _⟩
  · simp [Value.ownBlock]
  · intro he
    have : g' = g := by simpa [Value.ownBlock] using he
    subst this
    exact Blk.ne_ (t := e) hh hg hne rfl
end Blk

theorem own_fr {w w' : World} {base : Nat} {e : TypeId} {size n : Nat} {v : Value} {xs : List Value} {S : Nat → Prop} (h : w.ownsRow base e size v n xs) (k : Fr S w w') (hs : ∀ g, v.ownBlock = some g → ¬ S g) : w'.ownsRow base e size v n xs := by
  refine ⟨h.1, ?_⟩
  rcases h.2 with hn | ⟨g, cap, cur, rfl, hb, hg, r⟩
  · exact .inl hn
  · exact .inr ⟨g, cap, cur, rfl, hb, by rw [k.block g (Array.getElem?_eq_some_iff.1 hg).1 (hs g rfl)]; exact hg, r⟩
theorem own_below {w w' : World} {base : Nat} {e : TypeId} {size n : Nat} {v : Value} {xs : List Value} (h : w.ownsRow base e size v n xs) (k : Below w.heap.size w w') : w'.ownsRow base e size v n xs :=
  own_fr h (Fr.of_below k (fun _ => False)) (fun _ _ h => h)
theorem own_form {w : World} {base : Nat} {e : TypeId} {size n : Nat} {v : Value} {xs : List Value} (h : w.ownsRow base e size v n xs) : ∃ A c, v = .slice A n c ∧ n ≤ c ∧ c ≤ maxLen ∧ (∀ b, ablk A = some b → base ≤ b ∧ b < w.heap.size ∧ v.ownBlock = some b) ∧ (A = none → n = 0 ∧ c = 0) ∧ (∀ a, A = some a → a = ⟨a.block, 0, none⟩) := by
  rcases h.2 with ⟨rfl, rfl⟩ | ⟨g, cap, cur, rfl, hb, hg, hn, hm, r⟩
  · exact ⟨none, 0, rfl, Nat.le_refl _, by simp [maxLen], by simp [ablk], by simp, by simp⟩
  · exact ⟨some ⟨g, 0, none⟩, cap, rfl, hn, hm, by rintro b hb'; simp [ablk] at hb'; subst hb'; exact ⟨hb, (Array.getElem?_eq_some_iff.1 hg).1, rfl⟩, by simp, by simp⟩
theorem own_base {w : World} {base base' : Nat} {e : TypeId} {size n : Nat} {v : Value} {xs : List Value} (h : w.ownsRow base e size v n xs) (hb : ∀ g, v.ownBlock = some g → base' ≤ g) : w.ownsRow base' e size v n xs := by
  refine ⟨h.1, ?_⟩
  rcases h.2 with hn | ⟨g, cap, cur, rfl, _, r⟩
  · exact .inl hn
  · exact .inr ⟨g, cap, cur, rfl, hb g rfl, r⟩
section
variable {P : Program} (w : World)

theorem run_append_of_nil (base : Nat) (t ty e : TypeId) (i : TypeInfo) (size : Nat) (ht : P.underlying t = some (.slice e)) (hi : P.info? e = some i)
    (v : Value) (n : Nat) (xs : List Value) (hown : w.ownsRow base e size v n xs) (c : Nat) : (Builtin.append_ #[t, t] ty #[v, .slice none 0 c]).run P w = .ok v w := by
  rcases hown.2 with ⟨rfl, rfl⟩ | ⟨g, cap, cur, rfl, _, _, hnc, _⟩
  · simp [Builtin.append_, run_underlying ht, sizeOf, typeInfo, hi, Builtin.lenOf, Builtin.firstCells]
  · simp [Builtin.append_, run_underlying ht, sizeOf, typeInfo, hi, Builtin.lenOf, Builtin.firstCells, hnc, storeCells]

/-- append onto an owned row, whatever the source is -/
theorem run_append_any (base : Nat) (t ty e : TypeId) (i : TypeInfo) (z : Value) (size bytes : Nat) (ht : P.underlying t = some (.slice e)) (hi : P.info? e = some i) (hz : i.zero = some z)
    (hsize : i.size = size) (hby : i.bytes = bytes) (hzs : z.cells.size = size) (hsz : 0 < size)
    (v : Value) (n : Nat) (xs : List Value) (hown : w.ownsRow base e size v n xs)
    (Z : Nat → Prop) (A : Option Addr) (m c : Nat) (news : List Value) (hr : Rd w Z size A m news) (h1 : ∀ u ∈ news, u.oneCell' = true)
    (h63 : n + m ≤ maxLen) (hbytes : (n + m) * bytes ≤ 140737488355328) (hbase : base ≤ w.heap.size) :
    ∃ v' w', (Builtin.append_ #[t, t] ty #[v, .slice A m c]).run P w = .ok v' w' ∧ w'.ownsRow base e size v' (n + m) (xs ++ news) ∧ w.grownBy w' v.ownBlock ∧
      (v'.ownBlock = v.ownBlock ∨ v'.ownBlock = some w.heap.size) := by
  rcases A with _ | ad
  · have hm : m = 0 := by
      rcases Nat.eq_zero_or_pos m with h0 | h0
      · exact h0
      · obtain ⟨b, off, h, _⟩ := hr.2 (Nat.mul_pos h0 hsz)
        cases h
    subst hm
    have hn : news = [] := List.eq_nil_of_length_eq_zero (by simpa using hr.1)
    subst hn
    exact ⟨v, w, run_append_of_nil w base t ty e i size ht hi v n xs hown c, by simpa using hown, World.grownBy.refl w _, .inl rfl⟩
  · have hcells : ∀ j u, news[j]? = some u → w.cell? (ad.add j) = some u := by
      intro j u hu
      obtain ⟨b, off, h, _, _, hc⟩ := hr.atj hu
      injection h with h
      subst h
      rw [add_none]
      exact hc
    obtain ⟨v', w', hrun, h2, h3, _, h5⟩ := run_append_own_at (P := P) w base t ty e i z size bytes ht hi hz hsize hby hzs hsz v n xs hown ad m c news hr.1 hcells h1 h63 hbytes hbase
    exact ⟨v', w', hrun, h2, h3, h5⟩

theorem wp_append_any {o : Oper} {a : Act} {K : Act → World → Prop} {Q : Exit → Act → World → Prop} (s x : Operand) (t : TypeId)
    (ho : o.op = .call { callee := .builtin .append, args := #[s, x], argTypes := #[t, t] })
    (base : Nat) (e : TypeId) (i : TypeInfo) (z : Value) (size bytes : Nat) (ht : P.underlying t = some (.slice e)) (hi : P.info? e = some i) (hz : i.zero = some z)
    (hsize : i.size = size) (hby : i.bytes = bytes) (hzs : z.cells.size = size) (hsz : 0 < size)
    (v : Value) (n : Nat) (xs : List Value) (hs : a.eval s = v) (hown : w.ownsRow base e size v n xs)
    (Z : Nat → Prop) (A : Option Addr) (m c : Nat) (news : List Value) (hx : a.eval x = .slice A m c) (hr : Rd w Z size A m news) (h1 : ∀ u ∈ news, u.oneCell' = true)
    (h63 : n + m ≤ maxLen) (hbytes : (n + m) * bytes ≤ 140737488355328) (hbase : base ≤ w.heap.size)
    (h : ∀ v' w', w'.ownsRow base e size v' (n + m) (xs ++ news) → w.grownBy w' v.ownBlock → (v'.ownBlock = v.ownBlock ∨ v'.ownBlock = some w.heap.size) → K (a.put o.dst v') w') : o.wp P a w K Q := by
  obtain ⟨v', w', hrun, h2, h3, h4⟩ := run_append_any (P := P) w base t o.type e i z size bytes ht hi hz hsize hby hzs hsz v n xs hown Z A m c news hr h1 h63 hbytes hbase
  unfold Oper.wp execOp
  simp only [ho, resolve, invoke, builtin, Sem.run_bind, Sem.run_pure, Result.andThen_ok, List.map_toArray, List.map_cons, List.map_nil, hs, hx, hrun]
  exact h v' w' h2 h3 h4

theorem wpList_append_any {ops : Array Oper} {rest : List Oper} {o : Oper} {a : Act} {Q : Exit → Act → World → Prop} (hgd : o.guard = none) (s x : Operand) (t : TypeId)
    (ho : o.op = .call { callee := .builtin .append, args := #[s, x], argTypes := #[t, t] })
    (base : Nat) (e : TypeId) (i : TypeInfo) (z : Value) (size bytes : Nat) (ht : P.underlying t = some (.slice e)) (hi : P.info? e = some i) (hz : i.zero = some z)
    (hsize : i.size = size) (hby : i.bytes = bytes) (hzs : z.cells.size = size) (hsz : 0 < size)
    (v : Value) (n : Nat) (xs : List Value) (hs : a.eval s = v) (hown : w.ownsRow base e size v n xs)
    (Z : Nat → Prop) (A : Option Addr) (m c : Nat) (news : List Value) (hx : a.eval x = .slice A m c) (hr : Rd w Z size A m news) (h1 : ∀ u ∈ news, u.oneCell' = true)
    (h63 : n + m ≤ maxLen) (hbytes : (n + m) * bytes ≤ 140737488355328) (hbase : base ≤ w.heap.size)
    (h : ∀ v' w', w'.ownsRow base e size v' (n + m) (xs ++ news) → w.grownBy w' v.ownBlock → (v'.ownBlock = v.ownBlock ∨ v'.ownBlock = some w.heap.size) → wpList P ops Q rest (a.put o.dst v') w') : wpList P ops Q (o :: rest) a w :=
  wpList_plain hgd fun _ hK => wp_append_any w s x t ho base e i z size bytes ht hi hz hsize hby hzs hsz v n xs hs hown Z A m c news hx hr h1 h63 hbytes hbase fun v' w' h2 h3 h4 => hK _ _ (h v' w' h2 h3 h4)

theorem step_append_any {ops : Array Oper} {o : Oper} {a : Act} {K : Act → World → Prop} {Q : Exit → Act → World → Prop} {E : Prop} (hgd : o.guard = none) (s x : Operand) (t : TypeId)
    (ho : o.op = .call { callee := .builtin .append, args := #[s, x], argTypes := #[t, t] })
    (base : Nat) (e : TypeId) (i : TypeInfo) (z : Value) (size bytes : Nat) (ht : P.underlying t = some (.slice e)) (hi : P.info? e = some i) (hz : i.zero = some z)
    (hsize : i.size = size) (hby : i.bytes = bytes) (hzs : z.cells.size = size) (hsz : 0 < size)
    (v : Value) (n : Nat) (xs : List Value) (hs : a.eval s = v) (hown : w.ownsRow base e size v n xs)
    (Z : Nat → Prop) (A : Option Addr) (m c : Nat) (news : List Value) (hx : a.eval x = .slice A m c) (hr : Rd w Z size A m news) (h1 : ∀ u ∈ news, u.oneCell' = true)
    (h63 : n + m ≤ maxLen) (hbytes : (n + m) * bytes ≤ 140737488355328) (hbase : base ≤ w.heap.size)
    (h : ∀ v' w', w'.ownsRow base e size v' (n + m) (xs ++ news) → w.grownBy w' v.ownBlock → (v'.ownBlock = v.ownBlock ∨ v'.ownBlock = some w.heap.size) → K (a.put o.dst v') w') :
    if Region.wanted o (yielded ops a.tmps) = true then Oper.wp P o a w K Q else E := by
  have hw : Region.wanted o (yielded ops a.tmps) = true := by simp [Region.wanted, hgd]
  rw [if_pos hw]
  exact wp_append_any w s x t ho base e i z size bytes ht hi hz hsize hby hzs hsz v n xs hs hown Z A m c news hx hr h1 h63 hbytes hbase h
end

/-- a byte as a value -/
def bv (x : UInt8) : Value := .int .u8 (x.toNat : Int)
theorem bv_one (l : List UInt8) : ∀ u ∈ l.map bv, u.oneCell' = true := by
  intro u hu
  obtain ⟨x, _, rfl⟩ := List.mem_map.1 hu
  rfl
/-- the slice's address A reads as the bytes l -/
def By (w : World) (Z : Nat → Prop) (A : Option Addr) (l : List UInt8) : Prop := Rd w Z 1 A l.length (l.map bv)
/-- v owns a row of the bytes l -/
def OwB (w : World) (base : Nat) (v : Value) (l : List UInt8) : Prop := w.ownsRow base 5 1 v l.length (l.map bv)
theorem u8_info : (Tryz.prog.info? 5).map (fun i => (i.zero, i.size, i.bytes)) = some (some (.int .u8 0), 1, 1) := by kernel_rfl

theorem OwB.nil (w : World) (base : Nat) : OwB w base (.slice none 0 0) [] := World.ownsRow_nil _ _ _ _
theorem OwB.below {w w' : World} {base : Nat} {v : Value} {l : List UInt8} (h : OwB w base v l) (k : Below w.heap.size w w') : OwB w' base v l := own_below h k
theorem OwB.fr {w w' : World} {base : Nat} {v : Value} {l : List UInt8} {S : Nat → Prop} (h : OwB w base v l) (k : Fr S w w') (hs : ∀ g, v.ownBlock = some g → ¬ S g) : OwB w' base v l := own_fr h k hs
theorem OwB.alloc {w : World} {base : Nat} {v : Value} {l : List UInt8} (h : OwB w base v l) (o : Obj) : OwB (w.alloc o) base v l := World.ownsRow.alloc h o
theorem OwB.lit1 (w : World) {base : Nat} {b : UInt8} {x : Int} (hx : bv b = .int .u8 x) (hb : base ≤ w.heap.size) : OwB (w.alloc (.cells #[.int .u8 x] 5)) base (.slice (some ⟨w.heap.size, 0, none⟩) 1 1) [b] := by
  have := World.ownsRow_lit (base := base) (e := 5) (size := 1) w #[.int .u8 x] 1 hb (by simp [maxLen]) (by simp)
  unfold OwB
  rw [List.map_cons, List.map_nil, hx]
  exact this
/-- the form of an owned row of bytes -/
theorem OwB.form {w : World} {base : Nat} {v : Value} {l : List UInt8} (h : OwB w base v l) : ∃ A c, v = .slice A l.length c ∧ l.length ≤ c ∧ c ≤ maxLen ∧ (∀ b, ablk A = some b → base ≤ b ∧ b < w.heap.size ∧ v.ownBlock = some b) := by
  obtain ⟨A, c, h1, h2, h3, h4, _⟩ := own_form h
  exact ⟨A, c, h1, h2, h3, h4⟩
theorem OwB.rd {w : World} {base : Nat} {A : Option Addr} {c : Nat} {l : List UInt8} (h : OwB w base (.slice A l.length c) l) : By w (fun b => ablk A = some b) A l := Rd.of_own h (fun _ hb _ => hb)
theorem By.below {w w' : World} {Z : Nat → Prop} {A : Option Addr} {l : List UInt8} (h : By w Z A l) (k : Below w.heap.size w w') : By w' Z A l := Rd.below h k
theorem By.alloc {w : World} {Z : Nat → Prop} {A : Option Addr} {l : List UInt8} (h : By w Z A l) (o : Obj) : By (w.alloc o) Z A l := Rd.alloc h o
theorem By.fr {w w' : World} {Z S : Nat → Prop} {A : Option Addr} {l : List UInt8} (h : By w Z A l) (k : Fr S w w') (hs : ∀ b, b < w.heap.size → Z b → ¬ S b) : By w' Z A l := Rd.fr h k hs
theorem By.mono {w : World} {Z Z' : Nat → Prop} {A : Option Addr} {l : List UInt8} (h : By w Z A l) (hz : ∀ b, b < w.heap.size → Z b → Z' b) : By w Z' A l := Rd.mono h hz

theorem wpList_append_by {w : World} {ops : Array Oper} {rest : List Oper} {o : Oper} {a : Act} {Q : Exit → Act → World → Prop} (hgd : o.guard = none) (s x : Operand)
    (ho : o.op = .call { callee := .builtin .append, args := #[s, x], argTypes := #[29, 29] })
    {base : Nat} {v : Value} {l m : List UInt8} {Z : Nat → Prop} {A : Option Addr} {c : Nat} (hs : a.eval s = v) (hown : OwB w base v l) (hx : a.eval x = .slice A m.length c) (hr : By w Z A m)
    (hsum : l.length + m.length ≤ 140737488355328) (hbase : base ≤ w.heap.size)
    (h : ∀ (L : List UInt8) (A' : Option Addr) (c' : Nat) (w' : World), Hid (L = l ++ m) → OwB w' base (.slice A' L.length c') L → w.grownBy w' v.ownBlock → ((Value.slice A' L.length c').ownBlock = v.ownBlock ∨ (Value.slice A' L.length c').ownBlock = some w.heap.size) → wpList Tryz.prog ops Q rest (a.put o.dst (.slice A' L.length c')) w') : wpList Tryz.prog ops Q (o :: rest) a w := by
  obtain ⟨i0, hi0, hz0, hz1, hz2⟩ := info_parts u8_info
  refine wpList_append_any w hgd s x _ ho base 5 i0 _ 1 1 Tryz.underlying29 hi0 hz0 hz1 hz2 rfl (by omega) v l.length (l.map bv) hs hown Z A m.length c (m.map bv) hx hr (bv_one m) (by simp only [maxLen]; omega) (by omega) hbase ?_
  intro v' w' h1 h2 h3
  have ho : OwB w' base v' (l ++ m) := by
    unfold OwB
    rw [List.length_append, List.map_append]
    exact h1
  obtain ⟨A', c', rfl, _⟩ := ho.form
  exact h (l ++ m) A' c' w' rfl ho h2 h3
theorem step_append_by {w : World} {ops : Array Oper} {o : Oper} {a : Act} {K : Act → World → Prop} {Q : Exit → Act → World → Prop} {E : Prop} (hgd : o.guard = none) (s x : Operand)
    (ho : o.op = .call { callee := .builtin .append, args := #[s, x], argTypes := #[29, 29] })
    {base : Nat} {v : Value} {l m : List UInt8} {Z : Nat → Prop} {A : Option Addr} {c : Nat} (hs : a.eval s = v) (hown : OwB w base v l) (hx : a.eval x = .slice A m.length c) (hr : By w Z A m)
    (hsum : l.length + m.length ≤ 140737488355328) (hbase : base ≤ w.heap.size)
    (h : ∀ (L : List UInt8) (A' : Option Addr) (c' : Nat) (w' : World), Hid (L = l ++ m) → OwB w' base (.slice A' L.length c') L → w.grownBy w' v.ownBlock → ((Value.slice A' L.length c').ownBlock = v.ownBlock ∨ (Value.slice A' L.length c').ownBlock = some w.heap.size) → K (a.put o.dst (.slice A' L.length c')) w') :
    if Region.wanted o (yielded ops a.tmps) = true then Oper.wp Tryz.prog o a w K Q else E := by
  obtain ⟨i0, hi0, hz0, hz1, hz2⟩ := info_parts u8_info
  refine step_append_any w hgd s x _ ho base 5 i0 _ 1 1 Tryz.underlying29 hi0 hz0 hz1 hz2 rfl (by omega) v l.length (l.map bv) hs hown Z A m.length c (m.map bv) hx hr (bv_one m) (by simp only [maxLen]; omega) (by omega) hbase ?_
  intro v' w' h1 h2 h3
  have ho : OwB w' base v' (l ++ m) := by
    unfold OwB
    rw [List.length_append, List.map_append]
    exact h1
  obtain ⟨A', c', rfl, _⟩ := ho.form
  exact h (l ++ m) A' c' w' rfl ho h2 h3

/-- string(b) -/
theorem conv_by {w : World} {Z : Nat → Prop} {A : Option Addr} {l : List UInt8} (h : By w Z A l) (c : Nat) :
    (convert 29 9 (.slice A l.length c)).run Tryz.prog w = .ok (.string ⟨l.toArray⟩) w := by
  rcases A with _ | a
  · have hl : l = [] := by
      rcases l with _ | ⟨x, l⟩
      · rfl
      · obtain ⟨b, off, e, _⟩ := h.2 (by simp); cases e
    subst hl
    rw [run_convert_bytes_nil w 29 5 Tryz.underlying29 Tryz.underlying5 _ _ 9 Tryz.underlying9]
    rfl
  · rw [run_convert_bytes_string w 29 9 5 _ _ c Tryz.underlying29 Tryz.underlying5 Tryz.underlying9]
    have hn : l.map bv = (l.map fun x => (x.toNat : Int)).map (Value.int .u8) := by simp [bv, Function.comp_def]
    have hload : (loadCells a l.length).run Tryz.prog w = .ok ((l.map fun x => (x.toNat : Int)).map (Value.int .u8)).toArray w := by
      rw [← hn]
      have := run_loadCells_list (P := Tryz.prog) w a (l.map bv) (fun j v hj => by
        obtain ⟨b, off, e, _, _, hc⟩ := Rd.atj h hj
        injection e with e
        subst e
        rw [add_none]
        exact hc)
      rw [List.length_map] at this
      exact this
    rw [run_bytesToString w a l.length c _ hload, foldl_push_bytes]
    congr 2
    apply ByteArray.ext
    show ByteArray.empty.data ++ _ = _
    rw [show ByteArray.empty.data = #[] from rfl]
    simp [Function.comp_def]

/-- a byte slice as a value, and what it reads as -/
structure BV where
  A : Option Addr
  c : Nat
  l : List UInt8
abbrev BV.v (x : BV) : Value := .slice x.A x.l.length x.c
def BV.ok (w : World) (Z : Nat → Prop) (x : BV) : Prop := By w Z x.A x.l ∧ x.l.length ≤ x.c ∧ x.c ≤ maxLen
theorem BV.ok.by_ {w : World} {Z : Nat → Prop} {x : BV} (h : x.ok w Z) : By w Z x.A x.l := h.1
theorem BV.ok.fr {w w' : World} {Z S : Nat → Prop} {x : BV} (h : x.ok w Z) (k : Fr S w w') (hs : ∀ b, b < w.heap.size → Z b → ¬ S b) : x.ok w' Z := ⟨h.1.fr k hs, h.2⟩
theorem BV.ok.below {w w' : World} {Z : Nat → Prop} {x : BV} (h : x.ok w Z) (k : Below w.heap.size w w') : x.ok w' Z := ⟨h.1.below k, h.2⟩
theorem BV.ok.mono {w : World} {Z Z' : Nat → Prop} {x : BV} (h : x.ok w Z) (hz : ∀ b, b < w.heap.size → Z b → Z' b) : x.ok w Z' := ⟨h.1.mono hz, h.2⟩
/-- a fresh owned row as a byte slice -/
theorem OwB.bv_ {w : World} {base : Nat} {v : Value} {l : List UInt8} (h : OwB w base v l) : ∃ x : BV, v = x.v ∧ x.l = l ∧ x.ok w (fun b => v.ownBlock = some b) ∧ OwB w base x.v l := by
  obtain ⟨A, c, rfl, h1, h2, h3⟩ := h.form
  exact ⟨⟨A, c, l⟩, rfl, rfl, ⟨h.rd.mono (fun b hb hz => (h3 b hz).2.2), h1, h2⟩, h⟩
def u64v (n : Nat) : Value := .int .u64 (n : Int)
end Go.Proofs.YtjcfphdjgagimaaGreatDoor

/- Drawn regions whose operations each yield ONE value and at most make memory: one walk in the order of the text, in worlds above the one at hand; the variable that is made behind them may be made at any time. No program. -/
namespace Go.Proofs.YtjcfphdjgagimaaGreatDoor
open Go.RowKit

section
variable {P : Program} {ops : Array Oper} {md : Region.Mode} {W : World}

/-- In state a, in every world above W, the operation yields v, and makes memory at most. -/
def YB (P : Program) (ops : Array Oper) (W : World) (o : Oper) (v : Value) (a : Act) : Prop :=
  (Region.wanted o (yielded ops a.tmps) = true ∧ ∀ w, Below W.heap.size W w → (execOp a.eval o).run P w = .ok (.value v) w ∨
    ∃ f args, (execOp a.eval o).run P w = .ok (.enter f args) w ∧ Calls P f args w fun e w' => e = .returned v ∧ Below w.heap.size w w') ∨
  (Region.wanted o (yielded ops a.tmps) = false ∧ v = undef)
theorem YB.of_same {o : Oper} {v : Value} {a a' : Act} (hy : YB P ops W o v a) (he : execOp a'.eval o = execOp a.eval o)
    (hw : Region.wanted o (yielded ops a'.tmps) = Region.wanted o (yielded ops a.tmps)) : YB P ops W o v a' := by
  unfold YB at *
  rw [he, hw]
  exact hy
theorem YB.wpOp {i : Nat} {o : Oper} {v : Value} {a : Act} {w : World} {K : Act → World → Prop} {Q : Exit → Act → World → Prop} (hi : ops[i]? = some o) (hy : YB P ops W o v a) (hw : Below W.heap.size W w)
    (hK : ∀ w', Below w.heap.size w w' → K (a.put o.dst v) w') : wpOp P ops Q i K a w := by
  unfold Go.wpOp
  simp only [hi]
  rcases hy with ⟨hwt, hv⟩ | ⟨hwt, rfl⟩
  · simp only [hwt, if_true]
    refine .inl ?_
    unfold Oper.wp
    rcases hv w hw with e | ⟨f, args, e, hc⟩
    · rw [e]
      exact hK w (Below.refl _ _)
    · rw [e]
      exact hc.mono fun e w' ⟨he, hb⟩ => by subst he; exact hK w' hb
  · simp only [hwt, Bool.false_eq_true, if_false]
    exact hK w (Below.refl _ _)

inductive DetB (P : Program) (md : Region.Mode) (ops : Array Oper) (W : World) (n : Nat) (E : Array Bool → Act → Prop) : Nat → Array Bool → Act → Prop
  | done {listed : Array Bool} {a : Act} : (∀ j ∈ Region.ready md ops listed, n ≤ j) → E listed a → DetB P md ops W n E 0 listed a
  | step {k i : Nat} {listed : Array Bool} {a : Act} {o : Oper} {v : Value} : ops[i]? = some o → i < n → HeadInv md ops n listed → i ∈ Region.ready md ops listed →
      (∀ j oj, ops[j]? = some oj → j ≠ i → listed.getD j true = false → (∀ e ∈ oj.after, Region.binds md e = true → e.on ≠ i) → o.apart ops oj = true) →
      YB P ops W o v a → DetB P md ops W n E k (listed.setIfInBounds i true) (a.put o.dst v) → DetB P md ops W n E (k + 1) listed a
def TailWaitsB (md : Region.Mode) (ops : Array Oper) (n : Nat) : Prop :=
  ∀ listed, HeadInv md ops n listed → ∀ i, i < n → listed.getD i true = false → ∀ t ∈ Region.ready md ops listed, t < n

theorem DetB.any {n : Nat} {E : Array Bool → Act → Prop} (hsel : ∀ (j : Nat) (o : Oper) cs b, ops[j]? = some o → o.op ≠ .select cs b) (hT : TailWaitsB md ops n) :
    ∀ {k : Nat} {listed : Array Bool} {a : Act}, DetB P md ops W n E (k + 1) listed a →
      Region.ready md ops listed ≠ [] ∧ HeadInv md ops n listed ∧ ∀ j ∈ Region.ready md ops listed, j < n ∧ ∃ o v, ops[j]? = some o ∧ YB P ops W o v a ∧ DetB P md ops W n E k (listed.setIfInBounds j true) (a.put o.dst v) := by
  intro k
  induction k with
  | zero =>
    intro listed a h
    cases h with
    | @step _ i _ _ o v ho hin inv hr hap hy hd =>
      refine ⟨fun h => (by rw [h] at hr; cases hr), inv, fun j hj => ⟨hT _ inv i hin (mem_ready.1 hr).1 j hj, ?_⟩⟩
      by_cases hji : j = i
      · subst hji; exact ⟨o, v, ho, hy, hd⟩
      · cases hd with
        | done hge _ => have h1 := hT _ inv i hin (mem_ready.1 hr).1 j hj; have h2 := hge j (ready_mono hj hji); omega
  | succ k ih =>
    intro listed a h
    cases h with
    | @step _ i _ _ o v ho hin inv hr hap hy hd =>
      refine ⟨fun h => (by rw [h] at hr; cases hr), inv, fun j hj => ⟨hT _ inv i hin (mem_ready.1 hr).1 j hj, ?_⟩⟩
      by_cases hji : j = i
      · subst hji; exact ⟨o, v, ho, hy, hd⟩
      · obtain ⟨_, _, h2⟩ := ih hd
        obtain ⟨_, oj, u, hoj, hyj, hdj⟩ := h2 j (ready_mono hj hji)
        obtain ⟨hjun, oj', hoj', hall⟩ := mem_ready.1 hj
        obtain rfl : oj' = oj := Option.some.inj (hoj'.symm.trans hoj)
        have hun := (mem_ready.1 hr).1
        have hnot : ∀ e ∈ oj'.after, Region.binds md e = true → e.on ≠ i := fun e he hb heq => by
          have h1 := hall e he hb
          rw [heq, getD_both hun] at h1
          cases h1
        obtain ⟨a1, a2, a3⟩ := Oper.apart_spec (hap j oj' hoj hji hjun hnot)
        have hyj' := hyj.of_same (a' := a) (execOp_put oj' (fun cs b => hsel j oj' cs b hoj) a o.dst v a1).symm (wanted_put oj' a o.dst v a1).symm
        have hyi' := hy.of_same (a' := a.put oj'.dst u) (execOp_put o (fun cs b => hsel i o cs b ho) a oj'.dst u a3) (wanted_put o a oj'.dst u a3)
        refine ⟨oj', u, hoj, hyj', ?_⟩
        rw [Act.put_comm a v u a2, Array.setIfInBounds_comm _ _ (Ne.symm hji)] at hdj
        refine .step ho hin (inv.set hj (hT _ inv i hin hun j hj)) (ready_mono hr (Ne.symm hji)) ?_ hyi' hdj
        intro m om hm hmi hmun hmno
        refine hap m om hm hmi ?_ hmno
        by_cases hmj : j = m
        · subst hmj; exact hjun
        · rw [getD_set_ne true hmj] at hmun; exact hmun

/-- a world above W in which the block b was made -/
structure Made (W : World) (t : TypeId) (cs : Array Value) (b : Nat) (w : World) : Prop where
  below : Below W.heap.size W w
  ge : W.heap.size ≤ b
  blk : Blk w b t cs
theorem Made.step {t : TypeId} {cs : Array Value} {b : Nat} {w w' : World} (h : Made W t cs b w) (k : Below w.heap.size w w') : Made W t cs b w' :=
  ⟨h.below.trans (k.mono h.below.size), h.ge, h.blk.below k⟩

variable {f : Nat} {of : Oper} {t : TypeId} {cs : Array Value}
def tailOkB (ops : Array Oper) (n : Nat) : Bool := Region.noSelect ops && (decide (n = ops.size) || (decide (n < ops.size) && Region.sinkB .any ops n && Region.chainB .any ops n))
theorem tailOkB_spec {n : Nat} (h : tailOkB ops n = true) : Region.noSelect ops = true ∧ n ≤ ops.size ∧ TailWaitsB .any ops n := by
  simp only [tailOkB, Bool.and_eq_true, Bool.or_eq_true, decide_eq_true_eq] at h
  obtain ⟨hsel, hn⟩ := h
  refine ⟨hsel, ?_, ?_⟩
  · rcases hn with h | ⟨⟨h, _⟩, _⟩ <;> omega
  · intro listed inv i hi hun t ht
    rcases hn with h | ⟨⟨h, hs⟩, hc⟩
    · obtain ⟨_, o, ho, _⟩ := mem_ready.1 ht
      have := (Array.getElem?_eq_some_iff.1 ho).1
      omega
    · rcases Nat.lt_or_ge t n with h1 | h1
      · exact h1
      · exact absurd ht (tail_waits hs hc h inv _ i rfl hi hun t h1)
theorem inv_new (n : Nat) : HeadInv md ops n (Array.replicate ops.size false) :=
  ⟨by simp, fun j oj _ hl => (by rw [getD_replicate_false] at hl; cases hl), fun t _ ht => getD_in (by simpa using ht) (getD_replicate_false _ _)⟩

variable {Q : Act → Prop} {a : Act} {o : Oper} {rest : List Oper}
end
end Go.Proofs.YtjcfphdjgagimaaGreatDoor

/- Drawn regions in the text's order: operations that only tell what stays so (they may come at any time), others each of which is alone when it comes, and a tail behind all of them. No program. -/
namespace Go.Proofs.YtjcfphdjgagimaaGreatDoor
open Go.RowKit

section
variable {P : Program} {ops : Array Oper} {md : Region.Mode} {C : World → Prop}

/-- nothing but a value -/
def Qz : Exit → Act → World → Prop := fun _ _ _ => False
theorem letsOut_qz : ¬ LetsOut Qz := fun h => by
  obtain ⟨_, _, h⟩ := h
  exact h
theorem Oper.wp_of_z {o : Oper} {a : Act} {w : World} {K : Act → World → Prop} {Q : Exit → Act → World → Prop} (h : o.wp P a w K Qz) : o.wp P a w K Q := by
  unfold Oper.wp at *
  generalize (execOp a.eval o).run P w = r at *
  cases r with
  | ok n w' =>
    cases n <;> simp only [Oper.upon] at h ⊢
    case enter f args =>
      refine Calls.mono h fun e w'' he => ?_
      cases e with
      | returned u => exact he
      | panicked c => exact absurd he (by simp [Qz])
      | outgrown => exact absurd he letsOut_qz
    all_goals first | exact h | exact absurd h (by simp)
  | halt x w' =>
    cases x <;> simp only [Oper.upon] at h ⊢
    case panic u => exact absurd h (by simp [Qz])
theorem wpOp_of_z {i : Nat} {a : Act} {w : World} {K : Act → World → Prop} {Q : Exit → Act → World → Prop} (h : wpOp P ops Qz i K a w) : wpOp P ops Q i K a w := by
  unfold wpOp at *
  split
  · rename_i h0; simpa [h0] using h
  · rename_i o ho
    simp only [ho] at h
    split
    · rename_i hw
      simp only [hw, if_true] at h
      rcases h with h | ⟨_, h⟩
      · exact .inl (Oper.wp_of_z h)
      · exact absurd h letsOut_qz
    · rename_i hw; simpa [hw] using h

/-- in every world of the class it tells v, and nothing turns -/
def StC (P : Program) (ops : Array Oper) (C : World → Prop) (o : Oper) (v : Value) (a : Act) : Prop :=
  (Region.wanted o (yielded ops a.tmps) = true ∧ ∀ w, C w → (execOp a.eval o).run P w = .ok (.value v) w) ∨ (Region.wanted o (yielded ops a.tmps) = false ∧ v = undef)
theorem StC.of_same {o : Oper} {v : Value} {a a' : Act} (hy : StC P ops C o v a) (he : execOp a'.eval o = execOp a.eval o)
    (hw : Region.wanted o (yielded ops a'.tmps) = Region.wanted o (yielded ops a.tmps)) : StC P ops C o v a' := by
  unfold StC at *
  rw [he, hw]
  exact hy
theorem StC.wpOp {i : Nat} {o : Oper} {v : Value} {a : Act} {w : World} {K : Act → World → Prop} {Q : Exit → Act → World → Prop} (hi : ops[i]? = some o) (hy : StC P ops C o v a) (hw : C w)
    (hK : K (a.put o.dst v) w) : wpOp P ops Q i K a w := by
  unfold Go.wpOp
  simp only [hi]
  rcases hy with ⟨hwt, hv⟩ | ⟨hwt, rfl⟩
  · simp only [hwt, if_true, Oper.wp, hv w hw, Oper.upon]
    exact .inl hK
  · simp only [hwt, Bool.false_eq_true, if_false]
    exact hK

theorem wpOp_putC {j : Nat} {oi oj : Oper} {v : Value} (hj : ops[j]? = some oj) (hap : oi.apart ops oj = true)
    (hsi : ∀ cs b, oi.op ≠ .select cs b) (hsj : ∀ cs b, oj.op ≠ .select cs b) {K : Act → World → Prop} {a : Act} {w : World}
    (hy : StC P ops C oi v a) (h : wpOp P ops Qz j K (a.put oi.dst v) w) :
    wpOp P ops Qz j (fun a' w' => StC P ops C oi v a' ∧ K (a'.put oi.dst v) w') a w := by
  obtain ⟨h1, h2, h3⟩ := Oper.apart_spec hap
  have keep : ∀ (a : Act), StC P ops C oi v a → ∀ u, StC P ops C oi v (a.put oj.dst u) := fun a hy u =>
    hy.of_same (execOp_put oi hsi a oj.dst u h3) (wanted_put oi a oj.dst u h3)
  have keepD : ∀ d, StC P ops C oi v { a with defers := d :: a.defers } := fun d => hy.of_same rfl rfl
  unfold wpOp at *
  simp only [hj] at *
  rw [wanted_put oj a oi.dst v h1] at h
  split
  · rename_i hw
    simp only [hw, if_true] at h
    rcases h with h | ⟨_, hlets⟩
    case inr => exact absurd hlets letsOut_qz
    refine .inl ?_
    unfold Oper.wp at *
    rw [execOp_put oj hsj a oi.dst v h1] at h
    generalize (execOp a.eval oj).run P w = r at *
    cases r with
    | ok n w' =>
      cases n <;> simp only [Oper.upon] at h ⊢
      case value u => exact ⟨keep a hy u, by rw [← Act.put_comm a v u h2]; exact h⟩
      case skip => exact ⟨keep a hy _, by rw [← Act.put_comm a v undef h2]; exact h⟩
      case defer d =>
        refine ⟨keep _ (keepD d) _, ?_⟩
        rw [← Act.put_comm _ v undef h2, ← Act.put_defers]
        exact h
      case enter f args =>
        refine Calls.mono h fun e w'' he => ?_
        cases e with
        | returned u => exact ⟨keep a hy u, by rw [← Act.put_comm a v u h2]; exact he⟩
        | panicked c => exact absurd he (by simp [Qz])
        | outgrown => exact he
      case row row args => exact Rows.mono h fun u w'' he => ⟨keep a hy u, by rw [← Act.put_comm a v u h2]; exact he⟩
    | halt x w' =>
      cases x <;> simp only [Oper.upon] at h ⊢
      case panic u => exact absurd h (by simp [Qz])
  · rename_i hw
    simp only [hw] at h
    exact ⟨keep a hy _, by rw [← Act.put_comm a v undef h2]; exact h⟩

/-- so many operations below m, each of which may come up, then E -/
def wpAnyT (P : Program) (md : Region.Mode) (ops : Array Oper) (C : World → Prop) (m : Nat) (E : Array Bool → Act → World → Prop) : Nat → Array Bool → Act → World → Prop
  | 0, listed, a, w => C w ∧ (∀ j ∈ Region.ready md ops listed, m ≤ j) ∧ E listed a w
  | k + 1, listed, a, w => C w ∧ Region.ready md ops listed ≠ [] ∧ ∀ i ∈ Region.ready md ops listed, i < m ∧ wpOp P ops Qz i (wpAnyT P md ops C m E k (listed.setIfInBounds i true)) a w
theorem wpAnyT.c {m k : Nat} {E : Array Bool → Act → World → Prop} {listed : Array Bool} {a : Act} {w : World} (h : wpAnyT P md ops C m E k listed a w) : C w := by
  cases k with
  | zero => exact h.1
  | succ k => exact h.1

theorem wpAnyT_first {m i : Nat} {oi : Oper} {v : Value} {E : Array Bool → Act → World → Prop} (hi : ops[i]? = some oi) (him : i < m) (hsel : ∀ (j : Nat) (o : Oper) cs b, ops[j]? = some o → o.op ≠ .select cs b) (hT : TailWaitsB md ops m) :
    ∀ (fuel : Nat) (listed : Array Bool) (a : Act) (w : World), HeadInv md ops m listed →
      (∀ j oj, ops[j]? = some oj → j ≠ i → listed.getD j true = false → (∀ e ∈ oj.after, Region.binds md e = true → e.on ≠ i) → oi.apart ops oj = true) →
      i ∈ Region.ready md ops listed → StC P ops C oi v a →
      wpAnyT P md ops C m E fuel (listed.setIfInBounds i true) (a.put oi.dst v) w → wpAnyT P md ops C m E (fuel + 1) listed a w := by
  intro fuel
  induction fuel with
  | zero =>
    intro listed a w inv _ hr hy H
    refine ⟨H.c, fun h => (by rw [h] at hr; cases hr), fun j hj => ?_⟩
    by_cases hji : j = i
    · subst hji; exact ⟨him, hy.wpOp hi H.c H⟩
    · have h1 := H.2.1 j (ready_mono hj hji)
      have h2 := hT listed inv i him (mem_ready.1 hr).1 j hj
      omega
  | succ fuel ih =>
    intro listed a w inv hfree hr hy H
    refine ⟨H.c, fun h => (by rw [h] at hr; cases hr), fun j hj => ?_⟩
    by_cases hji : j = i
    · subst hji; exact ⟨him, hy.wpOp hi H.c H⟩
    · obtain ⟨hjm, h1⟩ := H.2.2 j (ready_mono hj hji)
      obtain ⟨hjun, oj, hoj, hall⟩ := mem_ready.1 hj
      have hnot : ∀ e ∈ oj.after, Region.binds md e = true → e.on ≠ i := fun e he hb heq => by
        have h1 := hall e he hb
        rw [heq, getD_both (mem_ready.1 hr).1] at h1
        cases h1
      have h2 := wpOp_putC hoj (hfree j oj hoj hji hjun hnot) (fun cs b => hsel i oi cs b hi) (fun cs b => hsel j oj cs b hoj) hy h1
      have hfree' : ∀ k ok, ops[k]? = some ok → k ≠ i → (listed.setIfInBounds j true).getD k true = false →
          (∀ e ∈ ok.after, Region.binds md e = true → e.on ≠ i) → oi.apart ops ok = true := fun k ok hk hki hun hno => by
        refine hfree k ok hk hki ?_ hno
        by_cases hjk : j = k
        · subst hjk; exact hjun
        · rw [getD_set_ne true hjk] at hun; exact hun
      refine ⟨hjm, wpOp_mono (fun a' w' h3 => ih (listed.setIfInBounds j true) a' w' (inv.set hj hjm) hfree' (ready_mono hr (Ne.symm hji)) h3.1 ?_) h2⟩
      rw [Array.setIfInBounds_comm _ _ hji]
      exact h3.2

theorem wpAny_of_T {m g : Nat} {E : Array Bool → Act → World → Prop} {Q : Exit → Act → World → Prop} (hE : ∀ listed a w, E listed a w → wpAny P md ops Q g listed a w) :
    ∀ (k : Nat) (listed : Array Bool) (a : Act) (w : World), wpAnyT P md ops C m E k listed a w → wpAny P md ops Q (k + g) listed a w
  | 0, listed, a, w, h => by rw [Nat.zero_add]; exact hE _ _ _ h.2.2
  | k + 1, listed, a, w, h => by
    rw [show k + 1 + g = (k + g) + 1 by omega]
    exact ⟨fun h0 => absurd h0 h.2.1, fun j hj => wpOp_mono (fun a' w' h' => wpAny_of_T hE k _ a' w' h') (wpOp_of_z (h.2.2 j hj).2)⟩

/-- the walk in the text's order: true: it only tells; false: it is alone -/
def wpMix (P : Program) (ops : Array Oper) (C : World → Prop) (E : Act → World → Prop) : List Bool → List Oper → Act → World → Prop
  | [], [], a, w => C w ∧ E a w
  | true :: ks, o :: l, a, w => ∃ v, StC P ops C o v a ∧ wpMix P ops C E ks l (a.put o.dst v) w
  | false :: ks, o :: l, a, w => C w ∧ ((Region.wanted o (yielded ops a.tmps) = true ∧ o.wp P a w (wpMix P ops C E ks l) Qz) ∨ (Region.wanted o (yielded ops a.tmps) = false ∧ wpMix P ops C E ks l (a.put o.dst undef) w))
  | _, _, _, _ => False
/-- nobody looks into it -/
structure MixW (P : Program) (ops : Array Oper) (C : World → Prop) (E : Act → World → Prop) (ks : List Bool) (l : List Oper) (a : Act) (w : World) : Prop where
  go : wpMix P ops C E ks l a w

def mixB (md : Region.Mode) (ops : Array Oper) (g : Nat) : List Bool → Nat → Array Bool → Bool
  | [], k, listed => Region.seqB md ops g k listed
  | true :: ks, k, listed => (Region.ready md ops listed).contains k && Region.free md ops listed k && mixB md ops g ks (k + 1) (listed.setIfInBounds k true)
  | false :: ks, k, listed => decide (Region.ready md ops listed = [k]) && mixB md ops g ks (k + 1) (listed.setIfInBounds k true)

theorem mix_lex {m g : Nat} {Lq : Act → World → Prop} (hsel : ∀ (j : Nat) (o : Oper) cs b, ops[j]? = some o → o.op ≠ .select cs b) (hT : TailWaitsB md ops m) :
    ∀ (ks : List Bool) (l : List Oper) (k : Nat) (listed : Array Bool) (a : Act) (w : World), (∀ j, j < l.length → l[j]? = ops[k + j]?) → k + l.length = m → HeadInv md ops m listed →
    mixB md ops g ks k listed = true → wpMix P ops C Lq ks l a w →
    wpAnyT P md ops C m (fun listed' a' w' => Region.seqB md ops g m listed' = true ∧ Lq a' w') l.length listed a w
  | [], [], k, listed, a, w, _, hk, _, hB, h => by
    have : k = m := by simpa using hk
    subst this
    exact ⟨h.1, seqB_ready hB, hB, h.2⟩
  | true :: ks, o :: l, k, listed, a, w, hl, hk, inv, hB, h => by
    have h0 : ops[k]? = some o := by simpa using (hl 0 (by simp)).symm
    simp only [mixB, Bool.and_eq_true] at hB
    obtain ⟨⟨hr, hf⟩, hB'⟩ := hB
    have hkm : k < m := by simp only [List.length_cons] at hk; omega
    have hr' : k ∈ Region.ready md ops listed := by simpa using hr
    obtain ⟨v, hy, h'⟩ := h
    exact wpAnyT_first h0 hkm hsel hT _ listed a w inv (Region.free_spec h0 hf) hr' hy
      (mix_lex hsel hT ks l (k + 1) _ _ w (fun j hj => by have := hl (j + 1) (by simp; omega); simpa [Nat.add_assoc, Nat.add_comm 1 j] using this) (by simp only [List.length_cons] at hk; omega) (inv.set hr' hkm) hB' h')
  | false :: ks, o :: l, k, listed, a, w, hl, hk, inv, hB, h => by
    have h0 : ops[k]? = some o := by simpa using (hl 0 (by simp)).symm
    simp only [mixB, Bool.and_eq_true, decide_eq_true_eq] at hB
    obtain ⟨hr, hB'⟩ := hB
    have hkm : k < m := by simp only [List.length_cons] at hk; omega
    obtain ⟨hc, h'⟩ := h
    refine ⟨hc, fun h1 => (by rw [hr] at h1; cases h1), fun i hi => ?_⟩
    have hi' := hi
    rw [hr] at hi
    have hik : i = k := by simpa using hi
    subst hik
    refine ⟨hkm, ?_⟩
    have rec_ : ∀ a' w', wpMix P ops C Lq ks l a' w' → wpAnyT P md ops C m (fun listed' a' w' => Region.seqB md ops g m listed' = true ∧ Lq a' w') l.length (listed.setIfInBounds i true) a' w' := fun a' w' h2 =>
      mix_lex hsel hT ks l (i + 1) _ a' w' (fun j hj => by have := hl (j + 1) (by simp; omega); simpa [Nat.add_assoc, Nat.add_comm 1 j] using this) (by simp only [List.length_cons] at hk; omega) (inv.set hi' hkm) hB' h2
    unfold wpOp
    simp only [h0]
    rcases h' with ⟨hw, h'⟩ | ⟨hw, h'⟩
    · simp only [hw, if_true]
      exact .inl (Oper.wp_mono rec_ h')
    · simp only [hw, Bool.false_eq_true, if_false]
      exact rec_ _ _ h'
  | [], _ :: _, _, _, _, _, _, _, _, _, h => h.elim
  | true :: _, [], _, _, _, _, _, _, _, _, h => h.elim
  | false :: _, [], _, _, _, _, _, _, _, _, h => h.elim

/-- the first operations by kinds, the rest one behind the other -/
theorem wp_region_m {id : Nat} {Q : Exit → Act → World → Prop} {a : Act} {w : World} {l : List Oper} (ks : List Bool) (C : World → Prop) (hm : P.follows .mixedOrders = true)
    (hB : (tailOkB l.toArray ks.length && mixB .any l.toArray (l.toArray.size - ks.length) ks 0 (Array.replicate l.toArray.size false)) = true)
    (h : MixW P l.toArray C (fun a' w' => wpList P l.toArray Q (l.drop ks.length) a' w') ks (l.take ks.length) a w.drew) : (Code.region id l.toArray true).wp P Q a w := by
  rw [Bool.and_eq_true] at hB
  obtain ⟨hok, hlex⟩ := hB
  obtain ⟨hsel, hnl, hT⟩ := tailOkB_spec hok
  have htl : (l.take ks.length).length = ks.length := by simp at hnl ⊢; omega
  have hdl : (l.drop ks.length).length = l.toArray.size - ks.length := by simp
  have H := mix_lex (P := P) (md := .any) (m := ks.length) (g := l.toArray.size - ks.length) (Region.noSelect_spec hsel) hT ks (l.take ks.length) 0 _ a w.drew (fun j hj => by
    have hj' : j < ks.length := by rw [htl] at hj; exact hj
    simp [hj']) (by rw [htl]; omega) (inv_new ks.length) hlex h.go
  refine wp_region_any hm ?_
  have := wpAny_of_T (Q := Q) (g := l.toArray.size - ks.length) (fun listed a' w' hL => by
    have := wpAny_of_seq (md := .any) (Q' := Q) (l.drop ks.length) ks.length listed a' w' (fun j => by simp [List.getElem?_drop]) (by rw [hdl]; exact hL.1) hL.2
    rwa [hdl] at this) _ _ _ _ H
  rw [htl, show ks.length + (l.toArray.size - ks.length) = l.toArray.size by omega] at this
  exact this

variable {E : Act → World → Prop} {ks : List Bool} {o : Oper} {rest : List Oper} {a : Act} {w : World}
theorem mx_val (hw : Region.wanted o (yielded ops a.tmps) = true) (h : ∃ v, (∀ w, C w → (execOp a.eval o).run P w = .ok (.value v) w) ∧ ∃ a', a.put o.dst v = a' ∧ MixW P ops C E ks rest a' w) : MixW P ops C E (true :: ks) (o :: rest) a w := by
  obtain ⟨v, hv, a', ha, h⟩ := h
  exact ⟨v, .inl ⟨hw, hv⟩, by rw [ha]; exact h.go⟩
theorem mx_move (x : Operand) (hw : Region.wanted o (yielded ops a.tmps) = true) (hop : o.op = .move x) (h : ∃ v, a.eval x = v ∧ ∃ a', a.put o.dst v = a' ∧ MixW P ops C E ks rest a' w) : MixW P ops C E (true :: ks) (o :: rest) a w := by
  obtain ⟨v, hv, h⟩ := h
  exact mx_val hw ⟨v, fun w _ => by rw [BigFrame.run_move x hop, hv], h⟩
theorem mx_assign (x : Operand) (hw : Region.wanted o (yielded ops a.tmps) = true) (hop : o.op = .assign x) (h : ∃ v, a.eval x = v ∧ ∃ a', a.put o.dst v = a' ∧ MixW P ops C E ks rest a' w) : MixW P ops C E (true :: ks) (o :: rest) a w := by
  obtain ⟨v, hv, h⟩ := h
  exact mx_val hw ⟨v, fun w _ => by rw [BigFrame.run_assign x hop, hv], h⟩
/-- alone: a value, and a world -/
theorem mx_alone (hc : C w) (hw : Region.wanted o (yielded ops a.tmps) = true) (h : ∃ v w', (execOp a.eval o).run P w = .ok (.value v) w' ∧ ∃ a', a.put o.dst v = a' ∧ MixW P ops C E ks rest a' w') : MixW P ops C E (false :: ks) (o :: rest) a w := by
  obtain ⟨v, w', hv, a', ha, h⟩ := h
  refine ⟨hc, .inl ⟨hw, ?_⟩⟩
  unfold Oper.wp
  rw [hv]
  show wpMix P ops C E ks rest (a.put o.dst v) w'
  rw [ha]
  exact h.go
/-- alone: a call -/
theorem mx_call {f : FuncId} {args : Array Value} {R : Ending → World → Prop} (hc : C w) (hw : Region.wanted o (yielded ops a.tmps) = true) (hv : (execOp a.eval o).run P w = .ok (.enter f args) w) (hcall : Calls P f args w R)
    (h : ∀ e w', R e w' → ∃ v, e = .returned v ∧ ∃ a', a.put o.dst v = a' ∧ MixW P ops C E ks rest a' w') : MixW P ops C E (false :: ks) (o :: rest) a w := by
  refine ⟨hc, .inl ⟨hw, ?_⟩⟩
  unfold Oper.wp
  rw [hv]
  refine hcall.mono fun e w' he => ?_
  obtain ⟨v, rfl, a', ha, h⟩ := h e w' he
  show wpMix P ops C E ks rest (a.put o.dst v) w'
  rw [ha]
  exact h.go
theorem mx_end (hc : C w) (h : E a w) : MixW P ops C E [] [] a w := ⟨hc, h⟩
end
end Go.Proofs.YtjcfphdjgagimaaGreatDoor

/- Drawn regions in an order of ours: as Mix, but the operations are told in any order that the region may have. No program. -/
namespace Go.Proofs.YtjcfphdjgagimaaGreatDoor
open Go.RowKit

section
variable {P : Program} {ops : Array Oper} {md : Region.Mode} {C : World → Prop}
def mixP (md : Region.Mode) (ops : Array Oper) (g m : Nat) : List (Nat × Bool) → Array Bool → Bool
  | [], listed => Region.seqB md ops g m listed
  | (k, true) :: ks, listed => decide (k < m) && (Region.ready md ops listed).contains k && Region.free md ops listed k && mixP md ops g m ks (listed.setIfInBounds k true)
  | (k, false) :: ks, listed => decide (k < m) && decide (Region.ready md ops listed = [k]) && mixP md ops g m ks (listed.setIfInBounds k true)
theorem mix_perm {m g : Nat} {Lq : Act → World → Prop} (hsel : ∀ (j : Nat) (o : Oper) cs b, ops[j]? = some o → o.op ≠ .select cs b) (hT : TailWaitsB md ops m) :
    ∀ (ks : List (Nat × Bool)) (l : List Oper) (listed : Array Bool) (a : Act) (w : World), l.map some = ks.map (fun x => ops[x.1]?) → HeadInv md ops m listed →
    mixP md ops g m ks listed = true → wpMix P ops C Lq (ks.map (·.2)) l a w →
    wpAnyT P md ops C m (fun listed' a' w' => Region.seqB md ops g m listed' = true ∧ Lq a' w') l.length listed a w
  | [], [], listed, a, w, _, _, hB, h => ⟨h.1, seqB_ready hB, hB, h.2⟩
  | (k, true) :: ks, o :: l, listed, a, w, hl, inv, hB, h => by
    simp only [List.map_cons, List.cons.injEq] at hl
    have h0 : ops[k]? = some o := hl.1.symm
    simp only [mixP, Bool.and_eq_true, decide_eq_true_eq] at hB
    obtain ⟨⟨⟨hkm, hr⟩, hf⟩, hB'⟩ := hB
    have hr' : k ∈ Region.ready md ops listed := by simpa using hr
    obtain ⟨v, hy, h'⟩ := h
    exact wpAnyT_first h0 hkm hsel hT _ listed a w inv (Region.free_spec h0 hf) hr' hy (mix_perm hsel hT ks l _ _ w hl.2 (inv.set hr' hkm) hB' h')
  | (k, false) :: ks, o :: l, listed, a, w, hl, inv, hB, h => by
    simp only [List.map_cons, List.cons.injEq] at hl
    have h0 : ops[k]? = some o := hl.1.symm
    simp only [mixP, Bool.and_eq_true, decide_eq_true_eq] at hB
    obtain ⟨⟨hkm, hr⟩, hB'⟩ := hB
    obtain ⟨hc, h'⟩ := h
    refine ⟨hc, fun h1 => (by rw [hr] at h1; cases h1), fun i hi => ?_⟩
    have hi' := hi
    rw [hr] at hi
    have hik : i = k := by simpa using hi
    subst hik
    refine ⟨hkm, ?_⟩
    have rec_ : ∀ a' w', wpMix P ops C Lq (ks.map (·.2)) l a' w' → wpAnyT P md ops C m (fun listed' a' w' => Region.seqB md ops g m listed' = true ∧ Lq a' w') l.length (listed.setIfInBounds i true) a' w' := fun a' w' h2 =>
      mix_perm hsel hT ks l _ a' w' hl.2 (inv.set hi' hkm) hB' h2
    unfold wpOp
    simp only [h0]
    rcases h' with ⟨hw, h'⟩ | ⟨hw, h'⟩
    · simp only [hw, if_true]
      exact .inl (Oper.wp_mono rec_ h')
    · simp only [hw, Bool.false_eq_true, if_false]
      exact rec_ _ _ h'
  | [], _ :: _, _, _, _, hl, _, _, _ => by simp at hl
  | (_, true) :: _, [], _, _, _, hl, _, _, _ => by simp at hl
  | (_, false) :: _, [], _, _, _, hl, _, _, _ => by simp at hl
theorem filterMap_some (l : List Oper) : ∀ (ks : List (Nat × Bool)), ks.all (fun x => decide (x.1 < l.length)) = true → (ks.filterMap fun x => l[x.1]?).map some = ks.map (fun x => l.toArray[x.1]?)
  | [], _ => rfl
  | x :: ks, h => by
    simp only [List.all_cons, Bool.and_eq_true, decide_eq_true_eq] at h
    have ih := filterMap_some l ks h.2
    rw [List.filterMap_cons, List.getElem?_eq_getElem h.1]
    simp only [List.map_cons]
    rw [ih, show l.toArray[x.1]? = some l[x.1] by simp [h.1]]
/-- the first operations in an order of ours, by kinds; the rest one behind the other -/
theorem wp_region_p {id : Nat} {Q : Exit → Act → World → Prop} {a : Act} {w : World} {l : List Oper} (ks : List (Nat × Bool)) (C : World → Prop) (hm : P.follows .mixedOrders = true)
    (hB : (ks.all (fun x => decide (x.1 < l.length)) && tailOkB l.toArray ks.length && mixP .any l.toArray (l.toArray.size - ks.length) ks.length ks (Array.replicate l.toArray.size false)) = true)
    (h : MixW P l.toArray C (fun a' w' => wpList P l.toArray Q (l.drop ks.length) a' w') (ks.map (·.2)) (ks.filterMap fun x => l[x.1]?) a w.drew) : (Code.region id l.toArray true).wp P Q a w := by
  rw [Bool.and_eq_true, Bool.and_eq_true] at hB
  obtain ⟨⟨hall, hok⟩, hlex⟩ := hB
  obtain ⟨hsel, hnl, hT⟩ := tailOkB_spec hok
  have hfm := filterMap_some l ks hall
  have hfl : (ks.filterMap fun x => l[x.1]?).length = ks.length := by simpa using congrArg List.length hfm
  have hdl : (l.drop ks.length).length = l.toArray.size - ks.length := by simp
  have H := mix_perm (P := P) (md := .any) (m := ks.length) (g := l.toArray.size - ks.length) (Region.noSelect_spec hsel) hT ks _ _ a w.drew hfm (inv_new ks.length) hlex h.go
  refine wp_region_any hm ?_
  have := wpAny_of_T (Q := Q) (g := l.toArray.size - ks.length) (fun listed a' w' hL => by
    have := wpAny_of_seq (md := .any) (Q' := Q) (l.drop ks.length) ks.length listed a' w' (fun j => by simp [List.getElem?_drop]) (by rw [hdl]; exact hL.1) hL.2
    rwa [hdl] at this) _ _ _ _ H
  rw [hfl, show ks.length + (l.toArray.size - ks.length) = l.toArray.size by simp at hnl ⊢; omega] at this
  exact this
end
end Go.Proofs.YtjcfphdjgagimaaGreatDoor

/- Drawn regions with two operations that make memory, neither of which waits for the other: both orders, and one continuation. No program. -/
namespace Go.Proofs.YtjcfphdjgagimaaGreatDoor
open Go.RowKit

section
variable {P : Program} {ops : Array Oper} {md : Region.Mode} {C : World → Prop}
/-- alone, by its own law -/
theorem mx_wp {E : Act → World → Prop} {ks : List Bool} {o : Oper} {rest : List Oper} {a : Act} {w : World} (hc : C w) (hw : Region.wanted o (yielded ops a.tmps) = true) (h : o.wp P a w (fun a' w' => MixW P ops C E ks rest a' w') Qz) : MixW P ops C E (false :: ks) (o :: rest) a w :=
  ⟨hc, .inl ⟨hw, Oper.wp_mono (fun _ _ h => h.go) h⟩⟩
end
end Go.Proofs.YtjcfphdjgagimaaGreatDoor

/- Drawn regions by a plan: operations that only tell, operations that are alone, and at forks either of two. No program. -/
namespace Go.Proofs.YtjcfphdjgagimaaGreatDoor
open Go.RowKit

inductive Plan where
  | done
  | tell (k : Nat) (p : Plan)
  | one (k : Nat) (p : Plan)
  | two (i : Nat) (p : Plan) (j : Nat) (q : Plan)
  | three (i : Nat) (p : Plan) (j : Nat) (q : Plan) (k : Nat) (r : Plan)
namespace Plan
def count : Plan → Nat
  | done => 0
  | tell _ p => p.count + 1
  | one _ p => p.count + 1
  | two _ p _ _ => p.count + 1
  | three _ p _ _ _ _ => p.count + 1
def ok (md : Region.Mode) (ops : Array Oper) (g m : Nat) : Plan → Array Bool → Bool
  | done, listed => Region.seqB md ops g m listed
  | tell k p, listed => decide (k < m) && (Region.ready md ops listed).contains k && Region.free md ops listed k && ok md ops g m p (listed.setIfInBounds k true)
  | one k p, listed => decide (k < m) && decide (Region.ready md ops listed = [k]) && ok md ops g m p (listed.setIfInBounds k true)
  | two i p j q, listed => decide (i < m) && decide (j < m) && decide (p.count = q.count) && decide (Region.ready md ops listed = [i, j]) && ok md ops g m p (listed.setIfInBounds i true) && ok md ops g m q (listed.setIfInBounds j true)
  | three i p j q k r, listed => decide (i < m) && decide (j < m) && decide (k < m) && decide (p.count = q.count) && decide (p.count = r.count) && decide (Region.ready md ops listed = [i, j, k]) && ok md ops g m p (listed.setIfInBounds i true) && ok md ops g m q (listed.setIfInBounds j true) && ok md ops g m r (listed.setIfInBounds k true)
end Plan
section
variable {P : Program} {ops : Array Oper} {md : Region.Mode} {C : World → Prop}
/-- an operation that is alone -/
def aloneP (P : Program) (ops : Array Oper) (o : Oper) (K : Act → World → Prop) (a : Act) (w : World) : Prop :=
  (Region.wanted o (yielded ops a.tmps) = true ∧ o.wp P a w K Qz) ∨ (Region.wanted o (yielded ops a.tmps) = false ∧ K (a.put o.dst undef) w)
def wpPlan (P : Program) (ops : Array Oper) (C : World → Prop) (E : Act → World → Prop) : Plan → Act → World → Prop
  | .done, a, w => C w ∧ E a w
  | .tell k p, a, w => ∃ o v, ops[k]? = some o ∧ StC P ops C o v a ∧ wpPlan P ops C E p (a.put o.dst v) w
  | .one k p, a, w => C w ∧ ∃ o, ops[k]? = some o ∧ aloneP P ops o (wpPlan P ops C E p) a w
  | .two i p j q, a, w => C w ∧ (∃ o, ops[i]? = some o ∧ aloneP P ops o (wpPlan P ops C E p) a w) ∧ (∃ o, ops[j]? = some o ∧ aloneP P ops o (wpPlan P ops C E q) a w)
  | .three i p j q k r, a, w => C w ∧ (∃ o, ops[i]? = some o ∧ aloneP P ops o (wpPlan P ops C E p) a w) ∧ (∃ o, ops[j]? = some o ∧ aloneP P ops o (wpPlan P ops C E q) a w) ∧ (∃ o, ops[k]? = some o ∧ aloneP P ops o (wpPlan P ops C E r) a w)
/-- nobody looks into it -/
structure PlanW (P : Program) (ops : Array Oper) (C : World → Prop) (E : Act → World → Prop) (p : Plan) (a : Act) (w : World) : Prop where
  go : wpPlan P ops C E p a w
theorem aloneP.wpOp {i : Nat} {o : Oper} {K K' : Act → World → Prop} {a : Act} {w : World} (hi : ops[i]? = some o) (hK : ∀ a' w', K a' w' → K' a' w') (h : aloneP P ops o K a w) : wpOp P ops Qz i K' a w := by
  unfold Go.wpOp
  simp only [hi]
  rcases h with ⟨hw, h⟩ | ⟨hw, h⟩
  · simp only [hw, if_true]
    exact .inl (Oper.wp_mono hK h)
  · simp only [hw, Bool.false_eq_true, if_false]
    exact hK _ _ h
theorem plan_any {m g : Nat} {Lq : Act → World → Prop} (hsel : ∀ (j : Nat) (o : Oper) cs b, ops[j]? = some o → o.op ≠ .select cs b) (hT : TailWaitsB md ops m) :
    ∀ (p : Plan) (listed : Array Bool) (a : Act) (w : World), HeadInv md ops m listed → p.ok md ops g m listed = true → wpPlan P ops C Lq p a w →
    wpAnyT P md ops C m (fun listed' a' w' => Region.seqB md ops g m listed' = true ∧ Lq a' w') p.count listed a w
  | .done, listed, a, w, _, hB, h => ⟨h.1, seqB_ready hB, hB, h.2⟩
  | .tell k p, listed, a, w, inv, hB, h => by
    simp only [Plan.ok, Bool.and_eq_true, decide_eq_true_eq] at hB
    obtain ⟨⟨⟨hkm, hr⟩, hf⟩, hB'⟩ := hB
    have hr' : k ∈ Region.ready md ops listed := by simpa using hr
    obtain ⟨o, v, h0, hy, h'⟩ := h
    exact wpAnyT_first h0 hkm hsel hT _ listed a w inv (Region.free_spec h0 hf) hr' hy (plan_any hsel hT p _ _ w (inv.set hr' hkm) hB' h')
  | .one k p, listed, a, w, inv, hB, h => by
    simp only [Plan.ok, Bool.and_eq_true, decide_eq_true_eq] at hB
    obtain ⟨⟨hkm, hr⟩, hB'⟩ := hB
    obtain ⟨hc, o, h0, h'⟩ := h
    refine ⟨hc, fun h1 => (by rw [hr] at h1; cases h1), fun i hi => ?_⟩
    have hi' := hi
    rw [hr] at hi
    obtain rfl : i = k := by simpa using hi
    exact ⟨hkm, h'.wpOp h0 fun a' w' h2 => plan_any hsel hT p _ a' w' (inv.set hi' hkm) hB' h2⟩
  | .two i p j q, listed, a, w, inv, hB, h => by
    simp only [Plan.ok, Bool.and_eq_true, decide_eq_true_eq] at hB
    obtain ⟨⟨⟨⟨⟨him, hjm⟩, hpq⟩, hr⟩, hp⟩, hq⟩ := hB
    obtain ⟨hc, ⟨oi, h0, h1⟩, ⟨oj, h2, h3⟩⟩ := h
    refine ⟨hc, fun h1 => (by rw [hr] at h1; cases h1), fun x hx => ?_⟩
    have hx' := hx
    rw [hr] at hx
    rcases List.mem_cons.1 hx with rfl | hx
    · exact ⟨him, h1.wpOp h0 fun a' w' h => plan_any hsel hT p _ a' w' (inv.set hx' him) hp h⟩
    · obtain rfl := List.mem_singleton.1 hx
      exact ⟨hjm, h3.wpOp h2 fun a' w' h => by
        have := plan_any hsel hT q _ a' w' (inv.set hx' hjm) hq h
        rw [hpq]
        exact this⟩
  | .three i p j q k r, listed, a, w, inv, hB, h => by
    simp only [Plan.ok, Bool.and_eq_true, decide_eq_true_eq] at hB
    obtain ⟨⟨⟨⟨⟨⟨⟨⟨him, hjm⟩, hkm⟩, hpq⟩, hpr⟩, hr⟩, hp⟩, hq⟩, hrr⟩ := hB
    obtain ⟨hc, ⟨oi, h0, h1⟩, ⟨oj, h2, h3⟩, ⟨ok, h4, h5⟩⟩ := h
    refine ⟨hc, fun h1 => (by rw [hr] at h1; cases h1), fun x hx => ?_⟩
    have hx' := hx
    rw [hr] at hx
    rcases List.mem_cons.1 hx with rfl | hx
    · exact ⟨him, h1.wpOp h0 fun a' w' h => plan_any hsel hT p _ a' w' (inv.set hx' him) hp h⟩
    · rcases List.mem_cons.1 hx with rfl | hx
      · exact ⟨hjm, h3.wpOp h2 fun a' w' h => by
          have := plan_any hsel hT q _ a' w' (inv.set hx' hjm) hq h
          rw [hpq]
          exact this⟩
      · obtain rfl := List.mem_singleton.1 hx
        exact ⟨hkm, h5.wpOp h4 fun a' w' h => by
          have := plan_any hsel hT r _ a' w' (inv.set hx' hkm) hrr h
          rw [hpr]
          exact this⟩
/-- the first operations by a plan, the rest one behind the other -/
theorem wp_region_plan {id : Nat} {Q : Exit → Act → World → Prop} {a : Act} {w : World} {l : List Oper} (p : Plan) (C : World → Prop) (E : Act → World → Prop) (hm : P.follows .mixedOrders = true)
    (hB : (tailOkB l.toArray p.count && p.ok .any l.toArray (l.toArray.size - p.count) p.count (Array.replicate l.toArray.size false)) = true)
    (h : PlanW P l.toArray C E p a w.drew) (hE : ∀ a' w', E a' w' → wpList P l.toArray Q (l.drop p.count) a' w') : (Code.region id l.toArray true).wp P Q a w := by
  rw [Bool.and_eq_true] at hB
  obtain ⟨hok, hlex⟩ := hB
  obtain ⟨hsel, hnl, hT⟩ := tailOkB_spec hok
  have hdl : (l.drop p.count).length = l.toArray.size - p.count := by simp
  have H := plan_any (P := P) (md := .any) (m := p.count) (g := l.toArray.size - p.count) (Region.noSelect_spec hsel) hT p _ a w.drew (inv_new p.count) hlex h.go
  refine wp_region_any hm ?_
  have := wpAny_of_T (Q := Q) (g := l.toArray.size - p.count) (fun listed a' w' hL => by
    have := wpAny_of_seq (md := .any) (Q' := Q) (l.drop p.count) p.count listed a' w' (fun j => by simp [List.getElem?_drop]) (by rw [hdl]; exact hL.1) (hE _ _ hL.2)
    rwa [hdl] at this) _ _ _ _ H
  rw [show p.count + (l.toArray.size - p.count) = l.toArray.size by simp at hnl ⊢; omega] at this
  exact this
variable {E : Act → World → Prop} {p q : Plan} {o : Oper} {a : Act} {w : World}
theorem pl_val {k : Nat} (h0 : ops[k]? = some o) (hw : Region.wanted o (yielded ops a.tmps) = true) (h : ∃ v, (∀ w, C w → (execOp a.eval o).run P w = .ok (.value v) w) ∧ ∃ a', a.put o.dst v = a' ∧ PlanW P ops C E p a' w) : PlanW P ops C E (.tell k p) a w := by
  obtain ⟨v, hv, a', ha, h⟩ := h
  exact ⟨o, v, h0, .inl ⟨hw, hv⟩, by rw [ha]; exact h.go⟩
theorem aloneP.mono {o : Oper} {K K' : Act → World → Prop} {a : Act} {w : World} (hK : ∀ a w, K a w → K' a w) (h : aloneP P ops o K a w) : aloneP P ops o K' a w :=
  h.imp (fun h => ⟨h.1, Oper.wp_mono hK h.2⟩) (fun h => ⟨h.1, hK _ _ h.2⟩)
/-- a plan without forks: what is behind it is walked on -/
theorem wp_region_line {id : Nat} {Q : Exit → Act → World → Prop} {a : Act} {w : World} {l : List Oper} (p : Plan) (C : World → Prop) (hm : P.follows .mixedOrders = true)
    (hB : (tailOkB l.toArray p.count && p.ok .any l.toArray (l.toArray.size - p.count) p.count (Array.replicate l.toArray.size false)) = true)
    (h : PlanW P l.toArray C (fun a' w' => wpList P l.toArray Q (l.drop p.count) a' w') p a w.drew) : (Code.region id l.toArray true).wp P Q a w := wp_region_plan p C _ hm hB h (fun _ _ h => h)
theorem pl_end (hc : C w) (h : E a w) : PlanW P ops C E .done a w := ⟨hc, h⟩
end
end Go.Proofs.YtjcfphdjgagimaaGreatDoor
