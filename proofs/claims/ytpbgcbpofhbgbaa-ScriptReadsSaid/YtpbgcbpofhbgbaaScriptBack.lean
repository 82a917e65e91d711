/- What is read of bytes has just these bytes. -/
import Derived.Test.YtpbgcbpofhbgbaaScriptReadP
import Derived.Test.YtpbgcbpofhbgbaaScriptWrite
namespace Go.Proofs.Ytpbgcbpofhbgbaa
open Go.RowKit

theorem read_back {l L : List UInt8} {f : Int} {n m : Nat} (h : readS l f m = (n, L, 0)) : f = 0 ∧ l = numB n ++ L ∧ n ≤ m := by
  by_cases hf : f = 0
  · subst hf
    obtain ⟨h1, _, k, _, _, _, h2, h3⟩ := readS_once h
    exact ⟨rfl, by rw [← h2, h3, List.take_append_drop], h1⟩
  · rw [readS_bad hf] at h
    simp at h
    exact absurd h.2.2 hf
theorem int_back {l L : List UInt8} {f : Int} {n m : Nat} (h : intS l f (m : Int) = (n, L, 0)) : f = 0 ∧ l = numB n ++ L ∧ n ≤ m := by
  unfold intS at h
  rw [if_pos (by omega), Int.toNat_natCast] at h
  exact read_back h
theorem text_back {l L t : List UInt8} {f : Int} {m : Nat} (h : textS l f (m : Int) = (t, L, 0)) : f = 0 ∧ l = textB t ++ L ∧ t.length ≤ m := by
  unfold textS at h
  obtain ⟨n, K, g, e⟩ : ∃ n K g, intS l f (m : Int) = (n, K, g) := ⟨_, _, _, rfl⟩
  rw [e] at h
  dsimp only at h
  split at h
  · rename_i hg
    simp at h
    exact absurd h.2.2 hg
  · rename_i hg
    obtain rfl : g = 0 := by simpa using hg
    split at h
    · simp at h
    · rename_i hk
      simp only [Prod.mk.injEq] at h
      obtain ⟨rfl, rfl, _⟩ := h
      obtain ⟨h1, h2, h3⟩ := int_back e
      have hl : (K.take n).length = n := by rw [List.length_take]; omega
      refine ⟨h1, ?_, by omega⟩
      unfold textB
      rw [hl, List.append_assoc, List.take_append_drop, h2]
theorem keep_back {l L : List UInt8} {f : Int} {x : KV} (h : keepS l f = (x, L, 0)) : f = 0 ∧ l = keepB x ++ L ∧ goodK x = true := by
  obtain ⟨n1, L1, f1, e1⟩ : ∃ n L g, intS l f 1048576 = (n, L, g) := ⟨_, _, _, rfl⟩
  obtain ⟨n2, L2, f2, e2⟩ : ∃ n L g, intS L1 f1 1048576 = (n, L, g) := ⟨_, _, _, rfl⟩
  unfold keepS at h
  rw [e1] at h
  dsimp only at h
  rw [e2] at h
  simp only [Prod.mk.injEq] at h
  obtain ⟨rfl, rfl, rfl⟩ := h
  obtain ⟨rfl, h1, h2⟩ := int_back (m := 1048576) e2
  obtain ⟨rfl, h3, h4⟩ := int_back (m := 1048576) e1
  refine ⟨rfl, ?_, ?_⟩
  · rw [h3, h1]
    unfold keepB
    simp
  · simp [goodK, inB]
    omega
theorem cho_back {l L : List UInt8} {f : Int} {x : HW} (h : choS l f = (x, L, 0)) : f = 0 ∧ l = choB x ++ L ∧ goodC x = true := by
  obtain ⟨n1, L1, f1, e1⟩ : ∃ n L g, textS l f 96 = (n, L, g) := ⟨_, _, _, rfl⟩
  obtain ⟨n2, L2, f2, e2⟩ : ∃ n L g, intS L1 f1 2 = (n, L, g) := ⟨_, _, _, rfl⟩
  unfold choS at h
  rw [e1] at h
  dsimp only at h
  rw [e2] at h
  simp only [Prod.mk.injEq] at h
  obtain ⟨rfl, rfl, rfl⟩ := h
  obtain ⟨rfl, h1, h2⟩ := int_back (m := 2) e2
  obtain ⟨rfl, h3, h4⟩ := text_back (m := 96) e1
  refine ⟨rfl, ?_, ?_⟩
  · rw [h3, h1]
    unfold choB
    simp
  · have hs : (⟨n1.toArray⟩ : ByteArray).size = n1.length := by show n1.toArray.size = _; simp
    simp only [goodC, inB, hs, Bool.and_eq_true, decide_eq_true_eq]
    omega
theorem listN_back {α : Type} {one : List UInt8 → Int → α × List UInt8 × Int} {B : α → List UInt8} {G : α → Bool} (h1 : ∀ {l L f x}, one l f = (x, L, 0) → f = 0 ∧ l = B x ++ L ∧ G x = true) :
    ∀ (n : Nat) {l L : List UInt8} {f : Int} {s : List α}, listN one n l f = (s, L, 0) → f = 0 ∧ s.length = n ∧ l = s.flatMap B ++ L ∧ s.all G = true
  | 0, l, L, f, s, h => by
    simp only [listN, Prod.mk.injEq] at h
    obtain ⟨rfl, rfl, rfl⟩ := h
    exact ⟨rfl, rfl, by simp, rfl⟩
  | n + 1, l, L, f, s, h => by
    by_cases hf : f = 0
    · subst hf
      rw [listN_ok] at h
      obtain ⟨x, L1, f1, e1⟩ : ∃ x L g, one l 0 = (x, L, g) := ⟨_, _, _, rfl⟩
      obtain ⟨t, L2, f2, e2⟩ : ∃ t L g, listN one n L1 f1 = (t, L, g) := ⟨_, _, _, rfl⟩
      rw [e1] at h
      dsimp only at h
      rw [e2] at h
      simp only [Prod.mk.injEq] at h
      obtain ⟨rfl, rfl, rfl⟩ := h
      obtain ⟨rfl, q1, q2, q3⟩ := listN_back h1 n e2
      obtain ⟨_, q4, q5⟩ := h1 e1
      exact ⟨rfl, by simp [q1], by rw [q4, q2]; simp, by simp [q3, q5]⟩
    · rw [listN_bad hf] at h
      simp at h
      exact absurd h.2.2 hf
theorem list_back {α : Type} {one : List UInt8 → Int → α × List UInt8 × Int} {B : α → List UInt8} {G : α → Bool} (h1 : ∀ {l L f x}, one l f = (x, L, 0) → f = 0 ∧ l = B x ++ L ∧ G x = true) {l L : List UInt8} {f : Int} {s : List α} (h : listS one l f = (s, L, 0)) :
    f = 0 ∧ s.length ≤ 8 ∧ l = numB s.length ++ (s.flatMap B ++ L) ∧ s.all G = true := by
  unfold listS at h
  obtain ⟨n, K, g, e⟩ : ∃ n K g, intS l f 8 = (n, K, g) := ⟨_, _, _, rfl⟩
  rw [e] at h
  dsimp only at h
  obtain ⟨rfl, q1, q2, q3⟩ := listN_back h1 n h
  obtain ⟨rfl, q4, q5⟩ := int_back (m := 8) e
  exact ⟨rfl, by omega, by rw [q4, q1, q2], q3⟩
theorem RdA.back {l L : List UInt8} {f : Int} {a : AS} (h : RdA l f a L 0) : f = 0 ∧ l = actB a ++ L ∧ rightA a = true := by
  obtain ⟨a0, a1, a2, a3, a4, a5, a6, a7, a8, a9, a10, L0, M0, L1, L2, L3, L4, L5, L6, L7, L8, L9, f0, g0, f1, f2, f3, f4, f5, f6, f7, f8, f9, h0, hg, h1, h2, h3, h4, h5, h6, h7, h8, h9, h10, rfl⟩ := h
  obtain ⟨rfl, c1, c2, c3⟩ := list_back (B := choB) (G := goodC) cho_back h10
  obtain ⟨rfl, k1, k2, k3⟩ := list_back (B := keepB) (G := goodK) keep_back h9
  obtain ⟨rfl, x1, x2⟩ := text_back (m := 4096) h8
  obtain ⟨rfl, t1, t2⟩ := text_back (m := 96) h7
  obtain ⟨rfl, p1, p2⟩ := text_back (m := 96) h6
  obtain ⟨rfl, e1, e2⟩ := int_back (m := 5) h5
  obtain ⟨rfl, m1, m2⟩ := read_back h4
  obtain ⟨rfl, b1, b2⟩ := int_back (m := 1048577) h3
  obtain ⟨rfl, n1, n2⟩ := int_back (m := 1048577) h2
  obtain ⟨rfl, s1, s2⟩ := int_back (m := 2) h1
  have hk : a0 ≠ 0 := by
    intro e
    rw [if_pos e] at hg
    unfold failS at hg
    split at hg
    · simp at hg
    · rename_i hf
      simp at hg
      exact hf ⟨hg.2, by omega⟩
  rw [if_neg hk] at hg
  simp only [Prod.mk.injEq] at hg
  obtain ⟨rfl, rfl⟩ := hg
  obtain ⟨rfl, k4, k5⟩ := int_back (m := 12) h0
  have z1 : (⟨a6.toArray⟩ : ByteArray).size = a6.length := by show a6.toArray.size = _; simp
  have z2 : (⟨a7.toArray⟩ : ByteArray).size = a7.length := by show a7.toArray.size = _; simp
  refine ⟨rfl, ?_, ?_⟩
  · rw [k4, s1, n1, b1, m1, e1, p1, t1, x1, k2, c2]
    unfold actB
    simp
  · simp only [rightA, editB, inB, z1, z2, k3, c3, Bool.and_eq_true, decide_eq_true_eq]
    refine ⟨by omega, by omega, by omega, by omega, by omega, by omega, ⟨by omega, by omega, by omega, by omega⟩, trivial, trivial⟩
theorem RdN.back {n : Nat} {l L : List UInt8} {f g : Int} {s : List AS} (h : RdN n l f s L g) : g = 0 → f = 0 ∧ s.length = n ∧ l = s.flatMap actB ++ L ∧ s.all rightA = true := by
  induction h with
  | zero => intro e; exact ⟨e, rfl, by simp, rfl⟩
  | bad hf => intro e; exact absurd e hf
  | step ha _ ih =>
    intro e
    obtain ⟨rfl, h1, h2, h3⟩ := ih e
    obtain ⟨_, h4, h5⟩ := ha.back
    exact ⟨rfl, by simp [h1], by rw [h4, h2]; simp, by simp [h3, h5]⟩
theorem RdP.back {l : List UInt8} {s : List AS} (h : RdP l s 0) : writeS s = (l, 0) := by
  obtain ⟨n, L, L', f, f', t, h1, h2, h3, h4⟩ := h
  rw [if_neg (by simp)] at h4
  subst h4
  have hc : f' = 0 ∧ L' = [] := by
    unfold closeS at h3
    split at h3
    · rename_i hf; exact absurd h3.symm hf
    · rename_i hf
      split at h3
      · simp at h3
      · rename_i hl
        exact ⟨by simpa using hf, List.eq_nil_of_length_eq_zero (by omega)⟩
  obtain ⟨rfl, rfl⟩ := hc
  obtain ⟨rfl, q1, q2, q3⟩ := h2.back rfl
  obtain ⟨_, q4, q5⟩ := int_back (m := 65536) h1
  unfold writeS
  rw [if_neg (by omega), if_pos q3, q4, q2, q1, List.append_nil]
end Go.Proofs.Ytpbgcbpofhbgbaa
