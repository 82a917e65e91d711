/- tenderlaw16.lives. -/
import Derived.Test.YtpbgcbpofhbgbaaPipeTake
import Derived.Test.YtpbgcbpofhbgbaaPipeSend
namespace Go.Proofs.Ytpbgcbpofhbgbaa
open Go.RowKit

theorem PipeTo.len {w w' : World} {base pb : Nat} {X : Nat → Prop} {A : Option Addr} {S : List (List UInt8 × Bool × Bool)} {cl : Bool} (h : PipeTo w base pb X A S cl w') : ∃ A' c' ls', PipeAt w' base pb X A' c' ls' cl ∧ Hid (ls'.map PV.s = S) ∧ ls'.length = S.length ∧ ∀ g, ablk A' = some g → ablk A = some g ∨ w.heap.size ≤ g := by
  obtain ⟨A', c', ls', h1, h2, h3⟩ := h.at_
  exact ⟨A', c', ls', h1, h2, by have := congrArg List.length h2.out; simpa using this, h3⟩
/-- everything below B stays where the pipe lies above it -/
theorem PipeTo.low {w w' : World} {base pb B c : Nat} {X : Nat → Prop} {A : Option Addr} {ls : List PV} {S : List (List UInt8 × Bool × Bool)} {cl cl' : Bool} (h : PipeTo w base pb X A S cl w') (ha : PipeAt w base pb X A c ls cl') (hp : B ≤ pb) (hB : B ≤ base) (hs : B ≤ w.heap.size) : Below B w w' :=
  h.fr.below hs (fun k hk e => by
    rcases e with rfl | e
    · omega
    · have := (ha.row.lt k e).1; omega)

set_option maxRecDepth 100000 in
set_option maxHeartbeats 1000000 in
theorem lives16_any (w : World) : Calls Try.prog 9 #[] w fun e w' => e = .returned (.bool true) ∧ Below w.heap.size w w' := by
  go_enter Try.func9, Try.ntmps9
  go_wp2_with fail
  refine (pipeNew_any _).mono ?_
  rintro e w1 ⟨rfl, rfl⟩
  have hp1 := PipeAt.new w (base := w.heap.size) (X := fun _ => False)
  have hl1 : Below w.heap.size w (w.alloc (.cells #[.slice none 0 0, .bool false] 48)) := (Below.refl _ _).alloc (Nat.le_refl _) _
  have hs1 : (w.alloc (.cells #[.slice none 0 0, .bool false] 48)).heap.size = w.heap.size + 1 := by simp
  go_wp2_with fail
  generalize w.alloc (.cells #[.slice none 0 0, .bool false] 48) = w1 at *
  rw [← hs1]
  refine (pipeSend_any w.heap.size w.heap.size (fun _ => False) none 0 [] false _ (hp1.below ((Below.refl _ _).alloc (Nat.le_refl _) _)) (some ⟨w1.heap.size, 0, none⟩) 3 [1, 2, 3] (fun _ => True) ?_ (fun _ h => h.elim) ?_ (by simp) (by simp)).mono ?_
  · have e : ([1, 2, 3] : List UInt8).map bv = [.int .u8 1, .int .u8 2, .int .u8 3] := by kernel_rfl
    unfold By
    rw [e]
    exact (Rd.lit rfl rfl (by simp)).mono (fun _ _ _ => trivial)
  · simp; omega
  rintro e w2 ⟨rfl, h2⟩
  rw [show (!false && decide (0 < ([1, 2, 3] : List UInt8).length)) = true from rfl]
  rw [if_pos ⟨rfl, by simp⟩, List.map_nil, List.nil_append] at h2
  have hw2 := (hl1.alloc (by omega) _).trans (h2.low (hp1.below ((Below.refl _ _).alloc (Nat.le_refl _) _)) (Nat.le_refl _) (Nat.le_refl _) (by simp; omega))
  obtain ⟨A2, c2, ls2, hp2, hS2, hn2, _⟩ := h2.len
  have hs2 := hw2.size
  have hs12 := h2.fr.size
  simp at hn2 hs12
  go_wp2_with fail
  refine (pipeSend_any w.heap.size w.heap.size (fun _ => False) A2 c2 ls2 false _ (hp2.below ((Below.refl _ _).alloc (Nat.le_refl _) _)) (some ⟨w2.heap.size, 0, none⟩) 2 [4, 5] (fun _ => True) ?_ (fun _ h => h.elim) ?_ (by omega) (by simp)).mono ?_
  · have e : ([4, 5] : List UInt8).map bv = [.int .u8 4, .int .u8 5] := by kernel_rfl
    unfold By
    rw [e]
    exact (Rd.lit rfl rfl (by simp)).mono (fun _ _ _ => trivial)
  · simp; omega
  rintro e w3 ⟨rfl, h3⟩
  rw [show (!false && decide (0 < ([4, 5] : List UInt8).length)) = true from rfl]
  rw [if_pos ⟨rfl, by simp⟩, hS2.out] at h3
  have hw3 := (hw2.alloc (by omega) _).trans (h3.low (hp2.below ((Below.refl _ _).alloc (Nat.le_refl _) _)) (Nat.le_refl _) (Nat.le_refl _) (by simp; omega))
  obtain ⟨A3, c3, ls3, hp3, hS3, hn3, _⟩ := h3.len
  have hs3 := hw3.size
  simp at hn3
  go_wp2_with fail
  refine (pipeDrop_any w.heap.size w.heap.size (fun _ => False) A3 c3 ls3 false w3 hp3 1 (by omega) (by omega)).mono ?_
  rw [hS3.out, show dropI ([([1, 2, 3], false, false)] ++ [([4, 5], false, false)]) 1 = ([([1, 2, 3], false, false)], true) by decide]
  rintro e w4 ⟨rfl, h4⟩
  have hw4 := hw3.trans (h4.low hp3 (Nat.le_refl _) (Nat.le_refl _) hs3)
  obtain ⟨A4, c4, ls4, hp4, hS4, hn4, _⟩ := h4.len
  have hs4 := hw4.size
  go_wp2_with fail
  refine (pipeTake_any w.heap.size w.heap.size (fun _ => False) A4 c4 ls4 false w4 hp4 9 (by omega) ?_ (by omega)).mono ?_
  · rw [hS4.out]; decide
  rw [hS4.out, show dropS [([1, 2, 3], false, false)] (9 : Int).toNat = [] by decide, show (flatP [([1, 2, 3], false, false)]).take (9 : Int).toNat = [1, 2, 3] by decide]
  rintro e w5 ⟨A5, c5, l5, rfl, hl5, ho5, h5⟩
  obtain rfl : l5 = [1, 2, 3] := hl5.out
  have hw5 := hw4.trans (h5.low hp4 (Nat.le_refl _) (Nat.le_refl _) hs4)
  obtain ⟨A6, c6, ls6, hp6, hS6, hn6, _⟩ := h5.len
  have k : (convert 23 9 (.slice A5 3 c5)).run Try.prog w5 = .ok (.string ⟨#[1, 2, 3]⟩) w5 := conv_by ho5.rd c5
  go_wp2_with fail
  refine (pipeCount_any w.heap.size w.heap.size (fun _ => False) A6 c6 ls6 false w5 hp6).mono ?_
  rintro e w6 ⟨rfl, rfl⟩
  rw [hn6]
  go_wp2_with fail
  refine (pipeClosed_any w.heap.size w.heap.size (fun _ => False) A6 c6 ls6 false w5 hp6).mono ?_
  rintro e w6 ⟨rfl, rfl⟩
  go_wp2_with fail
  go_ret
  exact ⟨rfl, hw5⟩
end Go.Proofs.Ytpbgcbpofhbgbaa
