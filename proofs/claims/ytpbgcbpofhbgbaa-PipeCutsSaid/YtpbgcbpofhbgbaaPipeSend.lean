/- pipe.Send, at, Drop. -/
import Derived.Test.YtpbgcbpofhbgbaaPipeMem
import Derived.Test.YtpbgcbpofhbgbaaClone
namespace Go.Proofs.Ytpbgcbpofhbgbaa
open Go.RowKit

set_option maxHeartbeats 400000 in
theorem pipeSend_any (base pb : Nat) (X : Nat → Prop) (A : Option Addr) (c : Nat) (ls : List PV) (cl : Bool) (w : World) (h : PipeAt w base pb X A c ls cl) (B : Option Addr) (d : Nat) (l : List UInt8) (Z : Nat → Prop) (hy : By w Z B l)
    (hX : ∀ b, X b → b < w.heap.size) (hbase : base ≤ w.heap.size) (hn : ls.length ≤ 1099511627776) (hl : l.length ≤ 140737488355328) :
    Calls Try.prog 11 #[.pointer (some ⟨pb, 0, none⟩), .slice B l.length d] w fun e w' => e = .returned (.bool (!cl && decide (0 < l.length))) ∧ PipeTo w base pb X A (if cl = false ∧ 0 < l.length then ls.map PV.s ++ [(l, false, false)] else ls.map PV.s) cl w' := by
  have c0 := h.c0
  have f0 := h.f0
  by_cases hc : cl = false
  · by_cases h0 : 0 < l.length
    · rw [if_pos ⟨hc, h0⟩]
      subst hc
      have e1 := Lib.hid (show (!false && decide (0 < l.length)) = true by simp [h0])
      go_enter Try.func11, Try.ntmps11
      go_wp2_with fail
      refine (pipeClosed_any base pb X A c ls false w h).mono ?_
      rintro e w1 ⟨rfl, rfl⟩
      go_wp2_with fail
      obtain ⟨i0, hi0, hz0, hz1, hz2⟩ := info_parts par_info
      have Hn := Lib.hid hn
      go_region_law
        (first
        | (go_simp; go_at_call 38; refine (clone_any B d l Z _ hy.drew hl).mono ?_; rintro e w1 ⟨A1, c1, l1, rfl, hl1, ho1, hb1⟩; have hp1 := (h.below (Below.refl _ _).drew).below hb1; have c01 := hp1.c0; have f01 := hp1.f0; have c01a : (w1.alloc (.cells #[.slice A1 l1.length c1, .bool false, .bool false] 75)).cell? ⟨pb, 0, none⟩ = some (.slice A ls.length c) := (hp1.blk.alloc _).cell 0; go_wp2_with fail)
        | (refine step_append_row _ rfl (.tmp 16) (.tmp 20) 46 rfl base 75 i0 _ 3 32 Try.underlying46 hi0 hz0 hz1 hz2 rfl (by omega) rfl (hp1.row.alloc _) rfl (Rd.lit (xs := [.slice A1 l1.length c1, .bool false, .bool false]) (n := 1) rfl rfl (by simp)) (by simp [Value.oneCell']) (by simp only [maxLen]; omega) (by omega) (by simp; have := hb1.size; simp at this; omega) ?_; intro A2 c2 w2 hrow2 hg2 hat2; have hb2 := (hp1.blk.alloc _).grown hg2 hp1.ne; have c02 : w2.cell? ⟨pb, 0, none⟩ = some (.slice A ls.length c) := hb2.cell 0; have f02 := hb2.frozen 0))
      all_goals
        have hk1 : Below w.heap.size w w1 := ((Below.refl _ _).drew).trans hb1
        have hrow : Pars w2 base A2 c2 (ls ++ [⟨⟨A1, c1, l1⟩, false, false⟩]) := by
          unfold Pars
          rw [List.length_append, List.flatMap_append]
          exact hrow2
        have hpt := PipeTo.stored (ls2 := ls ++ [⟨⟨A1, c1, l1⟩, false, false⟩]) h (hk1.alloc hk1.size _) hrow hg2 hat2 ?_ ?_
        · rw [List.length_append, List.map_append] at hpt
          go_wp2_with fail
          go_ret
          refine ⟨by rw [e1.out]; rfl, ?_⟩
          have : PV.s ⟨⟨A1, c1, l1⟩, false, false⟩ = (l, false, false) := by unfold PV.s; rw [hl1.out]
          rw [List.map_cons, List.map_nil, this] at hpt
          exact hpt
        · intro p hp
          rcases List.mem_append.1 hp with hp | hp
          · exact ((h.ok p hp).below hk1).below ((Below.refl _ _).alloc (Nat.le_refl _) _)
          · obtain rfl := List.mem_singleton.1 hp
            obtain ⟨A1', c1', e2, q1, q2, q3⟩ := ho1.form
            obtain ⟨rfl, rfl⟩ : A1 = A1' ∧ c1 = c1' := by simpa using e2
            have hpb := h.blk.lt
            refine BV.ok.below (w := w1) ⟨ho1.rd.mono (fun b _ hb => ?_), q1, q2⟩ ((Below.refl _ _).alloc (Nat.le_refl _) _)
            have q4 : w.heap.size ≤ b := (q3 b hb).1
            exact ⟨by omega, fun e => by have := (h.row.lt b e).2; omega, fun e => by have := hX b e; omega⟩
        · intro p hp
          rcases List.mem_append.1 hp with hp | hp
          · exact h.full p hp
          · obtain rfl := List.mem_singleton.1 hp
            show 0 < l1.length
            rw [hl1.out]; exact h0
    · rw [if_neg (fun hh => h0 hh.2)]
      have hl0 : l.length = 0 := by omega
      have e1 := Lib.hid (show (!cl && decide (0 < l.length)) = false by simp [h0])
      have hl1 : ((l.length : Int) == 0) = true := by rw [beq_iff_eq]; omega
      subst hc
      clear h0 hl0
      go_enter Try.func11, Try.ntmps11
      go_wp2_with fail
      refine (pipeClosed_any base pb X A c ls false w h).mono ?_
      rintro e w1 ⟨rfl, rfl⟩
      go_wp2_with fail
      go_ret
      exact ⟨by rw [e1.out]; rfl, h.to⟩
  · rw [if_neg (fun hh => hc hh.1)]
    obtain rfl : cl = true := by cases cl <;> simp at hc ⊢
    have e1 := Lib.hid (show (!true && decide (0 < l.length)) = false by simp)
    go_enter Try.func11, Try.ntmps11
    go_wp2_with fail
    refine (pipeClosed_any base pb X A c ls true w h).mono ?_
    rintro e w1 ⟨rfl, rfl⟩
    go_wp2_with fail
    go_ret
    exact ⟨by rw [e1.out]; rfl, h.to⟩
end Go.Proofs.Ytpbgcbpofhbgbaa
