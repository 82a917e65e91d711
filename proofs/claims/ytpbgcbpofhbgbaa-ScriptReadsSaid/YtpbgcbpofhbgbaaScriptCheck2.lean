/- script.Check, whole. -/
import Derived.Test.YtpbgcbpofhbgbaaScriptCheck
namespace Go.Proofs.Ytpbgcbpofhbgbaa
open Go.RowKit

set_option maxRecDepth 100000 in
set_option maxHeartbeats 4000000 in
theorem check_any (a : AV) (Z : Nat → Prop) (w : World) (h : a.ok w Z) :
    Calls Try.prog 27 #[a.val] w fun e w' => e = .returned (.int .i64 (if rightA a.a then 0 else 2)) ∧ Below w.heap.size w w' := by
  obtain ⟨M, hM⟩ : ∃ M, M = if rightA a.a then (0 : Int) else 2 := ⟨_, rfl⟩
  rw [← hM]
  have HM := Lib.hid hM
  clear hM
  unfold AV.val
  obtain ⟨A, hA⟩ : ∃ A, A = a.cells.toArray := ⟨_, rfl⟩
  have x0 : A[0]? = some (.int .i64 a.a.k) := by rw [hA]; rfl
  have x1 : A[1]? = some (.int .i64 a.a.s) := by rw [hA]; rfl
  have x2 : A[2]? = some (.int .i64 a.a.n) := by rw [hA]; rfl
  have x3 : A[3]? = some (.int .i64 a.a.b) := by rw [hA]; rfl
  have x4 : A[4]? = some (.int .u32 a.a.m) := by rw [hA]; rfl
  have x5 : A[5]? = some (.int .i64 a.a.ek) := by rw [hA]; rfl
  have x6 : A[6]? = some (.string a.a.p) := by rw [hA]; rfl
  have x7 : A[7]? = some (.string a.a.t) := by rw [hA]; rfl
  have x8 : A[8]? = some (.slice a.xA a.a.x.length a.xc) := by rw [hA]; rfl
  have x9 : A[9]? = some (.slice a.kA a.a.kl.length a.kc) := by rw [hA]; rfl
  have x10 : A[10]? = some (.slice a.cA a.a.cl.length a.cc) := by rw [hA]; rfl
  rw [show Value.agg #[.int .i64 a.a.k, .int .i64 a.a.s, .int .i64 a.a.n, .int .i64 a.a.b, .int .u32 a.a.m, .int .i64 a.a.ek, .string a.a.p, .string a.a.t, .slice a.xA a.a.x.length a.xc, .slice a.kA a.a.kl.length a.kc, .slice a.cA a.a.cl.length a.cc] = .agg A by rw [hA]; rfl]
  clear hA
  have hbw : Below w.heap.size w (w.alloc (.cells A 57)) := (by repeat (first | exact Below.refl _ _ | refine Below.alloc ?_ (by simp) _ | refine Below.setCell ?_ (by simp) _ | refine Below.drew ?_))
  have h1 := h.below hbw
  have bA := Blk.new w 57 A
  have bl := bA.lt
  have H1 := Lib.hid (fun w => within_any a.a.k 1 12 w)
  have H2 := Lib.hid (fun w => within_any a.a.s 0 2 w)
  have H3 := Lib.hid (fun w => within_any a.a.n (-1) 1048576 w)
  have H4 := Lib.hid (fun w => within_any a.a.b (-1) 1048576 w)
  have HE := Lib.hid (fun W => edit_any a.a a.xA a.xc W)
  have HK := Lib.hid (fun W (hW : Below (w.alloc (.cells A 57)).heap.size (w.alloc (.cells A 57)) W) => containsKV_any a.kA a.kc a.a.kl _ W (h1.k.below hW) h.fit.kl)
  have HC := Lib.hid (fun W (hW : Below (w.alloc (.cells A 57)).heap.size (w.alloc (.cells A 57)) W) => containsHW_any a.cA a.cc a.a.cl _ W (h1.c.below hW) h.fit.cl)
  clear h h1
  unfold rightA at HM
  generalize a.a.kl.all goodK = K7 at *
  generalize a.a.cl.all goodC = K8 at *
  generalize editB a.a = K6 at *
  generalize inB a.a.k 1 12 = K0 at *
  generalize inB a.a.s 0 2 = K1 at *
  generalize inB a.a.n (-1) 1048576 = K2 at *
  generalize inB a.a.b (-1) 1048576 = K3 at *
  cases K0
  · obtain rfl : M = 2 := by rw [HM.out]; rfl
    go_enter Try.func27, Try.ntmps27
    go_wp2_with (first | (go_at_call 54; first | (with_reducible refine (H1.out _).mono ?_; rintro e w2 ⟨rfl, rfl⟩) | (with_reducible refine (H2.out _).mono ?_; rintro e w2 ⟨rfl, rfl⟩) | (with_reducible refine (H3.out _).mono ?_; rintro e w2 ⟨rfl, rfl⟩) | (with_reducible refine (H4.out _).mono ?_; rintro e w2 ⟨rfl, rfl⟩)))
    go_ret
    exact ⟨rfl, (by repeat (first | exact Below.refl _ _ | refine Below.alloc ?_ (by simp) _ | refine Below.setCell ?_ (by simp) _ | refine Below.drew ?_))⟩
  · skip
    cases K1
    · obtain rfl : M = 2 := by rw [HM.out]; rfl
      go_enter Try.func27, Try.ntmps27
      go_wp2_with (first | (go_at_call 54; first | (with_reducible refine (H1.out _).mono ?_; rintro e w2 ⟨rfl, rfl⟩) | (with_reducible refine (H2.out _).mono ?_; rintro e w2 ⟨rfl, rfl⟩) | (with_reducible refine (H3.out _).mono ?_; rintro e w2 ⟨rfl, rfl⟩) | (with_reducible refine (H4.out _).mono ?_; rintro e w2 ⟨rfl, rfl⟩)))
      go_ret
      exact ⟨rfl, (by repeat (first | exact Below.refl _ _ | refine Below.alloc ?_ (by simp) _ | refine Below.setCell ?_ (by simp) _ | refine Below.drew ?_))⟩
    · skip
      cases K2
      · obtain rfl : M = 2 := by rw [HM.out]; rfl
        go_enter Try.func27, Try.ntmps27
        go_wp2_with (first | (go_at_call 54; first | (with_reducible refine (H1.out _).mono ?_; rintro e w2 ⟨rfl, rfl⟩) | (with_reducible refine (H2.out _).mono ?_; rintro e w2 ⟨rfl, rfl⟩) | (with_reducible refine (H3.out _).mono ?_; rintro e w2 ⟨rfl, rfl⟩) | (with_reducible refine (H4.out _).mono ?_; rintro e w2 ⟨rfl, rfl⟩)))
        go_ret
        exact ⟨rfl, (by repeat (first | exact Below.refl _ _ | refine Below.alloc ?_ (by simp) _ | refine Below.setCell ?_ (by simp) _ | refine Below.drew ?_))⟩
      · skip
        cases K3
        · obtain rfl : M = 2 := by rw [HM.out]; rfl
          go_enter Try.func27, Try.ntmps27
          go_wp2_with (first | (go_at_call 54; first | (with_reducible refine (H1.out _).mono ?_; rintro e w2 ⟨rfl, rfl⟩) | (with_reducible refine (H2.out _).mono ?_; rintro e w2 ⟨rfl, rfl⟩) | (with_reducible refine (H3.out _).mono ?_; rintro e w2 ⟨rfl, rfl⟩) | (with_reducible refine (H4.out _).mono ?_; rintro e w2 ⟨rfl, rfl⟩)))
          go_ret
          exact ⟨rfl, (by repeat (first | exact Below.refl _ _ | refine Below.alloc ?_ (by simp) _ | refine Below.setCell ?_ (by simp) _ | refine Below.drew ?_))⟩
        · skip
          cases c4 : decide (a.a.kl.length ≤ 8)
          · have q4 : decide ((a.a.kl.length : Int) > 8) = true := by simp at c4 ⊢; omega
            obtain rfl : M = 2 := by rw [HM.out, c4]; rfl
            go_enter Try.func27, Try.ntmps27
            go_wp2_with (first | (go_at_call 54; first | (with_reducible refine (H1.out _).mono ?_; rintro e w2 ⟨rfl, rfl⟩) | (with_reducible refine (H2.out _).mono ?_; rintro e w2 ⟨rfl, rfl⟩) | (with_reducible refine (H3.out _).mono ?_; rintro e w2 ⟨rfl, rfl⟩) | (with_reducible refine (H4.out _).mono ?_; rintro e w2 ⟨rfl, rfl⟩)))
            go_ret
            exact ⟨rfl, (by repeat (first | exact Below.refl _ _ | refine Below.alloc ?_ (by simp) _ | refine Below.setCell ?_ (by simp) _ | refine Below.drew ?_))⟩
          · have q4 : decide ((a.a.kl.length : Int) > 8) = false := by simp at c4 ⊢; omega
            cases c5 : decide (a.a.cl.length ≤ 8)
            · have q5 : decide ((a.a.cl.length : Int) > 8) = true := by simp at c5 ⊢; omega
              obtain rfl : M = 2 := by rw [HM.out, c4, c5]; rfl
              go_enter Try.func27, Try.ntmps27
              go_wp2_with (first | (go_at_call 54; first | (with_reducible refine (H1.out _).mono ?_; rintro e w2 ⟨rfl, rfl⟩) | (with_reducible refine (H2.out _).mono ?_; rintro e w2 ⟨rfl, rfl⟩) | (with_reducible refine (H3.out _).mono ?_; rintro e w2 ⟨rfl, rfl⟩) | (with_reducible refine (H4.out _).mono ?_; rintro e w2 ⟨rfl, rfl⟩)))
              go_ret
              exact ⟨rfl, (by repeat (first | exact Below.refl _ _ | refine Below.alloc ?_ (by simp) _ | refine Below.setCell ?_ (by simp) _ | refine Below.drew ?_))⟩
            · have q5 : decide ((a.a.cl.length : Int) > 8) = false := by simp at c5 ⊢; omega
              cases K6
              · obtain rfl : M = 2 := by rw [HM.out, c4, c5]; rfl
                go_enter Try.func27, Try.ntmps27
                go_wp2_with (first | (go_at_call 54; first | (with_reducible refine (H1.out _).mono ?_; rintro e w2 ⟨rfl, rfl⟩) | (with_reducible refine (H2.out _).mono ?_; rintro e w2 ⟨rfl, rfl⟩) | (with_reducible refine (H3.out _).mono ?_; rintro e w2 ⟨rfl, rfl⟩) | (with_reducible refine (H4.out _).mono ?_; rintro e w2 ⟨rfl, rfl⟩)) | (go_at_call 56; refine (HE.out _).mono ?_; rintro e w3 ⟨rfl, hb3⟩; have q9 := (bA.below hb3).cell 9; rw [x9] at q9; have q10 := (bA.below hb3).cell 10; rw [x10] at q10) | (go_at_call 57; refine (HK.out _ hb3).mono ?_; rintro e w4 ⟨rfl, hb4⟩; have hb5 := hb3.trans (hb4.mono hb3.size); have r10 := (bA.below hb5).cell 10; rw [x10] at r10) | (go_at_call 58; refine (HC.out _ hb5).mono ?_; rintro e w6 ⟨rfl, hb6⟩; have hb7 := hb5.trans (hb6.mono hb5.size)))
                go_ret
                exact ⟨rfl, hbw.trans (hb3.mono hbw.size)⟩
              · skip
                cases K7
                · obtain rfl : M = 2 := by rw [HM.out, c4, c5]; rfl
                  go_enter Try.func27, Try.ntmps27
                  go_wp2_with (first | (go_at_call 54; first | (with_reducible refine (H1.out _).mono ?_; rintro e w2 ⟨rfl, rfl⟩) | (with_reducible refine (H2.out _).mono ?_; rintro e w2 ⟨rfl, rfl⟩) | (with_reducible refine (H3.out _).mono ?_; rintro e w2 ⟨rfl, rfl⟩) | (with_reducible refine (H4.out _).mono ?_; rintro e w2 ⟨rfl, rfl⟩)) | (go_at_call 56; refine (HE.out _).mono ?_; rintro e w3 ⟨rfl, hb3⟩; have q9 := (bA.below hb3).cell 9; rw [x9] at q9; have q10 := (bA.below hb3).cell 10; rw [x10] at q10) | (go_at_call 57; refine (HK.out _ hb3).mono ?_; rintro e w4 ⟨rfl, hb4⟩; have hb5 := hb3.trans (hb4.mono hb3.size); have r10 := (bA.below hb5).cell 10; rw [x10] at r10) | (go_at_call 58; refine (HC.out _ hb5).mono ?_; rintro e w6 ⟨rfl, hb6⟩; have hb7 := hb5.trans (hb6.mono hb5.size)))
                  go_ret
                  exact ⟨rfl, hbw.trans (hb5.mono hbw.size)⟩
                · skip
                  cases K8
                  · obtain rfl : M = 2 := by rw [HM.out, c4, c5]; rfl
                    go_enter Try.func27, Try.ntmps27
                    go_wp2_with (first | (go_at_call 54; first | (with_reducible refine (H1.out _).mono ?_; rintro e w2 ⟨rfl, rfl⟩) | (with_reducible refine (H2.out _).mono ?_; rintro e w2 ⟨rfl, rfl⟩) | (with_reducible refine (H3.out _).mono ?_; rintro e w2 ⟨rfl, rfl⟩) | (with_reducible refine (H4.out _).mono ?_; rintro e w2 ⟨rfl, rfl⟩)) | (go_at_call 56; refine (HE.out _).mono ?_; rintro e w3 ⟨rfl, hb3⟩; have q9 := (bA.below hb3).cell 9; rw [x9] at q9; have q10 := (bA.below hb3).cell 10; rw [x10] at q10) | (go_at_call 57; refine (HK.out _ hb3).mono ?_; rintro e w4 ⟨rfl, hb4⟩; have hb5 := hb3.trans (hb4.mono hb3.size); have r10 := (bA.below hb5).cell 10; rw [x10] at r10) | (go_at_call 58; refine (HC.out _ hb5).mono ?_; rintro e w6 ⟨rfl, hb6⟩; have hb7 := hb5.trans (hb6.mono hb5.size)))
                    go_ret
                    exact ⟨rfl, hbw.trans (hb7.mono hbw.size)⟩
                  · skip
                    obtain rfl : M = 0 := by rw [HM.out, c4, c5]; rfl
                    go_enter Try.func27, Try.ntmps27
                    go_wp2_with (first | (go_at_call 54; first | (with_reducible refine (H1.out _).mono ?_; rintro e w2 ⟨rfl, rfl⟩) | (with_reducible refine (H2.out _).mono ?_; rintro e w2 ⟨rfl, rfl⟩) | (with_reducible refine (H3.out _).mono ?_; rintro e w2 ⟨rfl, rfl⟩) | (with_reducible refine (H4.out _).mono ?_; rintro e w2 ⟨rfl, rfl⟩)) | (go_at_call 56; refine (HE.out _).mono ?_; rintro e w3 ⟨rfl, hb3⟩; have q9 := (bA.below hb3).cell 9; rw [x9] at q9; have q10 := (bA.below hb3).cell 10; rw [x10] at q10) | (go_at_call 57; refine (HK.out _ hb3).mono ?_; rintro e w4 ⟨rfl, hb4⟩; have hb5 := hb3.trans (hb4.mono hb3.size); have r10 := (bA.below hb5).cell 10; rw [x10] at r10) | (go_at_call 58; refine (HC.out _ hb5).mono ?_; rintro e w6 ⟨rfl, hb6⟩; have hb7 := hb5.trans (hb6.mono hb5.size)))
                    go_ret
                    exact ⟨rfl, hbw.trans (hb7.mono hbw.size)⟩
end Go.Proofs.Ytpbgcbpofhbgbaa
