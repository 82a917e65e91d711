/- ScriptWrites is true for every input: whether any acts are right, and their bytes, are the document's; right ones are read of them as they were. No condition beyond the row's own. -/
import Derived.Test.YtpbgcbpofhbgbaaA11
import Derived.ChangeMaps5

namespace Go.Proofs.Ytpbgcbpofhbgbaa
open Go.RowKit Go.WideShapes Go.ChangeShapes Go.ChangeAt

theorem writeS_len (s : List AS) : (writeS s).1.length ≤ 400000000 := by
  unfold writeS
  split
  · simp
  · rename_i hn
    split
    · rename_i hr
      have h1 := flat_le (f := actB) (K := 6000) s (fun a ha => actB_len (List.all_eq_true.1 hr a ha))
      have h2 := numB_len s.length
      have h3 : s.length * 6000 ≤ 65536 * 6000 := Nat.mul_le_mul_right _ (by omega)
      simp only [List.length_append]
      omega
    · simp


set_option maxRecDepth 100000 in
set_option maxHeartbeats 4000000 in
theorem scriptWrites_any (A : Option Addr) (c : Nat) (l : List AV) (a : AV) (w : World) (h : Acts w (fun b => b < w.heap.size) A l) (hcap : ∀ v ∈ l, v.a.x.length ≤ v.xc ∧ v.xc ≤ maxLen) (ha : a.ok w (fun b => b < w.heap.size)) :
    Calls Try.prog 8 #[.slice A l.length c, a.val] w fun e w' => e = .returned (.bool true) ∧ Below w.heap.size w w' := by
  have hll := h.len
  go_enter Try.func8, Try.ntmps8
  go_wp2_with fail
  have hb0 : Below w.heap.size w (w.alloc (.cells #[.int .i64 a.a.k, .int .i64 a.a.s, .int .i64 a.a.n, .int .i64 a.a.b, .int .u32 a.a.m, .int .i64 a.a.ek, .string a.a.p, .string a.a.t, .slice a.xA a.a.x.length a.xc, .slice a.kA a.a.kl.length a.kc, .slice a.cA a.a.cl.length a.cc] 57)) := (by repeat (first | exact Below.refl _ _ | refine Below.alloc ?_ (by simp) _ | refine Below.setCell ?_ (by simp) _ | refine Below.drew ?_))
  have ba0 := Blk.new w 57 #[.int .i64 a.a.k, .int .i64 a.a.s, .int .i64 a.a.n, .int .i64 a.a.b, .int .u32 a.a.m, .int .i64 a.a.ek, .string a.a.p, .string a.a.t, .slice a.xA a.a.x.length a.xc, .slice a.kA a.a.kl.length a.kc, .slice a.cA a.a.cl.length a.cc]
  have hz0 : (w.alloc (.cells #[.int .i64 a.a.k, .int .i64 a.a.s, .int .i64 a.a.n, .int .i64 a.a.b, .int .u32 a.a.m, .int .i64 a.a.ek, .string a.a.p, .string a.a.t, .slice a.xA a.a.x.length a.xc, .slice a.kA a.a.kl.length a.kc, .slice a.cA a.a.cl.length a.cc] 57)).heap.size = w.heap.size + 1 := World.size_alloc _ _
  generalize w.alloc (.cells #[.int .i64 a.a.k, .int .i64 a.a.s, .int .i64 a.a.n, .int .i64 a.a.b, .int .u32 a.a.m, .int .i64 a.a.ek, .string a.a.p, .string a.a.t, .slice a.xA a.a.x.length a.xc, .slice a.kA a.a.kl.length a.kc, .slice a.cA a.a.cl.length a.cc] 57) = W0 at *
  refine (light41_any A c l _ W0 (h.below hb0)).mono ?_
  rintro e w1 ⟨⟨b1, rfl⟩, hb1⟩
  have hw1 := hb0.trans (hb1.mono hb0.size)
  cases b1
  · go_wp2_with fail
    refine (lives41_any _).mono ?_
    rintro e w9 ⟨rfl, hb9⟩
    go_wp2_with fail
    go_ret
    exact ⟨rfl, hw1.trans (hb9.mono hw1.size)⟩
  · have ba1 := ba0.below hb1
    have r0 : w1.cell? ⟨w.heap.size, 0, none⟩ = some (.int .i64 a.a.k) := ba1.cell 0
    have r1 : w1.cell? ⟨w.heap.size, 1, none⟩ = some (.int .i64 a.a.s) := ba1.cell 1
    have r2 : w1.cell? ⟨w.heap.size, 2, none⟩ = some (.int .i64 a.a.n) := ba1.cell 2
    have r3 : w1.cell? ⟨w.heap.size, 3, none⟩ = some (.int .i64 a.a.b) := ba1.cell 3
    have r4 : w1.cell? ⟨w.heap.size, 4, none⟩ = some (.int .u32 a.a.m) := ba1.cell 4
    have r5 : w1.cell? ⟨w.heap.size, 5, none⟩ = some (.int .i64 a.a.ek) := ba1.cell 5
    have r6 : w1.cell? ⟨w.heap.size, 6, none⟩ = some (.string a.a.p) := ba1.cell 6
    have r7 : w1.cell? ⟨w.heap.size, 7, none⟩ = some (.string a.a.t) := ba1.cell 7
    have r8 : w1.cell? ⟨w.heap.size, 8, none⟩ = some (.slice a.xA a.a.x.length a.xc) := ba1.cell 8
    have r9 : w1.cell? ⟨w.heap.size, 9, none⟩ = some (.slice a.kA a.a.kl.length a.kc) := ba1.cell 9
    have r10 : w1.cell? ⟨w.heap.size, 10, none⟩ = some (.slice a.cA a.a.cl.length a.cc) := ba1.cell 10
    have ha1 := ha.below hw1
    have hx1 := ba1.lt
    go_wp2_with fail
    clear r0 r1 r2 r3 r4 r5 r6 r7 r8 r9 r10
    have hb2 : Below w1.heap.size w1 (w1.alloc (.cells #[.int .i64 a.a.k, .int .i64 a.a.s, .int .i64 a.a.n, .int .i64 a.a.b, .int .u32 a.a.m, .int .i64 a.a.ek, .string a.a.p, .string a.a.t, .slice a.xA a.a.x.length a.xc, .slice a.kA a.a.kl.length a.kc, .slice a.cA a.a.cl.length a.cc] 57)) := (by repeat (first | exact Below.refl _ _ | refine Below.alloc ?_ (by simp) _ | refine Below.setCell ?_ (by simp) _ | refine Below.drew ?_))
    have hrd : Rd (w1.alloc (.cells #[.int .i64 a.a.k, .int .i64 a.a.s, .int .i64 a.a.n, .int .i64 a.a.b, .int .u32 a.a.m, .int .i64 a.a.ek, .string a.a.p, .string a.a.t, .slice a.xA a.a.x.length a.xc, .slice a.kA a.a.kl.length a.kc, .slice a.cA a.a.cl.length a.cc] 57)) (fun b => True) 11 (some ⟨w1.heap.size, 0, none⟩) [a].length ([a].flatMap AV.cells) := (Rd.lit (w := w1) (size := 11) (by rw [List.flatMap_cons, List.flatMap_nil, List.append_nil]; rfl) (by simp [AV.cells]) rfl).mono (fun _ _ _ => trivial)
    refine (light41_any (some ⟨w1.heap.size, 0, none⟩) 1 [a] (fun _ => True) _ ⟨hrd, fun v hv => by obtain rfl := List.mem_singleton.1 hv; exact (ha1.below hb2).mono (fun _ _ _ => trivial), by simp⟩).mono ?_
    rintro e w2 ⟨⟨b2, rfl⟩, hb3⟩
    have hb12 := hb2.trans (hb3.mono hb2.size)
    have hw2 := hw1.trans (hb12.mono hw1.size)
    have ba2 := ba1.below hb12
    clear hrd hb2 hb3 ba1 hb1 ba0
    cases b2
    · go_wp2_with fail
      refine (lives41_any _).mono ?_
      rintro e w9 ⟨rfl, hb9⟩
      go_wp2_with fail
      go_ret
      exact ⟨rfl, hw2.trans (hb9.mono hw2.size)⟩
    · go_wp2_with fail
      go_loopw [25] (fun iv wr => ∃ i : Nat, i ≤ l.length ∧ iv = .int .i64 (i : Int) ∧ Below w2.heap.size w2 wr) (fun iv _ => l.length - (intOf iv).toNat)
      case atStart => exact ⟨0, Nat.zero_le _, rfl, Below.refl _ _⟩
      case round =>
        obtain ⟨i, hi, rfl, hb⟩ := hrel
        have hwr := hw2.trans (hb.mono hw2.size)
        by_cases hlt : i < l.length
        · obtain ⟨b, off, rfl, _, hbl, p⟩ := av_at (h.below hwr).rd hlt
          have hv := (h.below hwr).ok _ (List.getElem_mem hlt)
          generalize l[i] = v at *
          have har := ha.below hwr
          have bar := ba2.below hb
          obtain ⟨p0, p1, p2, p3, p4, p5, p6, p7, p8, p9, p10⟩ := p
          go_wp2_with fail
          have hb4 : Below wr.heap.size wr (wr.alloc (.cells #[.int .i64 v.a.k, .int .i64 v.a.s, .int .i64 v.a.n, .int .i64 v.a.b, .int .u32 v.a.m, .int .i64 v.a.ek, .string v.a.p, .string v.a.t, .slice v.xA v.a.x.length v.xc, .slice v.kA v.a.kl.length v.kc, .slice v.cA v.a.cl.length v.cc] 57)) := (by repeat (first | exact Below.refl _ _ | refine Below.alloc ?_ (by simp) _ | refine Below.setCell ?_ (by simp) _ | refine Below.drew ?_))
          have bx := Blk.new wr 57 #[.int .i64 v.a.k, .int .i64 v.a.s, .int .i64 v.a.n, .int .i64 v.a.b, .int .u32 v.a.m, .int .i64 v.a.ek, .string v.a.p, .string v.a.t, .slice v.xA v.a.x.length v.xc, .slice v.kA v.a.kl.length v.kc, .slice v.cA v.a.cl.length v.cc]
          have ba := bar.below hb4
          have hv4 := hv.below hb4
          have ha4 := har.below hb4
          clear p0 p1 p2 p3 p4 p5 p6 p7 p8 p9 p10
          generalize wr.alloc (.cells #[.int .i64 v.a.k, .int .i64 v.a.s, .int .i64 v.a.n, .int .i64 v.a.b, .int .u32 v.a.m, .int .i64 v.a.ek, .string v.a.p, .string v.a.t, .slice v.xA v.a.x.length v.xc, .slice v.kA v.a.kl.length v.kc, .slice v.cA v.a.cl.length v.cc] 57) = W at *
          have HCK := Lib.hid (fun W' (hW : Below W.heap.size W W') => check_any v _ W' (hv4.below hW))
          have HRT := Lib.hid (fun W' (hW : Below W.heap.size W W') => right_any v _ W' (hv4.below hW))
          have HS1 := Lib.hid (fun W' (hW : Below W.heap.size W W') => same_any v a _ _ W' (hv4.below hW) (ha4.below hW))
          have HS2 := Lib.hid (fun W' (hW : Below W.heap.size W W') => refSame41_any v a _ _ W' (hv4.below hW) (ha4.below hW))
          have HS3 := Lib.hid (fun W' (hW : Below W.heap.size W W') => same_any v v _ _ W' (hv4.below hW) (hv4.below hW))
          rw [sameA_refl] at HS3
          clear hv4 ha4 hv har bar
          generalize sameA v.a a.a = M at *
          cases hr : rightA v.a <;> cases M
          all_goals
            rw [hr] at HCK HRT
            clear hr
            simp only [Bool.false_eq_true, if_true, if_false] at HCK
            refine wp_region_b 21 (by kernel_rfl) (by kernel_rfl) ?_
            simp only [List.take_succ_cons, List.take_zero, List.drop_succ_cons, List.drop_zero]
            refine lb_val (by kernel_rfl) ⟨_, (by (intro w' hC; (have q0 := (bx.below hC).cell 0; have q1 := (bx.below hC).cell 1; have q2 := (bx.below hC).cell 2; have q3 := (bx.below hC).cell 3; have q4 := (bx.below hC).cell 4; have q5 := (bx.below hC).cell 5; have q6 := (bx.below hC).cell 6; have q7 := (bx.below hC).cell 7; have q8 := (bx.below hC).cell 8; have q9 := (bx.below hC).cell 9; have q10 := (bx.below hC).cell 10; simp at q0 q1 q2 q3 q4 q5 q6 q7 q8 q9 q10); clear hC; (try go_simp); (try with_reducible rfl); done)), _, (by (simp only [Act.put, List.setIfInBounds_toArray, List.set_cons_zero, List.set_cons_succ]; rfl)), ?_⟩
            refine lb_call (by kernel_rfl) (fun w' hC => HCK.out _ hC) (by (intro w'; go_simp; done)) ⟨_, (by (simp only [Act.put, List.setIfInBounds_toArray, List.set_cons_zero, List.set_cons_succ]; rfl)), ?_⟩
            refine lb_val (by kernel_rfl) ⟨_, (by (intro w' hC; clear hC; (try go_simp); (try with_reducible rfl); done)), _, (by (simp only [Act.put, List.setIfInBounds_toArray, List.set_cons_zero, List.set_cons_succ]; rfl)), ?_⟩
            refine lb_val (by kernel_rfl) ⟨_, (by (intro w' hC; (have q0 := (bx.below hC).cell 0; have q1 := (bx.below hC).cell 1; have q2 := (bx.below hC).cell 2; have q3 := (bx.below hC).cell 3; have q4 := (bx.below hC).cell 4; have q5 := (bx.below hC).cell 5; have q6 := (bx.below hC).cell 6; have q7 := (bx.below hC).cell 7; have q8 := (bx.below hC).cell 8; have q9 := (bx.below hC).cell 9; have q10 := (bx.below hC).cell 10; simp at q0 q1 q2 q3 q4 q5 q6 q7 q8 q9 q10); clear hC; (try go_simp); (try with_reducible rfl); done)), _, (by (simp only [Act.put, List.setIfInBounds_toArray, List.set_cons_zero, List.set_cons_succ]; rfl)), ?_⟩
            refine lb_call (by kernel_rfl) (fun w' hC => HRT.out _ hC) (by (intro w'; go_simp; done)) ⟨_, (by (simp only [Act.put, List.setIfInBounds_toArray, List.set_cons_zero, List.set_cons_succ]; rfl)), ?_⟩
            refine lb_val (by kernel_rfl) ⟨_, (by (intro w' hC; clear hC; (try go_simp); (try with_reducible rfl); done)), _, (by (simp only [Act.put, List.setIfInBounds_toArray, List.set_cons_zero, List.set_cons_succ]; rfl)), ?_⟩
            refine lb_move _ (by kernel_rfl) rfl ⟨_, (by ((try simp [go_sem]); (try rfl); done)), _, (by (simp only [Act.put, List.setIfInBounds_toArray, List.set_cons_zero, List.set_cons_succ]; rfl)), ?_⟩
            first | (refine lb_skip (by rfl) ⟨_, (by (simp only [Act.put, List.setIfInBounds_toArray, List.set_cons_zero, List.set_cons_succ]; rfl)), ?_⟩) | (refine lb_val (by kernel_rfl) ⟨_, (by (intro w' hC; (have q0 := (bx.below hC).cell 0; have q1 := (bx.below hC).cell 1; have q2 := (bx.below hC).cell 2; have q3 := (bx.below hC).cell 3; have q4 := (bx.below hC).cell 4; have q5 := (bx.below hC).cell 5; have q6 := (bx.below hC).cell 6; have q7 := (bx.below hC).cell 7; have q8 := (bx.below hC).cell 8; have q9 := (bx.below hC).cell 9; have q10 := (bx.below hC).cell 10; simp at q0 q1 q2 q3 q4 q5 q6 q7 q8 q9 q10); clear hC; (try go_simp); (try with_reducible rfl); done)), _, (by (simp only [Act.put, List.setIfInBounds_toArray, List.set_cons_zero, List.set_cons_succ]; rfl)), ?_⟩)
            first | (refine lb_skip (by rfl) ⟨_, (by (simp only [Act.put, List.setIfInBounds_toArray, List.set_cons_zero, List.set_cons_succ]; rfl)), ?_⟩) | (refine lb_val (by kernel_rfl) ⟨_, (by (intro w' hC; (have q0 := (ba.below hC).cell 0; have q1 := (ba.below hC).cell 1; have q2 := (ba.below hC).cell 2; have q3 := (ba.below hC).cell 3; have q4 := (ba.below hC).cell 4; have q5 := (ba.below hC).cell 5; have q6 := (ba.below hC).cell 6; have q7 := (ba.below hC).cell 7; have q8 := (ba.below hC).cell 8; have q9 := (ba.below hC).cell 9; have q10 := (ba.below hC).cell 10; simp at q0 q1 q2 q3 q4 q5 q6 q7 q8 q9 q10); clear hC; (try go_simp); (try with_reducible rfl); done)), _, (by (simp only [Act.put, List.setIfInBounds_toArray, List.set_cons_zero, List.set_cons_succ]; rfl)), ?_⟩)
            first | (refine lb_skip (by rfl) ⟨_, (by (simp only [Act.put, List.setIfInBounds_toArray, List.set_cons_zero, List.set_cons_succ]; rfl)), ?_⟩) | (refine lb_call (by kernel_rfl) (fun w' hC => HS1.out _ hC) (by (intro w'; go_simp; done)) ⟨_, (by (simp only [Act.put, List.setIfInBounds_toArray, List.set_cons_zero, List.set_cons_succ]; rfl)), ?_⟩)
            first | (refine lb_skip (by rfl) ⟨_, (by (simp only [Act.put, List.setIfInBounds_toArray, List.set_cons_zero, List.set_cons_succ]; rfl)), ?_⟩) | (refine lb_val (by kernel_rfl) ⟨_, (by (intro w' hC; (have q0 := (bx.below hC).cell 0; have q1 := (bx.below hC).cell 1; have q2 := (bx.below hC).cell 2; have q3 := (bx.below hC).cell 3; have q4 := (bx.below hC).cell 4; have q5 := (bx.below hC).cell 5; have q6 := (bx.below hC).cell 6; have q7 := (bx.below hC).cell 7; have q8 := (bx.below hC).cell 8; have q9 := (bx.below hC).cell 9; have q10 := (bx.below hC).cell 10; simp at q0 q1 q2 q3 q4 q5 q6 q7 q8 q9 q10); clear hC; (try go_simp); (try with_reducible rfl); done)), _, (by (simp only [Act.put, List.setIfInBounds_toArray, List.set_cons_zero, List.set_cons_succ]; rfl)), ?_⟩)
            first | (refine lb_skip (by rfl) ⟨_, (by (simp only [Act.put, List.setIfInBounds_toArray, List.set_cons_zero, List.set_cons_succ]; rfl)), ?_⟩) | (refine lb_val (by kernel_rfl) ⟨_, (by (intro w' hC; (have q0 := (ba.below hC).cell 0; have q1 := (ba.below hC).cell 1; have q2 := (ba.below hC).cell 2; have q3 := (ba.below hC).cell 3; have q4 := (ba.below hC).cell 4; have q5 := (ba.below hC).cell 5; have q6 := (ba.below hC).cell 6; have q7 := (ba.below hC).cell 7; have q8 := (ba.below hC).cell 8; have q9 := (ba.below hC).cell 9; have q10 := (ba.below hC).cell 10; simp at q0 q1 q2 q3 q4 q5 q6 q7 q8 q9 q10); clear hC; (try go_simp); (try with_reducible rfl); done)), _, (by (simp only [Act.put, List.setIfInBounds_toArray, List.set_cons_zero, List.set_cons_succ]; rfl)), ?_⟩)
            first | (refine lb_skip (by rfl) ⟨_, (by (simp only [Act.put, List.setIfInBounds_toArray, List.set_cons_zero, List.set_cons_succ]; rfl)), ?_⟩) | (refine lb_call (by kernel_rfl) (fun w' hC => HS2.out _ hC) (by (intro w'; go_simp; done)) ⟨_, (by (simp only [Act.put, List.setIfInBounds_toArray, List.set_cons_zero, List.set_cons_succ]; rfl)), ?_⟩)
            first | (refine lb_skip (by rfl) ⟨_, (by (simp only [Act.put, List.setIfInBounds_toArray, List.set_cons_zero, List.set_cons_succ]; rfl)), ?_⟩) | (refine lb_val (by kernel_rfl) ⟨_, (by (intro w' hC; clear hC; (try go_simp); (try with_reducible rfl); done)), _, (by (simp only [Act.put, List.setIfInBounds_toArray, List.set_cons_zero, List.set_cons_succ]; rfl)), ?_⟩)
            refine lb_val (by kernel_rfl) ⟨_, (by (intro w' hC; clear hC; (try go_simp); (try with_reducible rfl); done)), _, (by (simp only [Act.put, List.setIfInBounds_toArray, List.set_cons_zero, List.set_cons_succ]; rfl)), ?_⟩
            refine lb_move _ (by kernel_rfl) rfl ⟨_, (by ((try simp [go_sem]); (try rfl); done)), _, (by (simp only [Act.put, List.setIfInBounds_toArray, List.set_cons_zero, List.set_cons_succ]; rfl)), ?_⟩
            first | (refine lb_skip (by rfl) ⟨_, (by (simp only [Act.put, List.setIfInBounds_toArray, List.set_cons_zero, List.set_cons_succ]; rfl)), ?_⟩) | (refine lb_val (by kernel_rfl) ⟨_, (by (intro w' hC; (have q0 := (bx.below hC).cell 0; have q1 := (bx.below hC).cell 1; have q2 := (bx.below hC).cell 2; have q3 := (bx.below hC).cell 3; have q4 := (bx.below hC).cell 4; have q5 := (bx.below hC).cell 5; have q6 := (bx.below hC).cell 6; have q7 := (bx.below hC).cell 7; have q8 := (bx.below hC).cell 8; have q9 := (bx.below hC).cell 9; have q10 := (bx.below hC).cell 10; simp at q0 q1 q2 q3 q4 q5 q6 q7 q8 q9 q10); clear hC; (try go_simp); (try with_reducible rfl); done)), _, (by (simp only [Act.put, List.setIfInBounds_toArray, List.set_cons_zero, List.set_cons_succ]; rfl)), ?_⟩)
            first | (refine lb_skip (by rfl) ⟨_, (by (simp only [Act.put, List.setIfInBounds_toArray, List.set_cons_zero, List.set_cons_succ]; rfl)), ?_⟩) | (refine lb_val (by kernel_rfl) ⟨_, (by (intro w' hC; (have q0 := (bx.below hC).cell 0; have q1 := (bx.below hC).cell 1; have q2 := (bx.below hC).cell 2; have q3 := (bx.below hC).cell 3; have q4 := (bx.below hC).cell 4; have q5 := (bx.below hC).cell 5; have q6 := (bx.below hC).cell 6; have q7 := (bx.below hC).cell 7; have q8 := (bx.below hC).cell 8; have q9 := (bx.below hC).cell 9; have q10 := (bx.below hC).cell 10; simp at q0 q1 q2 q3 q4 q5 q6 q7 q8 q9 q10); clear hC; (try go_simp); (try with_reducible rfl); done)), _, (by (simp only [Act.put, List.setIfInBounds_toArray, List.set_cons_zero, List.set_cons_succ]; rfl)), ?_⟩)
            first | (refine lb_skip (by rfl) ⟨_, (by (simp only [Act.put, List.setIfInBounds_toArray, List.set_cons_zero, List.set_cons_succ]; rfl)), ?_⟩) | (refine lb_call (by kernel_rfl) (fun w' hC => HS3.out _ hC) (by (intro w'; go_simp; done)) ⟨_, (by (simp only [Act.put, List.setIfInBounds_toArray, List.set_cons_zero, List.set_cons_succ]; rfl)), ?_⟩)
            first | (refine lb_skip (by rfl) ⟨_, (by (simp only [Act.put, List.setIfInBounds_toArray, List.set_cons_zero, List.set_cons_succ]; rfl)), ?_⟩) | (refine lb_val (by kernel_rfl) ⟨_, (by (intro w' hC; clear hC; (try go_simp); (try with_reducible rfl); done)), _, (by (simp only [Act.put, List.setIfInBounds_toArray, List.set_cons_zero, List.set_cons_succ]; rfl)), ?_⟩)
            refine lb_val (by kernel_rfl) ⟨_, (by (intro w' hC; clear hC; (try go_simp); (try with_reducible rfl); done)), _, (by (simp only [Act.put, List.setIfInBounds_toArray, List.set_cons_zero, List.set_cons_succ]; rfl)), ?_⟩
            refine .nil ?_
            intro w9 hb9
            clear HCK HRT HS1 HS2 HS3 bx ba
            go_wp2_with fail
            go_roundw
            case rel => exact ⟨i + 1, hlt, by go_num, hb.trans ((hb4.trans (hb9.mono hb4.size)).mono hb.size)⟩
            case measure => simp [intOf]; omega
        · have e : i = l.length := by omega
          subst e
          clear ba2 ha1 hlt
          have H := Lib.hid h
          have hwrs := hwr.size
          have HN := Lib.hid (writeS_len (l.map AV.a))
          have HF := Lib.hid (fun b hb => RdP.forth (s := l.map AV.a) (l := b) hb (fun x hx => by
            obtain ⟨v, hv, rfl⟩ := List.mem_map.1 hx
            exact (H.out.ok v hv).fit.m))
          go_wp2_with fail
          refine (write_any A c l wr ⟨(H.out.below hwr).rd.mono (fun b hb _ => hb), fun v hv => ((H.out.below hwr).ok v hv).mono (fun b hb _ => hb), H.out.len⟩ hcap).mono ?_
          rintro e w3 ⟨B, d, b, rfl, hbe, hby, hbd, hdm, hb3⟩
          have hw3 := hwr.trans (hb3.mono hwrs)
          clear h hb hwr hcap
          go_wp2_with fail
          refine (refWrite41_any A c l _ w3 (H.out.below hw3)).mono ?_
          rintro e w4 ⟨B2, d2, b', rfl, hbe2, hown2, hb4⟩
          have hw4 := hw3.trans (hb4.mono hw3.size)
          obtain rfl : b = b' := hbe.out.trans hbe2.out.symm
          have hby4 := hby.below hb4
          generalize hG : writeS (l.map AV.a) = G at *
          obtain ⟨G1, g⟩ := G
          have HG := Lib.hid hG
          clear hG
          dsimp only at *
          obtain rfl : b = G1 := hbe.out
          have gg : (g != g) = false := by simp
          clear hbe hbe2 hby
          go_wp2_with fail
          refine (refSame_any B B2 d d2 b b _ _ w4 hby4 hown2.rd).mono ?_
          rw [show (b == b) = true by simp]
          rintro e w5 ⟨rfl, rfl⟩
          cases hg : (g != 0)
          · obtain rfl : g = 0 := by simpa using hg
            have HR := Lib.hid (HF.out b rfl)
            clear hg HF HG gg
            go_wp2_with fail
            refine (readP_any ⟨B, d, b⟩ w4 ⟨hby4.mono (fun _ h _ => h), hbd, hdm⟩ (by have := HN.out; dsimp only at this ⊢; omega)).mono ?_
            rintro e w6 ⟨C, k, s, f, rfl, hs, hsa, hb6, _⟩
            dsimp only at hs
            obtain ⟨hsm, rfl⟩ := hs.one HR.out
            have HSM := Lib.hid hsm
            clear hsm hs HR
            have hw6 := hw4.trans (hb6.mono hw4.size)
            go_wp2_with fail
            refine (same41_any C A k c s l _ _ w6 hsa (H.out.below hw6) HSM).mono ?_
            rintro e w7 ⟨rfl, hb7⟩
            have hw7 := hw6.trans (hb7.mono hw6.size)
            clear hsa HSM
            go_wp2_with fail
            refine (lives41_any _).mono ?_
            rintro e w9 ⟨rfl, hb9⟩
            go_wp2_with fail
            go_ret
            exact ⟨rfl, hw7.trans (hb9.mono hw7.size)⟩
          · clear HF HG gg
            go_wp2_with fail
            refine (lives41_any _).mono ?_
            rintro e w9 ⟨rfl, hb9⟩
            go_wp2_with fail
            go_ret
            exact ⟨rfl, hw4.trans (hb9.mono hw4.size)⟩

end Go.Proofs.Ytpbgcbpofhbgbaa

/- api.Act: as an argument, in slices. -/
namespace Go.Proofs.Ytpbgcbpofhbgbaa
open Go.RowKit Go.WideShapes Go.ChangeShapes Go.ChangeAt Go.ChangeMaps Go.Deep Go.Joins

section
variable {H : Type} {enc : TypeId × Value → H} {w : World} {spare : Nat → Bool} {held : Bool}
/-- a struct of fields of any number of cells -/
theorem open_stg {t : TypeId} {fs : Array Field} {N : Nat} (hs : Try.prog.underlying t = some (.struct fs)) {n : Nat} {cs : List Value} {x : DataW H × List MemPlace} (h : DataW.trod enc Try.prog w 0 spare held n t cs = some x) (hC : Try.prog.cellsOf t = N) (hw : Within t x) :
    ∃ (ys : List (DataW H × List MemPlace)) (n' : Nat), cs.length = N ∧ ys.length = fs.size ∧
      ∀ (j : Nat) (f : Field) (y : DataW H × List MemPlace), fs[j]? = some f → ys[j]? = some y → DataW.trod enc Try.prog w 0 spare held n' f.type ((cs.drop f.offset).take (Try.prog.cellsOf f.type)) = some y ∧ Within f.type y := by
  obtain ⟨xs, n', _, hx, hl, hlen, hg⟩ := DataW.trod_struct hs h
  rw [hC] at hl
  refine ⟨xs, n', hl, hlen, fun j f y hj hy => ⟨by rw [hg j f hj, hy], fun k hk => hw k ?_⟩⟩
  rw [hx]
  simp only [DataW.weights, hs]
  refine DataW.weights_mem_each (j := j) (t := f.type) (d := y.1) ?_ ?_ k hk
  · rw [List.getElem?_map]
    have : fs.toList[j]? = some f := by simpa using hj
    rw [this]; rfl
  · rw [List.getElem?_map, hy]; rfl
theorem str_within {b : List UInt8} {p : List MemPlace} (hw : Within 9 ((DataW.lit (Lit.string b) : DataW H), p)) : b.length ≤ 140737488355328 := by
  have h1 := hw b.length (by simp [DataW.weights])
  have h2 := reachBytes_lt
  omega
theorem list2 {α : Type} {l : List α} (h : l.length = 2) : ∃ a0 a1, l = [a0, a1] := by
  match l, h with
  | [a0, a1], _ => exact ⟨_, _, rfl⟩
theorem listOf8 {α : Type} {l : List α} (h : l.length = 8) : ∃ a0 a1 a2 a3 a4 a5 a6 a7, l = [a0, a1, a2, a3, a4, a5, a6, a7] := by
  match l, h with
  | [a0, a1, a2, a3, a4, a5, a6, a7], _ => exact ⟨_, _, _, _, _, _, _, _, rfl⟩
theorem listOf11 {α : Type} {l : List α} (h : l.length = 11) : ∃ a0 a1 a2 a3 a4 a5 a6 a7 a8 a9 a10, l = [a0, a1, a2, a3, a4, a5, a6, a7, a8, a9, a10] := by
  match l, h with
  | [a0, a1, a2, a3, a4, a5, a6, a7, a8, a9, a10], _ => exact ⟨_, _, _, _, _, _, _, _, _, _, _, rfl⟩
theorem open_str {n : Nat} {c : Value} {x : DataW H × List MemPlace} (h : DataW.trod enc Try.prog w 0 spare held n 9 [c] = some x) (hw : Within 9 x) : ∃ p : ByteArray, c = .string p ∧ p.size ≤ 140737488355328 := by
  obtain ⟨p, e, hx0, _⟩ := DataW.trod_string Try.underlying9 h
  obtain rfl : c = .string p := by simpa using e
  rw [hx0] at hw
  have h1 := str_within hw
  have h2 : p.data.toList.length = p.size := by simp
  exact ⟨p, rfl, by omega⟩
theorem open_keep {n : Nat} {cs : List Value} {x : DataW H × List MemPlace} (h : DataW.trod enc Try.prog w 0 spare held n 91 cs = some x) (hw : Within 91 x) :
    ∃ o : KV, cs = o.cells ∧ (-9223372036854775808 ≤ o.f ∧ o.f < 9223372036854775808 ∧ -9223372036854775808 ≤ o.b ∧ o.b < 9223372036854775808) := by
  obtain ⟨ys, n', hcl, hyl, hf⟩ := open_st Try.underlying91 (by kernel_rfl) h (by kernel_rfl) hw
  obtain ⟨a0, a1, rfl⟩ := list2 hcl
  obtain ⟨y0, y1, rfl⟩ := list2 hyl
  obtain ⟨k, e, _, wk⟩ := DataW.trod_int Try.underlying3 (hf 0 _ _ _ rfl rfl rfl).1
  obtain rfl := List.singleton_inj.1 e
  obtain ⟨m, e, _, wm⟩ := DataW.trod_int Try.underlying3 (hf 1 _ _ _ rfl rfl rfl).1
  obtain rfl := List.singleton_inj.1 e
  have bk := i64_bd wk
  have bm := i64_bd wm
  exact ⟨⟨k, m⟩, rfl, bk.1, bk.2, bm.1, bm.2⟩
theorem open_choice {n : Nat} {cs : List Value} {x : DataW H × List MemPlace} (h : DataW.trod enc Try.prog w 0 spare held n 95 cs = some x) (hw : Within 95 x) :
    ∃ o : HW, cs = o.cells ∧ (o.p.size ≤ 140737488355328 ∧ -9223372036854775808 ≤ o.w ∧ o.w < 9223372036854775808) := by
  obtain ⟨ys, n', hcl, hyl, hf⟩ := open_st Try.underlying95 (by kernel_rfl) h (by kernel_rfl) hw
  obtain ⟨a0, a1, rfl⟩ := list2 hcl
  obtain ⟨y0, y1, rfl⟩ := list2 hyl
  obtain ⟨p, rfl, hp⟩ := open_str (hf 0 _ _ _ rfl rfl rfl).1 (hf 0 _ _ _ rfl rfl rfl).2
  obtain ⟨m, e, _, wm⟩ := DataW.trod_int Try.underlying3 (hf 1 _ _ _ rfl rfl rfl).1
  obtain rfl := List.singleton_inj.1 e
  have bm := i64_bd wm
  exact ⟨⟨p, m⟩, rfl, hp, bm.1, bm.2⟩
set_option maxRecDepth 100000 in
theorem open_act {n : Nat} {cs : List Value} {x : DataW H × List MemPlace} (h : DataW.trod enc Try.prog w 0 spare held n 57 cs = some x) (hw : Within 57 x) :
    ∃ o : AV, cs = o.cells ∧ (o.ok w (fun b => b < w.heap.size) ∧ o.a.x.length ≤ o.xc ∧ o.xc ≤ maxLen) := by
  obtain ⟨ys, n', hcl, hyl, hf⟩ := open_stg (N := 11) Try.underlying57 h (by kernel_rfl) hw
  obtain ⟨a0, a1, a2, a3, a4, a5, a6, a7, a8, a9, a10, rfl⟩ := listOf11 hcl
  obtain ⟨y0, y1, y2, y3, y4, y5, y6, y7, rfl⟩ := listOf8 hyl
  obtain ⟨f0, w0⟩ := hf 0 _ _ rfl rfl
  obtain ⟨f1, w1⟩ := hf 1 _ _ rfl rfl
  obtain ⟨f2, w2⟩ := hf 2 _ _ rfl rfl
  obtain ⟨f3, w3⟩ := hf 3 _ _ rfl rfl
  obtain ⟨f4, w4⟩ := hf 4 _ _ rfl rfl
  obtain ⟨f5, w5⟩ := hf 5 _ _ rfl rfl
  obtain ⟨f6, w6⟩ := hf 6 _ _ rfl rfl
  obtain ⟨f7, w7⟩ := hf 7 _ _ rfl rfl
  clear hf hcl hyl h hw
  have ci : Try.prog.cellsOf 3 = 1 := by kernel_rfl
  have cm : Try.prog.cellsOf 38 = 1 := by kernel_rfl
  have ce : Try.prog.cellsOf 53 = 4 := by kernel_rfl
  have ck : Try.prog.cellsOf 54 = 1 := by kernel_rfl
  have cc : Try.prog.cellsOf 55 = 1 := by kernel_rfl
  replace f0 : DataW.trod enc Try.prog w 0 spare held n' 3 (([a0, a1, a2, a3, a4, a5, a6, a7, a8, a9, a10].drop 0).take (Try.prog.cellsOf 3)) = some y0 := f0
  rw [ci] at f0
  replace f1 : DataW.trod enc Try.prog w 0 spare held n' 3 (([a0, a1, a2, a3, a4, a5, a6, a7, a8, a9, a10].drop 1).take (Try.prog.cellsOf 3)) = some y1 := f1
  rw [ci] at f1
  replace f2 : DataW.trod enc Try.prog w 0 spare held n' 3 (([a0, a1, a2, a3, a4, a5, a6, a7, a8, a9, a10].drop 2).take (Try.prog.cellsOf 3)) = some y2 := f2
  rw [ci] at f2
  replace f3 : DataW.trod enc Try.prog w 0 spare held n' 3 (([a0, a1, a2, a3, a4, a5, a6, a7, a8, a9, a10].drop 3).take (Try.prog.cellsOf 3)) = some y3 := f3
  rw [ci] at f3
  replace f4 : DataW.trod enc Try.prog w 0 spare held n' 38 (([a0, a1, a2, a3, a4, a5, a6, a7, a8, a9, a10].drop 4).take (Try.prog.cellsOf 38)) = some y4 := f4
  rw [cm] at f4
  replace f5 : DataW.trod enc Try.prog w 0 spare held n' 53 (([a0, a1, a2, a3, a4, a5, a6, a7, a8, a9, a10].drop 5).take (Try.prog.cellsOf 53)) = some y5 := f5
  rw [ce] at f5
  replace f6 : DataW.trod enc Try.prog w 0 spare held n' 54 (([a0, a1, a2, a3, a4, a5, a6, a7, a8, a9, a10].drop 9).take (Try.prog.cellsOf 54)) = some y6 := f6
  rw [ck] at f6
  replace f7 : DataW.trod enc Try.prog w 0 spare held n' 55 (([a0, a1, a2, a3, a4, a5, a6, a7, a8, a9, a10].drop 10).take (Try.prog.cellsOf 55)) = some y7 := f7
  rw [cc] at f7
  obtain ⟨v0, e, _, u0⟩ := DataW.trod_int Try.underlying3 f0
  obtain rfl : a0 = .int .i64 v0 := by simpa using e
  replace u0 := i64_bd u0
  obtain ⟨v1, e, _, u1⟩ := DataW.trod_int Try.underlying3 f1
  obtain rfl : a1 = .int .i64 v1 := by simpa using e
  replace u1 := i64_bd u1
  obtain ⟨v2, e, _, u2⟩ := DataW.trod_int Try.underlying3 f2
  obtain rfl : a2 = .int .i64 v2 := by simpa using e
  replace u2 := i64_bd u2
  obtain ⟨v3, e, _, u3⟩ := DataW.trod_int Try.underlying3 f3
  obtain rfl : a3 = .int .i64 v3 := by simpa using e
  replace u3 := i64_bd u3
  obtain ⟨v4, e, _, u4⟩ := DataW.trod_int Try.underlying38 f4
  obtain rfl : a4 = .int .u32 v4 := by simpa using e
  replace u4 := u32_bd u4
  obtain ⟨zs, m', hcl, hzl, hf⟩ := open_st (cs := [a5, a6, a7, a8]) Try.underlying53 (by kernel_rfl) f5 (by kernel_rfl) w5
  obtain ⟨z0, z1, z2, z3, rfl⟩ := list4 hzl
  obtain ⟨v5, e, _, u5⟩ := DataW.trod_int Try.underlying3 (hf 0 _ _ _ rfl rfl rfl).1
  obtain rfl := List.singleton_inj.1 e
  replace u5 := i64_bd u5
  obtain ⟨p, rfl, hp⟩ := open_str (hf 1 _ _ _ rfl rfl rfl).1 (hf 1 _ _ _ rfl rfl rfl).2
  obtain ⟨t, rfl, ht⟩ := open_str (hf 2 _ _ _ rfl rfl rfl).1 (hf 2 _ _ _ rfl rfl rfl).2
  obtain ⟨⟨xA, xc, x⟩, rfl, ⟨hx1, hx2, hx3⟩, hxl⟩ := open_bv (hf 3 _ _ _ rfl rfl rfl).1 (hf 3 _ _ _ rfl rfl rfl).2
  obtain ⟨kA, kc, kl, rfl, _, _, hk1, hk2, hk3⟩ := open_sl (w := w) (enc := enc) (spare := spare) (held := held) KV.cells _ 2 16 (t := 54) (e := 91) Try.underlying54 (by kernel_rfl) (by kernel_rfl) (by omega) (fun n cs x hx hx2 => open_keep hx hx2) f6 w6
  obtain ⟨cA, cc_, cl, rfl, _, _, hc1, hc2, hc3⟩ := open_sl (w := w) (enc := enc) (spare := spare) (held := held) HW.cells _ 2 24 (t := 55) (e := 95) Try.underlying55 (by kernel_rfl) (by kernel_rfl) (by omega) (fun n cs x hx hx2 => open_choice hx hx2) f7 w7
  have hrb := reachBytes_lt
  exact ⟨⟨⟨v0, v1, v2, v3, v4, v5, p, t, x, kl, cl⟩, xA, xc, kA, kc, cA, cc_⟩, rfl, ⟨hx1, hk1, hc1, ⟨u0, u1, u2, u3, u4, u5, hp, ht, hxl, by dsimp only; omega, by dsimp only; omega, hk2, hc2⟩⟩, hx2, hx3⟩
set_option maxRecDepth 100000 in
theorem open_actv {r : Reach} {b0 : Nat} {v : Value} {d : DataW H} {p : List MemPlace} (hv : Value.okWide Try.prog w r b0 57 v) (h : DataW.Trod enc Try.prog w 0 spare held 57 v d p) (hw : Within 57 (d, p)) :
    ∃ o : AV, v = o.val ∧ (o.ok w (fun b => b < w.heap.size) ∧ o.a.x.length ≤ o.xc ∧ o.xc ≤ maxLen) := by
  obtain ⟨cs, rfl, hsz⟩ := okWide_struct Try.underlying57 hv
  obtain ⟨l⟩ := cs
  obtain ⟨n, hn⟩ := h
  obtain ⟨o, e, ho⟩ := open_act (cs := l) hn hw
  subst e
  exact ⟨o, rfl, ho⟩
set_option maxRecDepth 100000 in
theorem open_acts {n : Nat} {v : Value} {x : DataW H × List MemPlace} (h : DataW.trod enc Try.prog w 0 spare held n 50 [v] = some x) (hw : Within 50 x) :
    ∃ (A : Option Addr) (c : Nat) (l : List AV), v = .slice A l.length c ∧ Acts w (fun b => b < w.heap.size) A l ∧ (∀ o ∈ l, o.a.x.length ≤ o.xc ∧ o.xc ≤ maxLen) := by
  obtain ⟨A, c, l, rfl, _, _, h3, h4, h5⟩ := open_sl (w := w) (enc := enc) (spare := spare) (held := held) AV.cells _ 11 152 (t := 50) (e := 57) Try.underlying50 (by kernel_rfl) (by kernel_rfl) (by omega) (fun n cs x hx hx2 => open_act hx hx2) h hw
  refine ⟨A, c, l, rfl, ⟨h3, fun v hv => (h4 v hv).1, ?_⟩, fun v hv => (h4 v hv).2⟩
  have := reachBytes_lt
  omega
end
end Go.Proofs.Ytpbgcbpofhbgbaa
