/- script.Check, whole. -/
import Derived.Test.YtpbgcbpofhbgbaaA04

namespace Go.Proofs.Ytpbgcbpofhbgbaa
open Go.RowKit

set_option maxRecDepth 100000 in
set_option maxHeartbeats 4000000 in
theorem check_any (a : AV) (Z : Nat → Prop) (w : World) (h : a.ok w Z) :
    Calls Try.prog 27 #[a.val] w fun e w' => e = .returned (.int .i64 (if rightA a.a then 0 else 2)) ∧ Below w.heap.size w w' := by
  obtain ⟨M, hM⟩ : ∃ M, M = if rightA a.a then (0 : Int) else 2 := ⟨_, rfl⟩
  rw [← hM]
  have HM := Lib.hid hM
  clear hM
  unfold AV.val
  obtain ⟨A, hA⟩ : ∃ A, A = a.cells.toArray := ⟨_, rfl⟩
  have x0 : A[0]? = some (.int .i64 a.a.k) := by rw [hA]; rfl
  have x1 : A[1]? = some (.int .i64 a.a.s) := by rw [hA]; rfl
  have x2 : A[2]? = some (.int .i64 a.a.n) := by rw [hA]; rfl
  have x3 : A[3]? = some (.int .i64 a.a.b) := by rw [hA]; rfl
  have x4 : A[4]? = some (.int .u32 a.a.m) := by rw [hA]; rfl
  have x5 : A[5]? = some (.int .i64 a.a.ek) := by rw [hA]; rfl
  have x6 : A[6]? = some (.string a.a.p) := by rw [hA]; rfl
  have x7 : A[7]? = some (.string a.a.t) := by rw [hA]; rfl
  have x8 : A[8]? = some (.slice a.xA a.a.x.length a.xc) := by rw [hA]; rfl
  have x9 : A[9]? = some (.slice a.kA a.a.kl.length a.kc) := by rw [hA]; rfl
  have x10 : A[10]? = some (.slice a.cA a.a.cl.length a.cc) := by rw [hA]; rfl
  rw [show Value.agg #[.int .i64 a.a.k, .int .i64 a.a.s, .int .i64 a.a.n, .int .i64 a.a.b, .int .u32 a.a.m, .int .i64 a.a.ek, .string a.a.p, .string a.a.t, .slice a.xA a.a.x.length a.xc, .slice a.kA a.a.kl.length a.kc, .slice a.cA a.a.cl.length a.cc] = .agg A by rw [hA]; rfl]
  clear hA
  have hbw : Below w.heap.size w (w.alloc (.cells A 57)) := (by repeat (first | exact Below.refl _ _ | refine Below.alloc ?_ (by simp) _ | refine Below.setCell ?_ (by simp) _ | refine Below.drew ?_))
  have h1 := h.below hbw
  have bA := Blk.new w 57 A
  have bl := bA.lt
  have H1 := Lib.hid (fun w => within_any a.a.k 1 12 w)
  have H2 := Lib.hid (fun w => within_any a.a.s 0 2 w)
  have H3 := Lib.hid (fun w => within_any a.a.n (-1) 1048576 w)
  have H4 := Lib.hid (fun w => within_any a.a.b (-1) 1048576 w)
  have HE := Lib.hid (fun W => edit_any a.a a.xA a.xc W)
  have HK := Lib.hid (fun W (hW : Below (w.alloc (.cells A 57)).heap.size (w.alloc (.cells A 57)) W) => containsKV_any a.kA a.kc a.a.kl _ W (h1.k.below hW) h.fit.kl)
  have HC := Lib.hid (fun W (hW : Below (w.alloc (.cells A 57)).heap.size (w.alloc (.cells A 57)) W) => containsHW_any a.cA a.cc a.a.cl _ W (h1.c.below hW) h.fit.cl)
  clear h h1
  unfold rightA at HM
  generalize a.a.kl.all goodK = K7 at *
  generalize a.a.cl.all goodC = K8 at *
  generalize editB a.a = K6 at *
  generalize inB a.a.k 1 12 = K0 at *
  generalize inB a.a.s 0 2 = K1 at *
  generalize inB a.a.n (-1) 1048576 = K2 at *
  generalize inB a.a.b (-1) 1048576 = K3 at *
  cases K0
  · obtain rfl : M = 2 := by rw [HM.out]; rfl
    go_enter Try.func27, Try.ntmps27
    go_wp2_with (first | (go_at_call 54; first | (with_reducible refine (H1.out _).mono ?_; rintro e w2 ⟨rfl, rfl⟩) | (with_reducible refine (H2.out _).mono ?_; rintro e w2 ⟨rfl, rfl⟩) | (with_reducible refine (H3.out _).mono ?_; rintro e w2 ⟨rfl, rfl⟩) | (with_reducible refine (H4.out _).mono ?_; rintro e w2 ⟨rfl, rfl⟩)))
    go_ret
    exact ⟨rfl, (by repeat (first | exact Below.refl _ _ | refine Below.alloc ?_ (by simp) _ | refine Below.setCell ?_ (by simp) _ | refine Below.drew ?_))⟩
  · skip
    cases K1
    · obtain rfl : M = 2 := by rw [HM.out]; rfl
      go_enter Try.func27, Try.ntmps27
      go_wp2_with (first | (go_at_call 54; first | (with_reducible refine (H1.out _).mono ?_; rintro e w2 ⟨rfl, rfl⟩) | (with_reducible refine (H2.out _).mono ?_; rintro e w2 ⟨rfl, rfl⟩) | (with_reducible refine (H3.out _).mono ?_; rintro e w2 ⟨rfl, rfl⟩) | (with_reducible refine (H4.out _).mono ?_; rintro e w2 ⟨rfl, rfl⟩)))
      go_ret
      exact ⟨rfl, (by repeat (first | exact Below.refl _ _ | refine Below.alloc ?_ (by simp) _ | refine Below.setCell ?_ (by simp) _ | refine Below.drew ?_))⟩
    · skip
      cases K2
      · obtain rfl : M = 2 := by rw [HM.out]; rfl
        go_enter Try.func27, Try.ntmps27
        go_wp2_with (first | (go_at_call 54; first | (with_reducible refine (H1.out _).mono ?_; rintro e w2 ⟨rfl, rfl⟩) | (with_reducible refine (H2.out _).mono ?_; rintro e w2 ⟨rfl, rfl⟩) | (with_reducible refine (H3.out _).mono ?_; rintro e w2 ⟨rfl, rfl⟩) | (with_reducible refine (H4.out _).mono ?_; rintro e w2 ⟨rfl, rfl⟩)))
        go_ret
        exact ⟨rfl, (by repeat (first | exact Below.refl _ _ | refine Below.alloc ?_ (by simp) _ | refine Below.setCell ?_ (by simp) _ | refine Below.drew ?_))⟩
      · skip
        cases K3
        · obtain rfl : M = 2 := by rw [HM.out]; rfl
          go_enter Try.func27, Try.ntmps27
          go_wp2_with (first | (go_at_call 54; first | (with_reducible refine (H1.out _).mono ?_; rintro e w2 ⟨rfl, rfl⟩) | (with_reducible refine (H2.out _).mono ?_; rintro e w2 ⟨rfl, rfl⟩) | (with_reducible refine (H3.out _).mono ?_; rintro e w2 ⟨rfl, rfl⟩) | (with_reducible refine (H4.out _).mono ?_; rintro e w2 ⟨rfl, rfl⟩)))
          go_ret
          exact ⟨rfl, (by repeat (first | exact Below.refl _ _ | refine Below.alloc ?_ (by simp) _ | refine Below.setCell ?_ (by simp) _ | refine Below.drew ?_))⟩
        · skip
          cases c4 : decide (a.a.kl.length ≤ 8)
          · have q4 : decide ((a.a.kl.length : Int) > 8) = true := by simp at c4 ⊢; omega
            obtain rfl : M = 2 := by rw [HM.out, c4]; rfl
            go_enter Try.func27, Try.ntmps27
            go_wp2_with (first | (go_at_call 54; first | (with_reducible refine (H1.out _).mono ?_; rintro e w2 ⟨rfl, rfl⟩) | (with_reducible refine (H2.out _).mono ?_; rintro e w2 ⟨rfl, rfl⟩) | (with_reducible refine (H3.out _).mono ?_; rintro e w2 ⟨rfl, rfl⟩) | (with_reducible refine (H4.out _).mono ?_; rintro e w2 ⟨rfl, rfl⟩)))
            go_ret
            exact ⟨rfl, (by repeat (first | exact Below.refl _ _ | refine Below.alloc ?_ (by simp) _ | refine Below.setCell ?_ (by simp) _ | refine Below.drew ?_))⟩
          · have q4 : decide ((a.a.kl.length : Int) > 8) = false := by simp at c4 ⊢; omega
            cases c5 : decide (a.a.cl.length ≤ 8)
            · have q5 : decide ((a.a.cl.length : Int) > 8) = true := by simp at c5 ⊢; omega
              obtain rfl : M = 2 := by rw [HM.out, c4, c5]; rfl
              go_enter Try.func27, Try.ntmps27
              go_wp2_with (first | (go_at_call 54; first | (with_reducible refine (H1.out _).mono ?_; rintro e w2 ⟨rfl, rfl⟩) | (with_reducible refine (H2.out _).mono ?_; rintro e w2 ⟨rfl, rfl⟩) | (with_reducible refine (H3.out _).mono ?_; rintro e w2 ⟨rfl, rfl⟩) | (with_reducible refine (H4.out _).mono ?_; rintro e w2 ⟨rfl, rfl⟩)))
              go_ret
              exact ⟨rfl, (by repeat (first | exact Below.refl _ _ | refine Below.alloc ?_ (by simp) _ | refine Below.setCell ?_ (by simp) _ | refine Below.drew ?_))⟩
            · have q5 : decide ((a.a.cl.length : Int) > 8) = false := by simp at c5 ⊢; omega
              cases K6
              · obtain rfl : M = 2 := by rw [HM.out, c4, c5]; rfl
                go_enter Try.func27, Try.ntmps27
                go_wp2_with (first | (go_at_call 54; first | (with_reducible refine (H1.out _).mono ?_; rintro e w2 ⟨rfl, rfl⟩) | (with_reducible refine (H2.out _).mono ?_; rintro e w2 ⟨rfl, rfl⟩) | (with_reducible refine (H3.out _).mono ?_; rintro e w2 ⟨rfl, rfl⟩) | (with_reducible refine (H4.out _).mono ?_; rintro e w2 ⟨rfl, rfl⟩)) | (go_at_call 56; refine (HE.out _).mono ?_; rintro e w3 ⟨rfl, hb3⟩; have q9 := (bA.below hb3).cell 9; rw [x9] at q9; have q10 := (bA.below hb3).cell 10; rw [x10] at q10) | (go_at_call 57; refine (HK.out _ hb3).mono ?_; rintro e w4 ⟨rfl, hb4⟩; have hb5 := hb3.trans (hb4.mono hb3.size); have r10 := (bA.below hb5).cell 10; rw [x10] at r10) | (go_at_call 58; refine (HC.out _ hb5).mono ?_; rintro e w6 ⟨rfl, hb6⟩; have hb7 := hb5.trans (hb6.mono hb5.size)))
                go_ret
                exact ⟨rfl, hbw.trans (hb3.mono hbw.size)⟩
              · skip
                cases K7
                · obtain rfl : M = 2 := by rw [HM.out, c4, c5]; rfl
                  go_enter Try.func27, Try.ntmps27
                  go_wp2_with (first | (go_at_call 54; first | (with_reducible refine (H1.out _).mono ?_; rintro e w2 ⟨rfl, rfl⟩) | (with_reducible refine (H2.out _).mono ?_; rintro e w2 ⟨rfl, rfl⟩) | (with_reducible refine (H3.out _).mono ?_; rintro e w2 ⟨rfl, rfl⟩) | (with_reducible refine (H4.out _).mono ?_; rintro e w2 ⟨rfl, rfl⟩)) | (go_at_call 56; refine (HE.out _).mono ?_; rintro e w3 ⟨rfl, hb3⟩; have q9 := (bA.below hb3).cell 9; rw [x9] at q9; have q10 := (bA.below hb3).cell 10; rw [x10] at q10) | (go_at_call 57; refine (HK.out _ hb3).mono ?_; rintro e w4 ⟨rfl, hb4⟩; have hb5 := hb3.trans (hb4.mono hb3.size); have r10 := (bA.below hb5).cell 10; rw [x10] at r10) | (go_at_call 58; refine (HC.out _ hb5).mono ?_; rintro e w6 ⟨rfl, hb6⟩; have hb7 := hb5.trans (hb6.mono hb5.size)))
                  go_ret
                  exact ⟨rfl, hbw.trans (hb5.mono hbw.size)⟩
                · skip
                  cases K8
                  · obtain rfl : M = 2 := by rw [HM.out, c4, c5]; rfl
                    go_enter Try.func27, Try.ntmps27
                    go_wp2_with (first | (go_at_call 54; first | (with_reducible refine (H1.out _).mono ?_; rintro e w2 ⟨rfl, rfl⟩) | (with_reducible refine (H2.out _).mono ?_; rintro e w2 ⟨rfl, rfl⟩) | (with_reducible refine (H3.out _).mono ?_; rintro e w2 ⟨rfl, rfl⟩) | (with_reducible refine (H4.out _).mono ?_; rintro e w2 ⟨rfl, rfl⟩)) | (go_at_call 56; refine (HE.out _).mono ?_; rintro e w3 ⟨rfl, hb3⟩; have q9 := (bA.below hb3).cell 9; rw [x9] at q9; have q10 := (bA.below hb3).cell 10; rw [x10] at q10) | (go_at_call 57; refine (HK.out _ hb3).mono ?_; rintro e w4 ⟨rfl, hb4⟩; have hb5 := hb3.trans (hb4.mono hb3.size); have r10 := (bA.below hb5).cell 10; rw [x10] at r10) | (go_at_call 58; refine (HC.out _ hb5).mono ?_; rintro e w6 ⟨rfl, hb6⟩; have hb7 := hb5.trans (hb6.mono hb5.size)))
                    go_ret
                    exact ⟨rfl, hbw.trans (hb7.mono hbw.size)⟩
                  · skip
                    obtain rfl : M = 0 := by rw [HM.out, c4, c5]; rfl
                    go_enter Try.func27, Try.ntmps27
                    go_wp2_with (first | (go_at_call 54; first | (with_reducible refine (H1.out _).mono ?_; rintro e w2 ⟨rfl, rfl⟩) | (with_reducible refine (H2.out _).mono ?_; rintro e w2 ⟨rfl, rfl⟩) | (with_reducible refine (H3.out _).mono ?_; rintro e w2 ⟨rfl, rfl⟩) | (with_reducible refine (H4.out _).mono ?_; rintro e w2 ⟨rfl, rfl⟩)) | (go_at_call 56; refine (HE.out _).mono ?_; rintro e w3 ⟨rfl, hb3⟩; have q9 := (bA.below hb3).cell 9; rw [x9] at q9; have q10 := (bA.below hb3).cell 10; rw [x10] at q10) | (go_at_call 57; refine (HK.out _ hb3).mono ?_; rintro e w4 ⟨rfl, hb4⟩; have hb5 := hb3.trans (hb4.mono hb3.size); have r10 := (bA.below hb5).cell 10; rw [x10] at r10) | (go_at_call 58; refine (HC.out _ hb5).mono ?_; rintro e w6 ⟨rfl, hb6⟩; have hb7 := hb5.trans (hb6.mono hb5.size)))
                    go_ret
                    exact ⟨rfl, hbw.trans (hb7.mono hbw.size)⟩
end Go.Proofs.Ytpbgcbpofhbgbaa

/- A pen that stands in a variable: Num and Text of values just laid; an act's bytes. -/
namespace Go.Proofs.Ytpbgcbpofhbgbaa
open Go.RowKit

/-- the pen at pb, made last of W1's blocks, has the bytes P; of W1's blocks nothing else has turned -/
structure PW (W1 : World) (pb : Nat) (P : List UInt8) (w : World) : Prop where
  pen : ∃ v, Pen w pb pb v P
  fr : Fr (fun k => k = pb) W1 w
theorem PW.below {W1 : World} {pb : Nat} {P : List UInt8} {w w' : World} (h : PW W1 pb P w) (k : Below w.heap.size w w') : PW W1 pb P w' := by
  obtain ⟨v, hv⟩ := h.pen
  exact ⟨⟨v, hv.below k⟩, h.fr.then_below k⟩
theorem PW.side {W1 : World} {pb bx : Nat} {t : TypeId} {cs : Array Value} {P : List UInt8} {w w' : World} (h : PW W1 pb P w) (hb : Blk w bx t cs) (ht : 5 ≠ t) (k : Fr (fun x => x = bx) w w') (h1 : W1.heap.size ≤ bx) (h2 : bx ≠ pb) : PW W1 pb P w' := by
  obtain ⟨v, hv⟩ := h.pen
  exact ⟨⟨v, hv.blk.fr k (fun e => h2 e.symm), hv.own.fr k (fun g hg e => hb.own_ne hv.own ht (by rw [hg, e]))⟩, h.fr.trans k (fun x hx e => by omega)⟩
/-- blocks that are no bytes stay as they are -/
def Keeps (pb : Nat) (w w' : World) : Prop := ∀ (g : Nat) (t : TypeId) (cs : Array Value), Blk w g t cs → 5 ≠ t → g ≠ pb → Blk w' g t cs
theorem pw_num {W1 w : World} {pb n g : Nat} {P : List UInt8} {t : TypeId} {cs : Array Value} (h : PW W1 pb P w) (hW : W1.heap.size = pb + 1) (hg : g = w.heap.size) (ns : List Nat) (hcs : cs.toList = ns.map u64v) (hl : n = ns.length) (hn : ∀ n ∈ ns, n < 18446744073709551616) (hlen : P.length + 9 * ns.length ≤ 140737488355328) :
    Calls Try.prog 71 #[.pointer (some ⟨pb, 0, none⟩), .slice (some ⟨g, 0, none⟩) n n] (w.alloc (.cells cs t)) fun e w' => e = .returned (.tuple #[]) ∧ PW W1 pb (P ++ ns.flatMap numB) w' ∧ Keeps pb w w' := by
  subst hl hg
  obtain ⟨v, hv⟩ := h.pen
  have hs := h.fr.size
  refine (Num_any pb pb v P _ _ ns (fun b => w.heap.size ≤ b) _ (hv.alloc _) (Rd.lit hcs (by simp) rfl) ?_ hn (by simp; omega) hlen).mono ?_
  · rintro b _ hb (rfl | e)
    · omega
    · have := (hv.own.lt _ e).2; omega
  · rintro e w' ⟨he, v', hp⟩
    have hk : Below w.heap.size w (w.alloc (.cells cs t)) := (by repeat (first | exact Below.refl _ _ | refine Below.alloc ?_ (by simp) _ | refine Below.setCell ?_ (by simp) _ | refine Below.drew ?_))
    refine ⟨he, ⟨⟨v', hp.pen⟩, (h.fr.then_below hk).trans hp.fr (fun x hx e => ?_)⟩, fun g t' cs' hg ht hne => (hg.below hk).fr hp.fr ?_⟩
    · rcases e with e | e
      · exact e
      · have := (hv.own.lt _ e).1; omega
    · rintro (e | e)
      · exact hne e
      · exact hg.own_ne hv.own ht e
theorem pw_text {W1 w V : World} {pb n g : Nat} {P : List UInt8} {t : TypeId} {cs : Array Value} (h : PW W1 pb P w) (hW : W1.heap.size = pb + 1) (k : Below w.heap.size w V) (hg : g = V.heap.size) (bs : List BV) (hcs : cs.toList = bs.map BV.v) (hl : n = bs.length) (hok : ∀ x ∈ bs, x.ok V (fun b => b < pb ∨ w.heap.size ≤ b)) (hlen : P.length + wide bs ≤ 140737488355328) :
    Calls Try.prog 72 #[.pointer (some ⟨pb, 0, none⟩), .slice (some ⟨g, 0, none⟩) n n] (V.alloc (.cells cs t)) fun e w' => e = .returned (.tuple #[]) ∧ PW W1 pb (P ++ bs.flatMap fun x => textB x.l) w' ∧ Keeps pb w w' := by
  subst hl hg
  obtain ⟨v, hv⟩ := h.pen
  have hs := h.fr.size
  have hs2 := k.size
  have hk : Below w.heap.size w (V.alloc (.cells cs t)) := k.trans ((Below.refl _ _).alloc hs2 _)
  refine (Text_any pb pb v P _ _ bs (fun b => b < pb ∨ w.heap.size ≤ b) _ (hv.below hk) ((Rd.lit hcs (by simp) rfl).mono (fun b _ hb => .inr (by omega))) (fun x hx => (hok x hx).below ((Below.refl _ _).alloc (Nat.le_refl _) _)) ?_ (by have := hk.size; omega) hlen).mono ?_
  · rintro b _ hb (rfl | e)
    · rcases hb with hb | hb <;> omega
    · have h1 := (hv.own.lt _ e)
      rcases hb with hb | hb <;> omega
  · rintro e w' ⟨he, v', hp⟩
    refine ⟨he, ⟨⟨v', hp.pen⟩, (h.fr.then_below hk).trans hp.fr (fun x hx e => ?_)⟩, fun g t' cs' hg ht hne => (hg.below hk).fr hp.fr ?_⟩
    · rcases e with e | e
      · exact e
      · have := (hv.own.lt _ e).1; omega
    · rintro (e | e)
      · exact hne e
      · exact hg.own_ne hv.own ht e
/-- the bytes of what a crash keeps, of a choice, of an act -/
def keepB (x : KV) : List UInt8 := numB x.f.toNat ++ numB x.b.toNat
def choB (x : HW) : List UInt8 := textB x.p.data.toList ++ numB x.w.toNat
def actB (a : AS) : List UInt8 :=
  [a.k.toNat, a.s.toNat, (a.n + 1).toNat, (a.b + 1).toNat, a.m.toNat, a.ek.toNat].flatMap numB ++ (textB a.p.data.toList ++ (textB a.t.data.toList ++ (textB a.x ++ (numB a.kl.length ++ (a.kl.flatMap keepB ++ (numB a.cl.length ++ a.cl.flatMap choB))))))
theorem keepB_len (x : KV) : (keepB x).length ≤ 18 := by
  have h1 := numB_len x.f.toNat
  have h2 := numB_len x.b.toNat
  unfold keepB
  simp only [List.length_append]
  omega
theorem flat_le {α : Type} {f : α → List UInt8} {K : Nat} : ∀ (l : List α), (∀ a ∈ l, (f a).length ≤ K) → (l.flatMap f).length ≤ l.length * K
  | [], _ => by simp
  | a :: l, h => by
    have h1 := h a (by simp)
    have h2 := flat_le l (fun b hb => h b (by simp [hb]))
    simp only [List.flatMap_cons, List.length_append, List.length_cons, Nat.add_mul]
    omega
end Go.Proofs.Ytpbgcbpofhbgbaa

/- script.Write: the bytes of acts. -/
namespace Go.Proofs.Ytpbgcbpofhbgbaa
open Go.RowKit

def writeS (l : List AS) : List UInt8 × Int := if 65536 < l.length then ([], 13) else if l.all rightA then (numB l.length ++ l.flatMap actB, 0) else ([], 2)
theorem right_parts {a : AS} (h : rightA a = true) : (1 ≤ a.k ∧ a.k ≤ 12) ∧ (0 ≤ a.s ∧ a.s ≤ 2) ∧ (-1 ≤ a.n ∧ a.n ≤ 1048576) ∧ (-1 ≤ a.b ∧ a.b ≤ 1048576) ∧ a.kl.length ≤ 8 ∧ a.cl.length ≤ 8 ∧ ((0 ≤ a.ek ∧ a.ek ≤ 5) ∧ a.p.size ≤ 96 ∧ a.t.size ≤ 96 ∧ a.x.length ≤ 4096) ∧
    (∀ o ∈ a.kl, (0 ≤ o.f ∧ o.f ≤ 1048576) ∧ (0 ≤ o.b ∧ o.b ≤ 1048576)) ∧ (∀ o ∈ a.cl, o.p.size ≤ 96 ∧ (0 ≤ o.w ∧ o.w ≤ 2)) := by
  simpa [rightA, editB, inB, goodK, goodC, and_assoc] using h
theorem textB_len (l : List UInt8) : (textB l).length ≤ 9 + l.length := by
  have := numB_len l.length
  unfold textB
  simp only [List.length_append]
  omega
theorem choB_len {x : HW} (h : x.p.size ≤ 96) : (choB x).length ≤ 114 := by
  have h1 := textB_len x.p.data.toList
  have h2 := numB_len x.w.toNat
  have h3 : x.p.data.toList.length = x.p.size := by simp
  unfold choB
  simp only [List.length_append]
  omega
theorem actB_len {a : AS} (h : rightA a = true) : (actB a).length ≤ 6000 := by
  obtain ⟨_, _, _, _, h5, h6, ⟨_, h8, h9, h10⟩, _, h12⟩ := right_parts h
  have q1 := flat9 [a.k.toNat, a.s.toNat, (a.n + 1).toNat, (a.b + 1).toNat, a.m.toNat, a.ek.toNat]
  have q2 := textB_len a.p.data.toList
  have q3 := textB_len a.t.data.toList
  have q4 := textB_len a.x
  have q5 := numB_len a.kl.length
  have q6 := numB_len a.cl.length
  have q7 := flat_le (f := keepB) (K := 18) a.kl (fun x _ => keepB_len x)
  have q8 := flat_le (f := choB) (K := 114) a.cl (fun x hx => choB_len (h12 x hx).1)
  have e1 : a.p.data.toList.length = a.p.size := by simp
  have e2 : a.t.data.toList.length = a.t.size := by simp
  have m7 : a.kl.length * 18 ≤ 8 * 18 := Nat.mul_le_mul_right _ h5
  have m8 : a.cl.length * 114 ≤ 8 * 114 := Nat.mul_le_mul_right _ h6
  unfold actB
  simp only [List.length_append, List.length_cons, List.length_nil] at q1 ⊢
  omega
theorem u64_wrap {n : Int} (h : 0 ≤ n ∧ n < 18446744073709551616) : IntKind.u64.wrap n = n := IntWalk.u64_in _ (by omega)


set_option maxRecDepth 100000 in
set_option maxHeartbeats 4000000 in
theorem write_any (A : Option Addr) (c : Nat) (l : List AV) (w : World) (h : Acts w (fun b => b < w.heap.size) A l) (hcap : ∀ v ∈ l, v.a.x.length ≤ v.xc ∧ v.xc ≤ maxLen) :
    Calls Try.prog 32 #[.slice A l.length c] w fun e w' => ∃ (B : Option Addr) (d : Nat) (b : List UInt8), e = .returned (.tuple #[.slice B b.length d, .int .i64 (writeS (l.map AV.a)).2]) ∧ Hid (b = (writeS (l.map AV.a)).1) ∧ By w' (fun b => w.heap.size ≤ b) B b ∧ b.length ≤ d ∧ d ≤ maxLen ∧ Below w.heap.size w w' := by
  obtain ⟨R, hR⟩ : ∃ R, R = writeS (l.map AV.a) := ⟨_, rfl⟩
  rw [← hR]
  have HR := Lib.hid hR
  clear hR
  have hll := h.len
  by_cases hbig : 65536 < l.length
  · obtain rfl : R = ([], 13) := by rw [HR.out]; unfold writeS; rw [if_pos (by simpa using hbig)]
    go_enter Try.func32, Try.ntmps32
    go_wp2_with fail
    go_ret2
    exact ⟨none, 0, [], rfl, rfl, Rd.nil, Nat.le_refl _, by simp [maxLen], Below.refl _ _⟩
  · have hW0 := PW.mk (W1 := w.alloc (.cells #[.slice none 0 0] 113)) (pb := w.heap.size) (P := []) (w := w.alloc (.cells #[.slice none 0 0] 113)) ⟨_, Pen.new w⟩ (Fr.refl _ _)
    have hWs : (w.alloc (.cells #[.slice none 0 0] 113)).heap.size = w.heap.size + 1 := World.size_alloc _ _
    have hWb : Below w.heap.size w (w.alloc (.cells #[.slice none 0 0] 113)) := (by repeat (first | exact Below.refl _ _ | refine Below.alloc ?_ (by simp) _ | refine Below.setCell ?_ (by simp) _ | refine Below.drew ?_))
    have hn64 : IntKind.u64.wrap (l.length : Int) = (l.length : Int) := u64_wrap (by omega)
    go_enter Try.func32, Try.ntmps32
    go_wp2_with fail
    generalize w.alloc (.cells #[.slice none 0 0] 113) = W1 at *
    refine (pw_num hW0 hWs hWs.symm [l.length] rfl rfl (by simp; omega) (by simp)).mono ?_
    rintro e w1 ⟨rfl, h1, _⟩
    rw [List.nil_append, List.flatMap_cons, List.flatMap_nil, List.append_nil] at h1
    go_wp2_with fail
    go_loopw [22] (fun iv wr => ∃ (i : Nat) (P : List UInt8), i ≤ l.length ∧ iv = .int .i64 (i : Int) ∧ PW W1 w.heap.size P wr ∧ Hid (P = numB l.length ++ ((l.take i).map AV.a).flatMap actB) ∧ Hid (((l.take i).map AV.a).all rightA = true) ∧ P.length ≤ 9 + i * 6000) (fun iv _ => l.length - (intOf iv).toNat)
    case atStart => exact ⟨0, _, Nat.zero_le _, rfl, h1, by show _ = _; simp, rfl, by have := numB_len l.length; omega⟩
    case round =>
      obtain ⟨i, P, hi, rfl, hP, hPe, hall, hPl⟩ := hrel
      have hbw : Below w.heap.size w wr := hWb.trans (hP.fr.below (by omega) (fun k hk e => by omega))
      have hsz := hP.fr.size
      by_cases hlt : i < l.length
      · obtain ⟨b, off, rfl, _, hbl, p⟩ := av_at (h.below hbw).rd hlt
        have hv := (h.below hbw).ok _ (List.getElem_mem hlt)
        have hcp := hcap _ (List.getElem_mem hlt)
        have hv0 := h.ok _ (List.getElem_mem hlt)
        have hall2 : Hid (((l.take (i + 1)).map AV.a).all rightA = rightA l[i].a) := by
          show _ = _
          rw [List.take_succ_eq_append_getElem hlt, List.map_append, List.all_append, hall.out]
          simp
        have hbad : Hid (rightA l[i].a = false → R = ([], 2)) := fun e => by
          rw [HR.out]
          unfold writeS
          rw [if_neg (by simpa using hbig), if_neg]
          rw [Bool.not_eq_true]
          exact List.all_eq_false.2 ⟨l[i].a, List.mem_map_of_mem (List.getElem_mem hlt), by rw [e]; simp⟩
        have hPn : Hid (numB l.length ++ ((l.take (i + 1)).map AV.a).flatMap actB = P ++ actB l[i].a) := by
          show _ = _
          rw [hPe.out, List.take_succ_eq_append_getElem hlt, List.map_append, List.flatMap_append, List.append_assoc]
          simp
        generalize l[i] = v at *
        have HCK := Lib.hid (check_any v _ (wr.alloc (.cells #[.int .i64 v.a.k, .int .i64 v.a.s, .int .i64 v.a.n, .int .i64 v.a.b, .int .u32 v.a.m, .int .i64 v.a.ek, .string v.a.p, .string v.a.t, .slice v.xA v.a.x.length v.xc, .slice v.kA v.a.kl.length v.kc, .slice v.cA v.a.cl.length v.cc] 57)) (hv.below (by repeat (first | exact Below.refl _ _ | refine Below.alloc ?_ (by simp) _ | refine Below.setCell ?_ (by simp) _ | refine Below.drew ?_))))
        cases hr : rightA v.a
        · obtain rfl := hbad.out hr
          rw [hr] at HCK
          obtain ⟨p0, p1, p2, p3, p4, p5, p6, p7, p8, p9, p10⟩ := p
          have bl : Below wr.heap.size wr (wr.alloc (.cells #[.int .i64 v.a.k, .int .i64 v.a.s, .int .i64 v.a.n, .int .i64 v.a.b, .int .u32 v.a.m, .int .i64 v.a.ek, .string v.a.p, .string v.a.t, .slice v.xA v.a.x.length v.xc, .slice v.kA v.a.kl.length v.kc, .slice v.cA v.a.cl.length v.cc] 57)) := (by repeat (first | exact Below.refl _ _ | refine Below.alloc ?_ (by simp) _ | refine Below.setCell ?_ (by simp) _ | refine Below.drew ?_))
          clear hbad hall2 hPn hPe hall
          go_wp2_with fail
          refine HCK.out.mono ?_
          rintro e w2 ⟨rfl, hb2⟩
          go_wp2_with fail
          go_ret2
          have hs2 := bl.size
          exact ⟨none, 0, [], rfl, rfl, Rd.nil, Nat.le_refl _, by simp [maxLen], (hbw.trans (bl.mono (by omega))).trans (hb2.mono (by omega))⟩
        · clear hbad
          rw [hr] at HCK hall2
          have hfit := hv.fit
          obtain ⟨hvx, hvk, hvc, _⟩ := hv0
          clear hv
          have hrp := right_parts hr
          obtain ⟨⟨ak, as_, an, ab_, am, aek, ⟨⟨pl⟩⟩, ⟨⟨tl_⟩⟩, x, kl, cl⟩, xA, xc, kA, kc, cA, cc⟩ := v
          have hm := hfit.m
          have hcx : x.length ≤ 4096 := hrp.2.2.2.2.2.2.1.2.2.2
          dsimp only at hvx hvk hvc hrp hm HCK hPn p hcp
          clear hfit hr
          obtain ⟨h1_, h2_, h3_, h4_, h5_, h6_, ⟨h7_, h8_, h9_, _⟩, hkf, hcf⟩ := hrp
          obtain ⟨k0, rfl⟩ : ∃ k : Nat, ak = k := ⟨ak.toNat, by omega⟩
          obtain ⟨k1, rfl⟩ : ∃ k : Nat, as_ = k := ⟨as_.toNat, by omega⟩
          obtain ⟨k2, rfl⟩ : ∃ k : Nat, an = (k : Int) - 1 := ⟨(an + 1).toNat, by omega⟩
          obtain ⟨k3, rfl⟩ : ∃ k : Nat, ab_ = (k : Int) - 1 := ⟨(ab_ + 1).toNat, by omega⟩
          obtain ⟨k4, rfl⟩ : ∃ k : Nat, am = k := ⟨am.toNat, by omega⟩
          obtain ⟨k5, rfl⟩ : ∃ k : Nat, aek = k := ⟨aek.toNat, by omega⟩
          replace h8_ : pl.length ≤ 96 := h8_
          replace h9_ : tl_.length ≤ 96 := h9_
          have hPm : Hid (numB l.length ++ ((l.take (i + 1)).map AV.a).flatMap actB = P ++ ([k0, k1, k2, k3, k4, k5].flatMap numB ++ (textB pl ++ (textB tl_ ++ (textB x ++ (numB kl.length ++ (kl.flatMap keepB ++ (numB cl.length ++ cl.flatMap choB)))))))) := by
            show _ = _
            rw [hPn.out]
            unfold actB
            simp only [Int.toNat_natCast, Int.sub_add_cancel]
          clear hPn
          obtain ⟨p0, p1, p2, p3, p4, p5, p6, p7, p8, p9, p10⟩ := p
          have bl : Below wr.heap.size wr (wr.alloc (.cells #[.int .i64 (k0 : Int), .int .i64 (k1 : Int), .int .i64 ((k2 : Int) - 1), .int .i64 ((k3 : Int) - 1), .int .u32 (k4 : Int), .int .i64 (k5 : Int), .string ⟨⟨pl⟩⟩, .string ⟨⟨tl_⟩⟩, .slice xA x.length xc, .slice kA kl.length kc, .slice cA cl.length cc] 57)) := (by repeat (first | exact Below.refl _ _ | refine Below.alloc ?_ (by simp) _ | refine Below.setCell ?_ (by simp) _ | refine Below.drew ?_))
          have x1 := Blk.new wr 57 #[.int .i64 (k0 : Int), .int .i64 (k1 : Int), .int .i64 ((k2 : Int) - 1), .int .i64 ((k3 : Int) - 1), .int .u32 (k4 : Int), .int .i64 (k5 : Int), .string ⟨⟨pl⟩⟩, .string ⟨⟨tl_⟩⟩, .slice xA x.length xc, .slice kA kl.length kc, .slice cA cl.length cc]
          go_wp2_with fail
          refine HCK.out.mono ?_
          rintro e w2 ⟨rfl, hb2⟩
          have bl2 := bl.trans (hb2.mono bl.size)
          have x2 := x1.below hb2
          have P2 := hP.below bl2
          have s2 := bl2.size
          have x2l := x2.lt
          have r0 : w2.cell? ⟨wr.heap.size, 0, none⟩ = some (.int .i64 (k0 : Int)) := x2.cell 0
          have r1 : w2.cell? ⟨wr.heap.size, 1, none⟩ = some (.int .i64 (k1 : Int)) := x2.cell 1
          have r2 : w2.cell? ⟨wr.heap.size, 2, none⟩ = some (.int .i64 ((k2 : Int) - 1)) := x2.cell 2
          have r3 : w2.cell? ⟨wr.heap.size, 3, none⟩ = some (.int .i64 ((k3 : Int) - 1)) := x2.cell 3
          have r4 : w2.cell? ⟨wr.heap.size, 4, none⟩ = some (.int .u32 (k4 : Int)) := x2.cell 4
          have r5 : w2.cell? ⟨wr.heap.size, 5, none⟩ = some (.int .i64 (k5 : Int)) := x2.cell 5
          have r6 : w2.cell? ⟨wr.heap.size, 6, none⟩ = some (.string ⟨⟨pl⟩⟩) := x2.cell 6
          have r7 : w2.cell? ⟨wr.heap.size, 7, none⟩ = some (.string ⟨⟨tl_⟩⟩) := x2.cell 7
          have r8 : w2.cell? ⟨wr.heap.size, 8, none⟩ = some (.slice xA x.length xc) := x2.cell 8
          have r9 : w2.cell? ⟨wr.heap.size, 9, none⟩ = some (.slice kA kl.length kc) := x2.cell 9
          have r10 : w2.cell? ⟨wr.heap.size, 10, none⟩ = some (.slice cA cl.length cc) := x2.cell 10
          clear p0 p1 p2 p3 p4 p5 p6 p7 p8 p9 p10 x1 HCK hb2
          go_wp2_with fail
          refine (pw_num P2 hWs rfl [k0, k1, k2, k3, k4, k5] rfl rfl (by simp; omega) (by simp; omega)).mono ?_
          rintro e w3 ⟨rfl, P3, K3⟩
          have x3 := K3 _ _ _ x2 (by decide) (by omega)
          have s3 := P3.fr.size
          have x3l := x3.lt
          have l3 : (P ++ [k0, k1, k2, k3, k4, k5].flatMap numB).length ≤ 9 + i * 6000 + 54 := by
            have := flat9 [k0, k1, k2, k3, k4, k5]
            simp only [List.length_append, List.length_cons, List.length_nil] at this ⊢
            omega
          have b3 : Below w.heap.size w w3 := hWb.trans (P3.fr.below (by omega) (fun k hk e => by omega))
          have hmx : maxLen = 9223372036854775807 := rfl
          obtain ⟨cp, V1, hcv1, hby1, hcp1, hcp2, hlow1, hs1⟩ := conv_str w3 pl (by rw [hmx]; omega)
          obtain ⟨ct, V2, hcv2, hby2, hct1, hct2, hlow2, hs2⟩ := conv_str V1 tl_ (by rw [hmx]; omega)
          have HS1 := Lib.hid hs1
          have HS2 := Lib.hid hs2
          clear hs1 hs2
          have hlow : Below w3.heap.size w3 V2 := hlow1.trans (hlow2.mono hlow1.size)
          have x3a := x3.below hlow1
          have x3b := x3a.below hlow2
          have r6 : w3.cell? ⟨wr.heap.size, 6, none⟩ = some (.string ⟨⟨pl⟩⟩) := x3.cell 6
          have r7 : V1.cell? ⟨wr.heap.size, 7, none⟩ = some (.string ⟨⟨tl_⟩⟩) := x3a.cell 7
          have r8 : V2.cell? ⟨wr.heap.size, 8, none⟩ = some (.slice xA x.length xc) := x3b.cell 8
          clear hmx r0 r1 r2 r3 r4 r5 r9 r10 K3
          go_wp2_with fail
          clear hcv1 hcv2
          refine (pw_text P3 hWs hlow rfl [⟨some ⟨w3.heap.size, 0, none⟩, cp, pl⟩, ⟨some ⟨V1.heap.size, 0, none⟩, ct, tl_⟩, ⟨xA, xc, x⟩] rfl rfl ?_ ?_).mono ?_
          · intro y hy
            simp only [List.mem_cons, List.not_mem_nil, or_false] at hy
            rcases hy with rfl | rfl | rfl
            · exact BV.ok.mono (BV.ok.below (w := V1) ⟨hby1, hcp1, hcp2⟩ hlow2) (fun b _ hb => .inr (by omega))
            · exact BV.ok.mono (w := V2) ⟨hby2, hct1, hct2⟩ (fun b _ hb => .inr (by have := HS1.out; omega))
            · exact BV.ok.mono (w := V2) ⟨(hvx.below b3).below hlow, hcp⟩ (fun b _ hb => .inl hb)
          · simp only [wide, List.map_cons, List.map_nil, List.sum_cons, List.sum_nil]; omega
          rintro e w4 ⟨rfl, P4, K4⟩
          have x4 := K4 _ _ _ x3 (by decide) (by omega)
          have s4 := P4.fr.size
          have x4l := x4.lt
          have t1 := textB_len pl
          have t2 := textB_len tl_
          have t3 := textB_len x
          have l4 : (P ++ [k0, k1, k2, k3, k4, k5].flatMap numB ++ [(⟨some ⟨w3.heap.size, 0, none⟩, cp, pl⟩ : BV), ⟨some ⟨V1.heap.size, 0, none⟩, ct, tl_⟩, ⟨xA, xc, x⟩].flatMap fun x => textB x.l).length ≤ 9 + i * 6000 + 54 + 4315 := by
            rw [List.length_append]
            simp only [List.flatMap_cons, List.flatMap_nil, List.length_append, List.length_nil] at l3 ⊢
            omega
          have HQ0 : Hid ((P ++ [k0, k1, k2, k3, k4, k5].flatMap numB ++ [(⟨some ⟨w3.heap.size, 0, none⟩, cp, pl⟩ : BV), ⟨some ⟨V1.heap.size, 0, none⟩, ct, tl_⟩, ⟨xA, xc, x⟩].flatMap fun x => textB x.l) ++ (numB kl.length ++ (kl.flatMap keepB ++ (numB cl.length ++ cl.flatMap choB))) = numB l.length ++ ((l.take (i + 1)).map AV.a).flatMap actB) := by
            show _ = _
            rw [hPm.out]
            simp only [List.flatMap_cons, List.flatMap_nil, List.append_nil, List.append_assoc]
          clear hPm l3 t1 t2 t3 hby1 hby2 x3a x3b x3 P3 r6 r7 r8 x2 P2 K4 hlow1 hlow2 hlow
          generalize P ++ [k0, k1, k2, k3, k4, k5].flatMap numB ++ ([(⟨some ⟨w3.heap.size, 0, none⟩, cp, pl⟩ : BV), ⟨some ⟨V1.heap.size, 0, none⟩, ct, tl_⟩, ⟨xA, xc, x⟩].flatMap fun x => textB x.l) = Q0 at *
          have r9 : w4.cell? ⟨wr.heap.size, 9, none⟩ = some (.slice kA kl.length kc) := x4.cell 9
          go_wp2_with fail
          refine (pw_num P4 hWs rfl [kl.length] rfl rfl (by simp; omega) (by simp; omega)).mono ?_
          rintro e w5 ⟨rfl, P5, K5⟩
          have x5 := K5 _ _ _ x4 (by decide) (by omega)
          have s5 := P5.fr.size
          have nk := numB_len kl.length
          have r9' : w5.cell? ⟨wr.heap.size, 9, none⟩ = some (.slice kA kl.length kc) := x5.cell 9
          clear r9 K5 x4 P4
          go_wp2_with fail
          go_loopw [76] (fun jv wk => ∃ (j : Nat) (Q : List UInt8), j ≤ kl.length ∧ jv = .int .i64 (j : Int) ∧ PW W1 w.heap.size Q wk ∧ Hid (Q = Q0 ++ numB kl.length ++ (kl.take j).flatMap keepB) ∧ Blk wk wr.heap.size 57 #[.int .i64 (k0 : Int), .int .i64 (k1 : Int), .int .i64 ((k2 : Int) - 1), .int .i64 ((k3 : Int) - 1), .int .u32 (k4 : Int), .int .i64 (k5 : Int), .string ⟨⟨pl⟩⟩, .string ⟨⟨tl_⟩⟩, .slice xA x.length xc, .slice kA kl.length kc, .slice cA cl.length cc] ∧ Q.length ≤ 9 + i * 6000 + 54 + 4315 + 9 + j * 18) (fun jv _ => kl.length - (intOf jv).toNat)
          case atStart => exact ⟨0, _, Nat.zero_le _, rfl, P5, by show _ = _; simp, x5, by simp; omega⟩
          case round =>
            obtain ⟨j, Q, hj, rfl, PQ, hQ, xQ, lQ⟩ := hrel
            obtain ⟨wk, rfl⟩ : ∃ wk : World, wk = wr := ⟨_, rfl⟩
            have sQ := PQ.fr.size
            have xQl := xQ.lt
            have bk : Below w.heap.size w wk := hWb.trans (PQ.fr.below (by omega) (fun k hk e => by omega))
            by_cases hjl : j < kl.length
            · obtain ⟨g, o, rfl, _, _, f0, f1⟩ := kv_at (hvk.below bk) hjl
              have hz := hkf _ (List.getElem_mem hjl)
              have hQn := flat_take (f := keepB) hjl hQ.out
              have HQn := Lib.hid hQn
              clear hQn
              generalize kl[j] = z at *
              obtain ⟨zf, zb⟩ := z
              dsimp only at hz f0 f1
              obtain ⟨a0, rfl⟩ : ∃ k : Nat, zf = k := ⟨zf.toNat, by omega⟩
              obtain ⟨a1, rfl⟩ : ∃ k : Nat, zb = k := ⟨zb.toNat, by omega⟩
              have bC : Below wk.heap.size wk (wk.alloc (.cells #[.int .i64 (a0 : Int), .int .i64 (a1 : Int)] 91)) := (by repeat (first | exact Below.refl _ _ | refine Below.alloc ?_ (by simp) _ | refine Below.setCell ?_ (by simp) _ | refine Below.drew ?_))
              go_wp2_with fail
              refine (pw_num (PQ.below bC) hWs (by simp) [a0, a1] rfl rfl (by simp; omega) (by simp; omega)).mono ?_
              rintro e w6 ⟨rfl, P6, K6⟩
              have x6 := K6 _ _ _ (xQ.below bC) (by decide) (by omega)
              have n0 := numB_len a0
              have n1 := numB_len a1
              go_wp2_with fail
              go_roundw
              case rel => exact ⟨j + 1, _, hjl, by go_num, P6, by show _ = _; rw [← HQn.out]; unfold keepB; simp, x6, by simp; omega⟩
              case measure => simp [intOf]; omega
            · have ej : j = kl.length := by omega
              subst ej
              have hQ1 : Hid (Q = Q0 ++ numB kl.length ++ kl.flatMap keepB) := by
                show _ = _
                rw [hQ.out, List.take_length]
              clear hQ
              have r10 : wk.cell? ⟨wr.heap.size, 10, none⟩ = some (.slice cA cl.length cc) := xQ.cell 10
              go_wp2_with fail
              refine (pw_num PQ hWs rfl [cl.length] rfl rfl (by simp; omega) (by simp; omega)).mono ?_
              rintro e w6 ⟨rfl, P6, K6⟩
              have x6 := K6 _ _ _ xQ (by decide) (by omega)
              have s6 := P6.fr.size
              have nc := numB_len cl.length
              have r10' : w6.cell? ⟨wr.heap.size, 10, none⟩ = some (.slice cA cl.length cc) := x6.cell 10
              clear r10 K6
              go_wp2_with fail
              go_loopw [98] (fun jv wm => ∃ (j : Nat) (Q2 : List UInt8), j ≤ cl.length ∧ jv = .int .i64 (j : Int) ∧ PW W1 w.heap.size Q2 wm ∧ Hid (Q2 = Q ++ numB cl.length ++ (cl.take j).flatMap choB) ∧ Q2.length ≤ 9 + i * 6000 + 54 + 4315 + 9 + 144 + 9 + j * 114) (fun jv _ => cl.length - (intOf jv).toNat)
              case atStart => exact ⟨0, _, Nat.zero_le _, rfl, P6, by show _ = _; simp, by simp; omega⟩
              case round =>
                obtain ⟨j, Q2, hj, rfl, PR, hR2, lR⟩ := hrel
                obtain ⟨wm, rfl⟩ : ∃ wm : World, wm = wr := ⟨_, rfl⟩
                have sR := PR.fr.size
                have bm : Below w.heap.size w wm := hWb.trans (PR.fr.below (by omega) (fun k hk e => by omega))
                by_cases hjl : j < cl.length
                · obtain ⟨g, o, rfl, _, _, f0, f1⟩ := hw_at (hvc.below bm) hjl
                  have hz := hcf _ (List.getElem_mem hjl)
                  have hQn := flat_take (f := choB) hjl hR2.out
                  have HQn := Lib.hid hQn
                  clear hQn
                  generalize cl[j] = z at *
                  obtain ⟨⟨⟨zp⟩⟩, zw⟩ := z
                  dsimp only at hz f0 f1
                  have hz1 : zp.length ≤ 96 := hz.1
                  obtain ⟨a1, rfl⟩ : ∃ k : Nat, zw = k := ⟨zw.toNat, by omega⟩
                  have bC : Below wm.heap.size wm (wm.alloc (.cells #[.string ⟨⟨zp⟩⟩, .int .i64 (a1 : Int)] 95)) := (by repeat (first | exact Below.refl _ _ | refine Below.alloc ?_ (by simp) _ | refine Below.setCell ?_ (by simp) _ | refine Below.drew ?_))
                  have sC : (wm.alloc (.cells #[.string ⟨⟨zp⟩⟩, .int .i64 (a1 : Int)] 95)).heap.size = wm.heap.size + 1 := World.size_alloc _ _
                  have cC := Blk.new wm 95 #[.string ⟨⟨zp⟩⟩, .int .i64 (a1 : Int)]
                  have hmx : maxLen = 9223372036854775807 := rfl
                  obtain ⟨cp_, V1, hcv1, hby1, hcp1, hcp2, hlow1, hs1⟩ := conv_str (wm.alloc (.cells #[.string ⟨⟨zp⟩⟩, .int .i64 (a1 : Int)] 95)) zp (by rw [hmx]; omega)
                  have HS1 := Lib.hid hs1
                  have hlow : Below wm.heap.size wm V1 := bC.trans (hlow1.mono bC.size)
                  have cV := cC.below hlow1
                  clear hmx hs1
                  rw [sC] at hcv1 hby1
                  go_wp2_with fail
                  clear hcv1
                  refine (pw_text (PR.below bC) hWs hlow1 rfl [⟨some ⟨wm.heap.size + 1, 0, none⟩, cp_, zp⟩] rfl rfl ?_ ?_).mono ?_
                  · intro y hy
                    obtain rfl := List.mem_singleton.1 hy
                    exact BV.ok.mono (w := V1) ⟨hby1, hcp1, hcp2⟩ (fun b _ hb => .inr (by rw [sC]; (try simp at hb); omega))
                  · simp only [wide, List.map_cons, List.map_nil, List.sum_cons, List.sum_nil]; omega
                  rintro e w7 ⟨rfl, P7, K7⟩
                  have c7 := K7 _ _ _ cC (by decide) (by omega)
                  have g1 : w7.cell? ⟨wm.heap.size, 1, none⟩ = some (.int .i64 (a1 : Int)) := c7.cell 1
                  have t1 := textB_len zp
                  have n1 := numB_len a1
                  clear cV cC hlow hlow1 hby1 K7
                  go_wp2_with fail
                  refine (pw_num P7 hWs rfl [a1] rfl rfl (by simp; omega) (by simp only [List.flatMap_cons, List.flatMap_nil, List.append_nil, List.length_append, List.length_cons, List.length_nil]; omega)).mono ?_
                  rintro e w8 ⟨rfl, P8, _⟩
                  go_wp2_with fail
                  go_roundw
                  case rel => exact ⟨j + 1, _, hjl, by go_num, P8, by show _ = _; rw [← HQn.out]; unfold choB; simp, by simp only [List.flatMap_cons, List.flatMap_nil, List.append_nil, List.length_append]; omega⟩
                  case measure => simp [intOf]; omega
                · have ej : j = cl.length := by omega
                  subst ej
                  have hfinal : Hid (Q2 = numB l.length ++ ((l.take (i + 1)).map AV.a).flatMap actB) := by
                    show _ = _
                    rw [hR2.out, List.take_length, hQ1.out, ← HQ0.out]
                    simp only [List.append_assoc]
                  clear hR2 hQ1 HQ0
                  go_wp2_with fail
                  go_roundw
                  case rel => exact ⟨i + 1, Q2, hlt, by go_num, PR, hfinal, hall2, by omega⟩
                  case measure => simp [intOf]; omega
      · have e : i = l.length := by omega
        subst e
        have hRe : R = (P, 0) := by
          have q1 := hall.out
          have q2 := hPe.out
          rw [List.take_length] at q1 q2
          rw [HR.out]
          unfold writeS
          rw [if_neg (by simpa using hbig), if_pos q1, q2, List.length_map]
        obtain rfl := hRe
        obtain ⟨vv, hpen⟩ := hP.pen
        clear hPe hall
        go_wp2_with fail
        refine (Bytes_any w.heap.size w.heap.size vv P wr hpen (by omega)).mono ?_
        rintro e w9 ⟨B, d, b, rfl, hb, ho, hb9⟩
        go_wp2_with fail
        go_ret2
        obtain ⟨B', d', e2, q1, q2, q3⟩ := ho.form
        obtain ⟨rfl, rfl⟩ : B = B' ∧ d = d' := by simpa using e2
        exact ⟨B, d, b, rfl, hb, ho.rd.mono (fun b _ hb => by have := (own_ablk ho b hb).1; omega), q1, q2, hbw.trans (hb9.mono (by omega))⟩

end Go.Proofs.Ytpbgcbpofhbgbaa

/- What is read of bytes has just these bytes. -/
namespace Go.Proofs.Ytpbgcbpofhbgbaa
open Go.RowKit

theorem read_back {l L : List UInt8} {f : Int} {n m : Nat} (h : readS l f m = (n, L, 0)) : f = 0 ∧ l = numB n ++ L ∧ n ≤ m := by
  by_cases hf : f = 0
  · subst hf
    obtain ⟨h1, _, k, _, _, _, h2, h3⟩ := readS_once h
    exact ⟨rfl, by rw [← h2, h3, List.take_append_drop], h1⟩
  · rw [readS_bad hf] at h
    simp at h
    exact absurd h.2.2 hf
theorem int_back {l L : List UInt8} {f : Int} {n m : Nat} (h : intS l f (m : Int) = (n, L, 0)) : f = 0 ∧ l = numB n ++ L ∧ n ≤ m := by
  unfold intS at h
  rw [if_pos (by omega), Int.toNat_natCast] at h
  exact read_back h
theorem text_back {l L t : List UInt8} {f : Int} {m : Nat} (h : textS l f (m : Int) = (t, L, 0)) : f = 0 ∧ l = textB t ++ L ∧ t.length ≤ m := by
  unfold textS at h
  obtain ⟨n, K, g, e⟩ : ∃ n K g, intS l f (m : Int) = (n, K, g) := ⟨_, _, _, rfl⟩
  rw [e] at h
  dsimp only at h
  split at h
  · rename_i hg
    simp at h
    exact absurd h.2.2 hg
  · rename_i hg
    obtain rfl : g = 0 := by simpa using hg
    split at h
    · simp at h
    · rename_i hk
      simp only [Prod.mk.injEq] at h
      obtain ⟨rfl, rfl, _⟩ := h
      obtain ⟨h1, h2, h3⟩ := int_back e
      have hl : (K.take n).length = n := by rw [List.length_take]; omega
      refine ⟨h1, ?_, by omega⟩
      unfold textB
      rw [hl, List.append_assoc, List.take_append_drop, h2]
theorem keep_back {l L : List UInt8} {f : Int} {x : KV} (h : keepS l f = (x, L, 0)) : f = 0 ∧ l = keepB x ++ L ∧ goodK x = true := by
  obtain ⟨n1, L1, f1, e1⟩ : ∃ n L g, intS l f 1048576 = (n, L, g) := ⟨_, _, _, rfl⟩
  obtain ⟨n2, L2, f2, e2⟩ : ∃ n L g, intS L1 f1 1048576 = (n, L, g) := ⟨_, _, _, rfl⟩
  unfold keepS at h
  rw [e1] at h
  dsimp only at h
  rw [e2] at h
  simp only [Prod.mk.injEq] at h
  obtain ⟨rfl, rfl, rfl⟩ := h
  obtain ⟨rfl, h1, h2⟩ := int_back (m := 1048576) e2
  obtain ⟨rfl, h3, h4⟩ := int_back (m := 1048576) e1
  refine ⟨rfl, ?_, ?_⟩
  · rw [h3, h1]
    unfold keepB
    simp
  · simp [goodK, inB]
    omega
theorem cho_back {l L : List UInt8} {f : Int} {x : HW} (h : choS l f = (x, L, 0)) : f = 0 ∧ l = choB x ++ L ∧ goodC x = true := by
  obtain ⟨n1, L1, f1, e1⟩ : ∃ n L g, textS l f 96 = (n, L, g) := ⟨_, _, _, rfl⟩
  obtain ⟨n2, L2, f2, e2⟩ : ∃ n L g, intS L1 f1 2 = (n, L, g) := ⟨_, _, _, rfl⟩
  unfold choS at h
  rw [e1] at h
  dsimp only at h
  rw [e2] at h
  simp only [Prod.mk.injEq] at h
  obtain ⟨rfl, rfl, rfl⟩ := h
  obtain ⟨rfl, h1, h2⟩ := int_back (m := 2) e2
  obtain ⟨rfl, h3, h4⟩ := text_back (m := 96) e1
  refine ⟨rfl, ?_, ?_⟩
  · rw [h3, h1]
    unfold choB
    simp
  · have hs : (⟨n1.toArray⟩ : ByteArray).size = n1.length := by show n1.toArray.size = _; simp
    simp only [goodC, inB, hs, Bool.and_eq_true, decide_eq_true_eq]
    omega
theorem listN_back {α : Type} {one : List UInt8 → Int → α × List UInt8 × Int} {B : α → List UInt8} {G : α → Bool} (h1 : ∀ {l L f x}, one l f = (x, L, 0) → f = 0 ∧ l = B x ++ L ∧ G x = true) :
    ∀ (n : Nat) {l L : List UInt8} {f : Int} {s : List α}, listN one n l f = (s, L, 0) → f = 0 ∧ s.length = n ∧ l = s.flatMap B ++ L ∧ s.all G = true
  | 0, l, L, f, s, h => by
    simp only [listN, Prod.mk.injEq] at h
    obtain ⟨rfl, rfl, rfl⟩ := h
    exact ⟨rfl, rfl, by simp, rfl⟩
  | n + 1, l, L, f, s, h => by
    by_cases hf : f = 0
    · subst hf
      rw [listN_ok] at h
      obtain ⟨x, L1, f1, e1⟩ : ∃ x L g, one l 0 = (x, L, g) := ⟨_, _, _, rfl⟩
      obtain ⟨t, L2, f2, e2⟩ : ∃ t L g, listN one n L1 f1 = (t, L, g) := ⟨_, _, _, rfl⟩
      rw [e1] at h
      dsimp only at h
      rw [e2] at h
      simp only [Prod.mk.injEq] at h
      obtain ⟨rfl, rfl, rfl⟩ := h
      obtain ⟨rfl, q1, q2, q3⟩ := listN_back h1 n e2
      obtain ⟨_, q4, q5⟩ := h1 e1
      exact ⟨rfl, by simp [q1], by rw [q4, q2]; simp, by simp [q3, q5]⟩
    · rw [listN_bad hf] at h
      simp at h
      exact absurd h.2.2 hf
theorem list_back {α : Type} {one : List UInt8 → Int → α × List UInt8 × Int} {B : α → List UInt8} {G : α → Bool} (h1 : ∀ {l L f x}, one l f = (x, L, 0) → f = 0 ∧ l = B x ++ L ∧ G x = true) {l L : List UInt8} {f : Int} {s : List α} (h : listS one l f = (s, L, 0)) :
    f = 0 ∧ s.length ≤ 8 ∧ l = numB s.length ++ (s.flatMap B ++ L) ∧ s.all G = true := by
  unfold listS at h
  obtain ⟨n, K, g, e⟩ : ∃ n K g, intS l f 8 = (n, K, g) := ⟨_, _, _, rfl⟩
  rw [e] at h
  dsimp only at h
  obtain ⟨rfl, q1, q2, q3⟩ := listN_back h1 n h
  obtain ⟨rfl, q4, q5⟩ := int_back (m := 8) e
  exact ⟨rfl, by omega, by rw [q4, q1, q2], q3⟩
theorem RdA.back {l L : List UInt8} {f : Int} {a : AS} (h : RdA l f a L 0) : f = 0 ∧ l = actB a ++ L ∧ rightA a = true := by
  obtain ⟨a0, a1, a2, a3, a4, a5, a6, a7, a8, a9, a10, L0, M0, L1, L2, L3, L4, L5, L6, L7, L8, L9, f0, g0, f1, f2, f3, f4, f5, f6, f7, f8, f9, h0, hg, h1, h2, h3, h4, h5, h6, h7, h8, h9, h10, rfl⟩ := h
  obtain ⟨rfl, c1, c2, c3⟩ := list_back (B := choB) (G := goodC) cho_back h10
  obtain ⟨rfl, k1, k2, k3⟩ := list_back (B := keepB) (G := goodK) keep_back h9
  obtain ⟨rfl, x1, x2⟩ := text_back (m := 4096) h8
  obtain ⟨rfl, t1, t2⟩ := text_back (m := 96) h7
  obtain ⟨rfl, p1, p2⟩ := text_back (m := 96) h6
  obtain ⟨rfl, e1, e2⟩ := int_back (m := 5) h5
  obtain ⟨rfl, m1, m2⟩ := read_back h4
  obtain ⟨rfl, b1, b2⟩ := int_back (m := 1048577) h3
  obtain ⟨rfl, n1, n2⟩ := int_back (m := 1048577) h2
  obtain ⟨rfl, s1, s2⟩ := int_back (m := 2) h1
  have hk : a0 ≠ 0 := by
    intro e
    rw [if_pos e] at hg
    unfold failS at hg
    split at hg
    · simp at hg
    · rename_i hf
      simp at hg
      exact hf ⟨hg.2, by omega⟩
  rw [if_neg hk] at hg
  simp only [Prod.mk.injEq] at hg
  obtain ⟨rfl, rfl⟩ := hg
  obtain ⟨rfl, k4, k5⟩ := int_back (m := 12) h0
  have z1 : (⟨a6.toArray⟩ : ByteArray).size = a6.length := by show a6.toArray.size = _; simp
  have z2 : (⟨a7.toArray⟩ : ByteArray).size = a7.length := by show a7.toArray.size = _; simp
  refine ⟨rfl, ?_, ?_⟩
  · rw [k4, s1, n1, b1, m1, e1, p1, t1, x1, k2, c2]
    unfold actB
    simp
  · simp only [rightA, editB, inB, z1, z2, k3, c3, Bool.and_eq_true, decide_eq_true_eq]
    refine ⟨by omega, by omega, by omega, by omega, by omega, by omega, ⟨by omega, by omega, by omega, by omega⟩, trivial, trivial⟩
theorem RdN.back {n : Nat} {l L : List UInt8} {f g : Int} {s : List AS} (h : RdN n l f s L g) : g = 0 → f = 0 ∧ s.length = n ∧ l = s.flatMap actB ++ L ∧ s.all rightA = true := by
  induction h with
  | zero => intro e; exact ⟨e, rfl, by simp, rfl⟩
  | bad hf => intro e; exact absurd e hf
  | step ha _ ih =>
    intro e
    obtain ⟨rfl, h1, h2, h3⟩ := ih e
    obtain ⟨_, h4, h5⟩ := ha.back
    exact ⟨rfl, by simp [h1], by rw [h4, h2]; simp, by simp [h3, h5]⟩
theorem RdP.back {l : List UInt8} {s : List AS} (h : RdP l s 0) : writeS s = (l, 0) := by
  obtain ⟨n, L, L', f, f', t, h1, h2, h3, h4⟩ := h
  rw [if_neg (by simp)] at h4
  subst h4
  have hc : f' = 0 ∧ L' = [] := by
    unfold closeS at h3
    split at h3
    · rename_i hf; exact absurd h3.symm hf
    · rename_i hf
      split at h3
      · simp at h3
      · rename_i hl
        exact ⟨by simpa using hf, List.eq_nil_of_length_eq_zero (by omega)⟩
  obtain ⟨rfl, rfl⟩ := hc
  obtain ⟨rfl, q1, q2, q3⟩ := h2.back rfl
  obtain ⟨_, q4, q5⟩ := int_back (m := 65536) h1
  unfold writeS
  rw [if_neg (by omega), if_pos q3, q4, q2, q1, List.append_nil]
end Go.Proofs.Ytpbgcbpofhbgbaa

/- What was written is read as it was: the plain law. -/
namespace Go.Proofs.Ytpbgcbpofhbgbaa
open Go.RowKit

theorem val_digs : ∀ (k n : Nat), k ≤ 8 → n < 256 ^ k → val (digs n) = n ∧ (0 < n → (digs n).getD 0 0 ≠ 0 ∧ 0 < (digs n).length)
  | 0, n, _, h => by
    have : n = 0 := by simpa using h
    subst this
    rw [digs_zero]
    exact ⟨rfl, fun h => absurd h (by omega)⟩
  | k + 1, n, hk, h => by
    rcases Nat.eq_zero_or_pos n with h0 | h0
    · subst h0
      rw [digs_zero]
      exact ⟨rfl, fun h => absurd h (by omega)⟩
    · have h64 : n < 18446744073709551616 := Nat.lt_of_lt_of_le h (pow_le8 hk)
      have h' : n / 256 < 256 ^ k := by
        rw [Nat.div_lt_iff_lt_mul (by omega)]
        rw [Nat.pow_succ] at h
        exact h
      obtain ⟨i1, i2⟩ := val_digs k (n / 256) (by omega) h'
      rw [digs_step h0 h64, val_snoc, i1, UInt8.toNat_ofNat', Nat.mod_mod]
      refine ⟨by omega, fun _ => ⟨?_, by simp⟩⟩
      rcases Nat.eq_zero_or_pos (n / 256) with h1 | h1
      · rw [h1, digs_zero]
        intro e
        have e2 : UInt8.ofNat (n % 256) = 0 := by simpa using e
        have e3 := congrArg UInt8.toNat e2
        rw [UInt8.toNat_ofNat', Nat.mod_mod] at e3
        have : (0 : UInt8).toNat = 0 := rfl
        omega
      · obtain ⟨j1, j2⟩ := i2 h1
        rw [List.getD_eq_getElem?_getD, List.getElem?_append_left j2, ← List.getD_eq_getElem?_getD]
        exact j1

theorem read_numB {n most : Nat} (t : List UInt8) (h : n < 18446744073709551616) (hm : n ≤ most) : readS (numB n ++ t) 0 most = (n, t, 0) := by
  obtain ⟨v1, v2⟩ := val_digs 8 n (by omega) h
  have h8 := digs_len n
  have hx : (UInt8.ofNat (digs n).length).toNat = (digs n).length := by rw [UInt8.toNat_ofNat', Nat.mod_eq_of_lt (by omega)]
  unfold numB
  rw [List.cons_append]
  have htk : (digs n ++ t).take (digs n).length = digs n := List.take_left
  have hdr : (digs n ++ t).drop (digs n).length = t := List.drop_left
  rw [readS_ok]
  · rw [hx, htk, hdr, v1]
  · rw [hx]; omega
  · rw [hx, List.length_append]; omega
  · rw [hx]
    rintro ⟨h1, h2⟩
    rw [List.getD_eq_getElem?_getD, List.getElem?_append_left h1, ← List.getD_eq_getElem?_getD] at h2
    have h0 : 0 < n := by
      rcases Nat.eq_zero_or_pos n with h0 | h0
      · subst h0; rw [digs_zero] at h1; simp at h1
      · exact h0
    exact (v2 h0).1 h2
  · rw [hx, htk, v1]; omega
theorem int_numB {n : Nat} {most : Int} (t : List UInt8) (h : n < 9223372036854775808) (hm : (n : Int) ≤ most) : intS (numB n ++ t) 0 most = (n, t, 0) := by
  unfold intS
  rw [if_pos (by omega), read_numB t (by omega) (by omega)]
theorem text_textB {l : List UInt8} {most : Int} (t : List UInt8) (h : l.length < 9223372036854775808) (hm : (l.length : Int) ≤ most) : textS (textB l ++ t) 0 most = (l, t, 0) := by
  unfold textS textB
  rw [List.append_assoc, int_numB _ h hm]
  simp
end Go.Proofs.Ytpbgcbpofhbgbaa

/- What was written of right acts is read as they were. -/
namespace Go.Proofs.Ytpbgcbpofhbgbaa
open Go.RowKit

theorem keep_forth {x : KV} (L : List UInt8) (h : goodK x = true) : keepS (keepB x ++ L) 0 = (x, L, 0) := by
  obtain ⟨f, b⟩ := x
  have h2 : (0 ≤ f ∧ f ≤ 1048576) ∧ (0 ≤ b ∧ b ≤ 1048576) := by simpa [goodK, inB] using h
  obtain ⟨f, rfl⟩ : ∃ k : Nat, f = k := ⟨f.toNat, by omega⟩
  obtain ⟨b, rfl⟩ : ∃ k : Nat, b = k := ⟨b.toNat, by omega⟩
  unfold keepS keepB
  dsimp only
  rw [Int.toNat_natCast, Int.toNat_natCast, List.append_assoc, int_numB _ (by omega) (by omega)]
  dsimp only
  rw [int_numB _ (by omega) (by omega)]
theorem cho_forth {x : HW} (L : List UInt8) (h : goodC x = true) : choS (choB x ++ L) 0 = (x, L, 0) := by
  obtain ⟨⟨⟨p⟩⟩, b⟩ := x
  have h2 : p.length ≤ 96 ∧ (0 ≤ b ∧ b ≤ 2) := by simpa [goodC, inB, ByteArray.size] using h
  obtain ⟨b, rfl⟩ : ∃ k : Nat, b = k := ⟨b.toNat, by omega⟩
  unfold choS choB
  dsimp only
  rw [Int.toNat_natCast, List.append_assoc, text_textB _ (by omega) (by omega)]
  dsimp only
  rw [int_numB _ (by omega) (by omega)]
theorem listN_forth {α : Type} {one : List UInt8 → Int → α × List UInt8 × Int} {B : α → List UInt8} {G : α → Bool} (h1 : ∀ {x : α} (L : List UInt8), G x = true → one (B x ++ L) 0 = (x, L, 0)) :
    ∀ (s : List α) (L : List UInt8), s.all G = true → listN one s.length (s.flatMap B ++ L) 0 = (s, L, 0)
  | [], L, _ => by simp [listN]
  | x :: s, L, h => by
    obtain ⟨q1, q2⟩ : G x = true ∧ s.all G = true := by simpa using h
    rw [List.length_cons, listN_ok, List.flatMap_cons, List.append_assoc, h1 _ q1]
    dsimp only
    rw [listN_forth h1 s L q2]
theorem list_forth {α : Type} {one : List UInt8 → Int → α × List UInt8 × Int} {B : α → List UInt8} {G : α → Bool} (h1 : ∀ {x : α} (L : List UInt8), G x = true → one (B x ++ L) 0 = (x, L, 0)) (s : List α) (L : List UInt8) (h : s.all G = true) (hl : s.length ≤ 8) :
    listS one (numB s.length ++ (s.flatMap B ++ L)) 0 = (s, L, 0) := by
  unfold listS
  rw [int_numB _ (by omega) (by omega)]
  exact listN_forth h1 s L h
theorem RdA.forth {a : AS} (L : List UInt8) (h : rightA a = true) (hm : 0 ≤ a.m ∧ a.m < 4294967296) : RdA (actB a ++ L) 0 a L 0 := by
  have hr := right_parts h
  have hk : a.kl.all goodK = true ∧ a.cl.all goodC = true := by
    simp only [rightA, Bool.and_eq_true] at h
    exact ⟨h.2.2.2.2.2.2.2.1, h.2.2.2.2.2.2.2.2⟩
  obtain ⟨ak, as_, an, ab_, am, aek, ⟨⟨pl⟩⟩, ⟨⟨tl_⟩⟩, x, kl, cl⟩ := a
  dsimp only at hr hm hk
  obtain ⟨h1_, h2_, h3_, h4_, h5_, h6_, ⟨h7_, h8_, h9_, h10_⟩, _, _⟩ := hr
  obtain ⟨k0, rfl⟩ : ∃ k : Nat, ak = k := ⟨ak.toNat, by omega⟩
  obtain ⟨k1, rfl⟩ : ∃ k : Nat, as_ = k := ⟨as_.toNat, by omega⟩
  obtain ⟨k2, rfl⟩ : ∃ k : Nat, an = (k : Int) - 1 := ⟨(an + 1).toNat, by omega⟩
  obtain ⟨k3, rfl⟩ : ∃ k : Nat, ab_ = (k : Int) - 1 := ⟨(ab_ + 1).toNat, by omega⟩
  obtain ⟨k4, rfl⟩ : ∃ k : Nat, am = k := ⟨am.toNat, by omega⟩
  obtain ⟨k5, rfl⟩ : ∃ k : Nat, aek = k := ⟨aek.toNat, by omega⟩
  replace h8_ : pl.length ≤ 96 := h8_
  replace h9_ : tl_.length ≤ 96 := h9_
  unfold actB
  simp only [Int.toNat_natCast, Int.sub_add_cancel, List.flatMap_cons, List.flatMap_nil, List.append_nil, List.append_assoc]
  refine ⟨k0, k1, k2, k3, k4, k5, pl, tl_, x, kl, cl, _, _, _, _, _, _, _, _, _, _, _, 0, 0, 0, 0, 0, 0, 0, 0, 0, 0, 0, int_numB _ (by omega) (by omega), ?_, int_numB _ (by omega) (by omega), int_numB _ (by omega) (by omega), int_numB _ (by omega) (by omega), read_numB _ (by omega) (by omega), int_numB _ (by omega) (by omega), text_textB _ (by omega) (by omega), text_textB _ (by omega) (by omega), text_textB _ (by omega) (by omega), list_forth keep_forth kl _ hk.1 h5_, list_forth cho_forth cl L hk.2 h6_, rfl⟩
  rw [if_neg (by omega)]
theorem RdN.forth : ∀ (s : List AS) (L : List UInt8), s.all rightA = true → (∀ a ∈ s, 0 ≤ a.m ∧ a.m < 4294967296) → RdN s.length (s.flatMap actB ++ L) 0 s L 0
  | [], L, _, _ => by simpa using RdN.zero
  | a :: s, L, h, hm => by
    obtain ⟨q1, q2⟩ : rightA a = true ∧ s.all rightA = true := by simpa using h
    rw [List.flatMap_cons, List.append_assoc]
    exact .step (RdA.forth _ q1 (hm a (by simp))) (RdN.forth s L q2 (fun b hb => hm b (by simp [hb])))
theorem RdP.forth {s : List AS} {l : List UInt8} (h : writeS s = (l, 0)) (hm : ∀ a ∈ s, 0 ≤ a.m ∧ a.m < 4294967296) : RdP l s 0 := by
  unfold writeS at h
  split at h
  · simp at h
  · rename_i hn
    split at h
    · rename_i hr
      obtain rfl : numB s.length ++ s.flatMap actB = l := by simpa using h
      have h2 := RdN.forth s [] hr hm
      rw [List.append_nil] at h2
      exact ⟨s.length, _, [], 0, 0, s, int_numB _ (by omega) (by omega), h2, by simp [closeS], by simp⟩
    · simp at h
end Go.Proofs.Ytpbgcbpofhbgbaa

/- tenderlaw41.light tells a Bool. -/
namespace Go.Proofs.Ytpbgcbpofhbgbaa
open Go.RowKit


set_option maxRecDepth 100000 in
set_option maxHeartbeats 2000000 in
theorem light41_any (A : Option Addr) (c : Nat) (l : List AV) (Z : Nat → Prop) (w : World) (h : Acts w Z A l) :
    Calls Try.prog 33 #[.slice A l.length c] w fun e w' => (∃ b, e = .returned (.bool b)) ∧ Below w.heap.size w w' := by
  have hll := h.len
  go_enter Try.func33, Try.ntmps33
  go_wp2_with fail
  go_loopw [3, 10] (fun nv iv wr => ∃ (i : Nat) (s : Int), i ≤ l.length ∧ iv = .int .i64 (i : Int) ∧ nv = .int .i64 s ∧ Below w.heap.size w wr) (fun _ iv _ => l.length - (intOf iv).toNat)
  case atStart => exact ⟨0, 0, Nat.zero_le _, rfl, rfl, Below.refl _ _⟩
  case round =>
    obtain ⟨i, s, hi, rfl, rfl, hb⟩ := hrel
    by_cases hlt : i < l.length
    · obtain ⟨b, off, rfl, _, hbl, p⟩ := av_at (h.below hb).rd hlt
      have hv := (h.below hb).ok _ (List.getElem_mem hlt)
      generalize l[i] = v at *
      have hvc := hv.c
      have hfit := hv.fit
      obtain ⟨⟨ak, as_, an, ab_, am, aek, pp, tt, x, kl, cl⟩, xA, xc, kA, kc, cA, cc⟩ := v
      have f1 := hfit.cl
      have f2 := hfit.cf
      clear hfit hv
      obtain ⟨p0, p1, p2, p3, p4, p5, p6, p7, p8, p9, p10⟩ := p
      dsimp only at *
      go_wp2_with fail
      generalize hW : wr.alloc _ = W at *
      have hWb : Below wr.heap.size wr W := by rw [← hW]; exact (by repeat (first | exact Below.refl _ _ | refine Below.alloc ?_ (by simp) _ | refine Below.setCell ?_ (by simp) _ | refine Below.drew ?_))
      clear hW
      go_loopw [3, 41] (fun nv iv wm => ∃ (j : Nat) (s : Int), j ≤ cl.length ∧ iv = .int .i64 (j : Int) ∧ nv = .int .i64 s ∧ Below W.heap.size W wm) (fun _ iv _ => cl.length - (intOf iv).toNat)
      case atStart => exact ⟨0, _, Nat.zero_le _, rfl, rfl, Below.refl _ _⟩
      case round =>
        obtain ⟨j, s, hj, rfl, rfl, hbm⟩ := hrel
        obtain ⟨wm, rfl⟩ : ∃ x : World, x = wr := ⟨_, rfl⟩
        have hlow := hWb.trans (hbm.mono hWb.size)
        by_cases hjl : j < cl.length
        · obtain ⟨g, o, rfl, _, hgl, f0, f3⟩ := hw_at (hvc.below hlow) hjl
          have hcs := (f2 _ (List.getElem_mem hjl)).1
          generalize cl[j] = z at *
          obtain ⟨zp, zw⟩ := z
          dsimp only at f0 f3 hcs
          go_wp2_with fail
          go_roundw
          case rel => exact ⟨j + 1, _, hjl, by go_num, rfl, hbm.alloc hbm.size _⟩
          case measure => simp [intOf]; omega
        · have ej : j = cl.length := by omega
          subst ej
          go_wp2_with fail
          go_roundw
          case rel => exact ⟨i + 1, _, hlt, by go_num, rfl, hb.trans (hlow.mono hb.size)⟩
          case measure => simp [intOf]; omega
    · have e : i = l.length := by omega
      subst e
      by_cases h2 : l.length ≤ 150 <;> by_cases h3 : s ≤ 20000
      all_goals
        go_wp2_with fail
        go_ret
        exact ⟨by first | exact .inl rfl | exact .inr rfl | exact ⟨_, rfl⟩, hb⟩

end Go.Proofs.Ytpbgcbpofhbgbaa

/- Drawn regions in the text's order: operations that only tell what stays so (they may come at any time), others each of which is alone when it comes, and a tail behind all of them. No program. -/
namespace Go.Proofs.Ytpbgcbpofhbgbaa
open Go.RowKit

section
variable {P : Program} {ops : Array Oper} {md : Region.Mode} {C : World → Prop}

/-- nothing but a value -/
def Qz : Exit → Act → World → Prop := fun _ _ _ => False
theorem letsOut_qz : ¬ LetsOut Qz := fun h => by
  obtain ⟨_, _, h⟩ := h
  exact h
theorem Oper.wp_of_z {o : Oper} {a : Act} {w : World} {K : Act → World → Prop} {Q : Exit → Act → World → Prop} (h : o.wp P a w K Qz) : o.wp P a w K Q := by
  unfold Oper.wp at *
  generalize (execOp a.eval o).run P w = r at *
  cases r with
  | ok n w' =>
    cases n <;> simp only [Oper.upon] at h ⊢
    case enter f args =>
      refine Calls.mono h fun e w'' he => ?_
      cases e with
      | returned u => exact he
      | panicked c => exact absurd he (by simp [Qz])
      | outgrown => exact absurd he letsOut_qz
    all_goals first | exact h | exact absurd h (by simp)
  | halt x w' =>
    cases x <;> simp only [Oper.upon] at h ⊢
    case panic u => exact absurd h (by simp [Qz])
theorem wpOp_of_z {i : Nat} {a : Act} {w : World} {K : Act → World → Prop} {Q : Exit → Act → World → Prop} (h : wpOp P ops Qz i K a w) : wpOp P ops Q i K a w := by
  unfold wpOp at *
  split
  · rename_i h0; simpa [h0] using h
  · rename_i o ho
    simp only [ho] at h
    split
    · rename_i hw
      simp only [hw, if_true] at h
      rcases h with h | ⟨_, h⟩
      · exact .inl (Oper.wp_of_z h)
      · exact absurd h letsOut_qz
    · rename_i hw; simpa [hw] using h

/-- in every world of the class it tells v, and nothing turns -/
def StC (P : Program) (ops : Array Oper) (C : World → Prop) (o : Oper) (v : Value) (a : Act) : Prop :=
  (Region.wanted o (yielded ops a.tmps) = true ∧ ∀ w, C w → (execOp a.eval o).run P w = .ok (.value v) w) ∨ (Region.wanted o (yielded ops a.tmps) = false ∧ v = undef)
theorem StC.of_same {o : Oper} {v : Value} {a a' : Act} (hy : StC P ops C o v a) (he : execOp a'.eval o = execOp a.eval o)
    (hw : Region.wanted o (yielded ops a'.tmps) = Region.wanted o (yielded ops a.tmps)) : StC P ops C o v a' := by
  unfold StC at *
  rw [he, hw]
  exact hy
theorem StC.wpOp {i : Nat} {o : Oper} {v : Value} {a : Act} {w : World} {K : Act → World → Prop} {Q : Exit → Act → World → Prop} (hi : ops[i]? = some o) (hy : StC P ops C o v a) (hw : C w)
    (hK : K (a.put o.dst v) w) : wpOp P ops Q i K a w := by
  unfold Go.wpOp
  simp only [hi]
  rcases hy with ⟨hwt, hv⟩ | ⟨hwt, rfl⟩
  · simp only [hwt, if_true, Oper.wp, hv w hw, Oper.upon]
    exact .inl hK
  · simp only [hwt, Bool.false_eq_true, if_false]
    exact hK

theorem wpOp_putC {j : Nat} {oi oj : Oper} {v : Value} (hj : ops[j]? = some oj) (hap : oi.apart ops oj = true)
    (hsi : ∀ cs b, oi.op ≠ .select cs b) (hsj : ∀ cs b, oj.op ≠ .select cs b) {K : Act → World → Prop} {a : Act} {w : World}
    (hy : StC P ops C oi v a) (h : wpOp P ops Qz j K (a.put oi.dst v) w) :
    wpOp P ops Qz j (fun a' w' => StC P ops C oi v a' ∧ K (a'.put oi.dst v) w') a w := by
  obtain ⟨h1, h2, h3⟩ := Oper.apart_spec hap
  have keep : ∀ (a : Act), StC P ops C oi v a → ∀ u, StC P ops C oi v (a.put oj.dst u) := fun a hy u =>
    hy.of_same (execOp_put oi hsi a oj.dst u h3) (wanted_put oi a oj.dst u h3)
  have keepD : ∀ d, StC P ops C oi v { a with defers := d :: a.defers } := fun d => hy.of_same rfl rfl
  unfold wpOp at *
  simp only [hj] at *
  rw [wanted_put oj a oi.dst v h1] at h
  split
  · rename_i hw
    simp only [hw, if_true] at h
    rcases h with h | ⟨_, hlets⟩
    case inr => exact absurd hlets letsOut_qz
    refine .inl ?_
    unfold Oper.wp at *
    rw [execOp_put oj hsj a oi.dst v h1] at h
    generalize (execOp a.eval oj).run P w = r at *
    cases r with
    | ok n w' =>
      cases n <;> simp only [Oper.upon] at h ⊢
      case value u => exact ⟨keep a hy u, by rw [← Act.put_comm a v u h2]; exact h⟩
      case skip => exact ⟨keep a hy _, by rw [← Act.put_comm a v undef h2]; exact h⟩
      case defer d =>
        refine ⟨keep _ (keepD d) _, ?_⟩
        rw [← Act.put_comm _ v undef h2, ← Act.put_defers]
        exact h
      case enter f args =>
        refine Calls.mono h fun e w'' he => ?_
        cases e with
        | returned u => exact ⟨keep a hy u, by rw [← Act.put_comm a v u h2]; exact he⟩
        | panicked c => exact absurd he (by simp [Qz])
        | outgrown => exact he
      case row row args => exact Rows.mono h fun u w'' he => ⟨keep a hy u, by rw [← Act.put_comm a v u h2]; exact he⟩
    | halt x w' =>
      cases x <;> simp only [Oper.upon] at h ⊢
      case panic u => exact absurd h (by simp [Qz])
  · rename_i hw
    simp only [hw] at h
    exact ⟨keep a hy _, by rw [← Act.put_comm a v undef h2]; exact h⟩

/-- so many operations below m, each of which may come up, then E -/
def wpAnyT (P : Program) (md : Region.Mode) (ops : Array Oper) (C : World → Prop) (m : Nat) (E : Array Bool → Act → World → Prop) : Nat → Array Bool → Act → World → Prop
  | 0, listed, a, w => C w ∧ (∀ j ∈ Region.ready md ops listed, m ≤ j) ∧ E listed a w
  | k + 1, listed, a, w => C w ∧ Region.ready md ops listed ≠ [] ∧ ∀ i ∈ Region.ready md ops listed, i < m ∧ wpOp P ops Qz i (wpAnyT P md ops C m E k (listed.setIfInBounds i true)) a w
theorem wpAnyT.c {m k : Nat} {E : Array Bool → Act → World → Prop} {listed : Array Bool} {a : Act} {w : World} (h : wpAnyT P md ops C m E k listed a w) : C w := by
  cases k with
  | zero => exact h.1
  | succ k => exact h.1

theorem wpAnyT_first {m i : Nat} {oi : Oper} {v : Value} {E : Array Bool → Act → World → Prop} (hi : ops[i]? = some oi) (him : i < m) (hsel : ∀ (j : Nat) (o : Oper) cs b, ops[j]? = some o → o.op ≠ .select cs b) (hT : TailWaitsB md ops m) :
    ∀ (fuel : Nat) (listed : Array Bool) (a : Act) (w : World), HeadInv md ops m listed →
      (∀ j oj, ops[j]? = some oj → j ≠ i → listed.getD j true = false → (∀ e ∈ oj.after, Region.binds md e = true → e.on ≠ i) → oi.apart ops oj = true) →
      i ∈ Region.ready md ops listed → StC P ops C oi v a →
      wpAnyT P md ops C m E fuel (listed.setIfInBounds i true) (a.put oi.dst v) w → wpAnyT P md ops C m E (fuel + 1) listed a w := by
  intro fuel
  induction fuel with
  | zero =>
    intro listed a w inv _ hr hy H
    refine ⟨H.c, fun h => (by rw [h] at hr; cases hr), fun j hj => ?_⟩
    by_cases hji : j = i
    · subst hji; exact ⟨him, hy.wpOp hi H.c H⟩
    · have h1 := H.2.1 j (ready_mono hj hji)
      have h2 := hT listed inv i him (mem_ready.1 hr).1 j hj
      omega
  | succ fuel ih =>
    intro listed a w inv hfree hr hy H
    refine ⟨H.c, fun h => (by rw [h] at hr; cases hr), fun j hj => ?_⟩
    by_cases hji : j = i
    · subst hji; exact ⟨him, hy.wpOp hi H.c H⟩
    · obtain ⟨hjm, h1⟩ := H.2.2 j (ready_mono hj hji)
      obtain ⟨hjun, oj, hoj, hall⟩ := mem_ready.1 hj
      have hnot : ∀ e ∈ oj.after, Region.binds md e = true → e.on ≠ i := fun e he hb heq => by
        have h1 := hall e he hb
        rw [heq, getD_both (mem_ready.1 hr).1] at h1
        cases h1
      have h2 := wpOp_putC hoj (hfree j oj hoj hji hjun hnot) (fun cs b => hsel i oi cs b hi) (fun cs b => hsel j oj cs b hoj) hy h1
      have hfree' : ∀ k ok, ops[k]? = some ok → k ≠ i → (listed.setIfInBounds j true).getD k true = false →
          (∀ e ∈ ok.after, Region.binds md e = true → e.on ≠ i) → oi.apart ops ok = true := fun k ok hk hki hun hno => by
        refine hfree k ok hk hki ?_ hno
        by_cases hjk : j = k
        · subst hjk; exact hjun
        · rw [getD_set_ne true hjk] at hun; exact hun
      refine ⟨hjm, wpOp_mono (fun a' w' h3 => ih (listed.setIfInBounds j true) a' w' (inv.set hj hjm) hfree' (ready_mono hr (Ne.symm hji)) h3.1 ?_) h2⟩
      rw [Array.setIfInBounds_comm _ _ hji]
      exact h3.2

theorem wpAny_of_T {m g : Nat} {E : Array Bool → Act → World → Prop} {Q : Exit → Act → World → Prop} (hE : ∀ listed a w, E listed a w → wpAny P md ops Q g listed a w) :
    ∀ (k : Nat) (listed : Array Bool) (a : Act) (w : World), wpAnyT P md ops C m E k listed a w → wpAny P md ops Q (k + g) listed a w
  | 0, listed, a, w, h => by rw [Nat.zero_add]; exact hE _ _ _ h.2.2
  | k + 1, listed, a, w, h => by
    rw [show k + 1 + g = (k + g) + 1 by omega]
    exact ⟨fun h0 => absurd h0 h.2.1, fun j hj => wpOp_mono (fun a' w' h' => wpAny_of_T hE k _ a' w' h') (wpOp_of_z (h.2.2 j hj).2)⟩

/-- the walk in the text's order: true: it only tells; false: it is alone -/
def wpMix (P : Program) (ops : Array Oper) (C : World → Prop) (E : Act → World → Prop) : List Bool → List Oper → Act → World → Prop
  | [], [], a, w => C w ∧ E a w
  | true :: ks, o :: l, a, w => ∃ v, StC P ops C o v a ∧ wpMix P ops C E ks l (a.put o.dst v) w
  | false :: ks, o :: l, a, w => C w ∧ ((Region.wanted o (yielded ops a.tmps) = true ∧ o.wp P a w (wpMix P ops C E ks l) Qz) ∨ (Region.wanted o (yielded ops a.tmps) = false ∧ wpMix P ops C E ks l (a.put o.dst undef) w))
  | _, _, _, _ => False
/-- nobody looks into it -/
structure MixW (P : Program) (ops : Array Oper) (C : World → Prop) (E : Act → World → Prop) (ks : List Bool) (l : List Oper) (a : Act) (w : World) : Prop where
  go : wpMix P ops C E ks l a w

def mixB (md : Region.Mode) (ops : Array Oper) (g : Nat) : List Bool → Nat → Array Bool → Bool
  | [], k, listed => Region.seqB md ops g k listed
  | true :: ks, k, listed => (Region.ready md ops listed).contains k && Region.free md ops listed k && mixB md ops g ks (k + 1) (listed.setIfInBounds k true)
  | false :: ks, k, listed => decide (Region.ready md ops listed = [k]) && mixB md ops g ks (k + 1) (listed.setIfInBounds k true)

theorem mix_lex {m g : Nat} {Lq : Act → World → Prop} (hsel : ∀ (j : Nat) (o : Oper) cs b, ops[j]? = some o → o.op ≠ .select cs b) (hT : TailWaitsB md ops m) :
    ∀ (ks : List Bool) (l : List Oper) (k : Nat) (listed : Array Bool) (a : Act) (w : World), (∀ j, j < l.length → l[j]? = ops[k + j]?) → k + l.length = m → HeadInv md ops m listed →
    mixB md ops g ks k listed = true → wpMix P ops C Lq ks l a w →
    wpAnyT P md ops C m (fun listed' a' w' => Region.seqB md ops g m listed' = true ∧ Lq a' w') l.length listed a w
  | [], [], k, listed, a, w, _, hk, _, hB, h => by
    have : k = m := by simpa using hk
    subst this
    exact ⟨h.1, seqB_ready hB, hB, h.2⟩
  | true :: ks, o :: l, k, listed, a, w, hl, hk, inv, hB, h => by
    have h0 : ops[k]? = some o := by simpa using (hl 0 (by simp)).symm
    simp only [mixB, Bool.and_eq_true] at hB
    obtain ⟨⟨hr, hf⟩, hB'⟩ := hB
    have hkm : k < m := by simp only [List.length_cons] at hk; omega
    have hr' : k ∈ Region.ready md ops listed := by simpa using hr
    obtain ⟨v, hy, h'⟩ := h
    exact wpAnyT_first h0 hkm hsel hT _ listed a w inv (Region.free_spec h0 hf) hr' hy
      (mix_lex hsel hT ks l (k + 1) _ _ w (fun j hj => by have := hl (j + 1) (by simp; omega); simpa [Nat.add_assoc, Nat.add_comm 1 j] using this) (by simp only [List.length_cons] at hk; omega) (inv.set hr' hkm) hB' h')
  | false :: ks, o :: l, k, listed, a, w, hl, hk, inv, hB, h => by
    have h0 : ops[k]? = some o := by simpa using (hl 0 (by simp)).symm
    simp only [mixB, Bool.and_eq_true, decide_eq_true_eq] at hB
    obtain ⟨hr, hB'⟩ := hB
    have hkm : k < m := by simp only [List.length_cons] at hk; omega
    obtain ⟨hc, h'⟩ := h
    refine ⟨hc, fun h1 => (by rw [hr] at h1; cases h1), fun i hi => ?_⟩
    have hi' := hi
    rw [hr] at hi
    have hik : i = k := by simpa using hi
    subst hik
    refine ⟨hkm, ?_⟩
    have rec_ : ∀ a' w', wpMix P ops C Lq ks l a' w' → wpAnyT P md ops C m (fun listed' a' w' => Region.seqB md ops g m listed' = true ∧ Lq a' w') l.length (listed.setIfInBounds i true) a' w' := fun a' w' h2 =>
      mix_lex hsel hT ks l (i + 1) _ a' w' (fun j hj => by have := hl (j + 1) (by simp; omega); simpa [Nat.add_assoc, Nat.add_comm 1 j] using this) (by simp only [List.length_cons] at hk; omega) (inv.set hi' hkm) hB' h2
    unfold wpOp
    simp only [h0]
    rcases h' with ⟨hw, h'⟩ | ⟨hw, h'⟩
    · simp only [hw, if_true]
      exact .inl (Oper.wp_mono rec_ h')
    · simp only [hw, Bool.false_eq_true, if_false]
      exact rec_ _ _ h'
  | [], _ :: _, _, _, _, _, _, _, _, _, h => h.elim
  | true :: _, [], _, _, _, _, _, _, _, _, h => h.elim
  | false :: _, [], _, _, _, _, _, _, _, _, h => h.elim

/-- the first operations by kinds, the rest one behind the other -/
theorem wp_region_m {id : Nat} {Q : Exit → Act → World → Prop} {a : Act} {w : World} {l : List Oper} (ks : List Bool) (C : World → Prop) (hm : P.follows .mixedOrders = true)
    (hB : (tailOkB l.toArray ks.length && mixB .any l.toArray (l.toArray.size - ks.length) ks 0 (Array.replicate l.toArray.size false)) = true)
    (h : MixW P l.toArray C (fun a' w' => wpList P l.toArray Q (l.drop ks.length) a' w') ks (l.take ks.length) a w.drew) : (Code.region id l.toArray true).wp P Q a w := by
  rw [Bool.and_eq_true] at hB
  obtain ⟨hok, hlex⟩ := hB
  obtain ⟨hsel, hnl, hT⟩ := tailOkB_spec hok
  have htl : (l.take ks.length).length = ks.length := by simp at hnl ⊢; omega
  have hdl : (l.drop ks.length).length = l.toArray.size - ks.length := by simp
  have H := mix_lex (P := P) (md := .any) (m := ks.length) (g := l.toArray.size - ks.length) (Region.noSelect_spec hsel) hT ks (l.take ks.length) 0 _ a w.drew (fun j hj => by
    have hj' : j < ks.length := by rw [htl] at hj; exact hj
    simp [hj']) (by rw [htl]; omega) (inv_new ks.length) hlex h.go
  refine wp_region_any hm ?_
  have := wpAny_of_T (Q := Q) (g := l.toArray.size - ks.length) (fun listed a' w' hL => by
    have := wpAny_of_seq (md := .any) (Q' := Q) (l.drop ks.length) ks.length listed a' w' (fun j => by simp [List.getElem?_drop]) (by rw [hdl]; exact hL.1) hL.2
    rwa [hdl] at this) _ _ _ _ H
  rw [htl, show ks.length + (l.toArray.size - ks.length) = l.toArray.size by omega] at this
  exact this

variable {E : Act → World → Prop} {ks : List Bool} {o : Oper} {rest : List Oper} {a : Act} {w : World}
theorem mx_skip (hw : Region.wanted o (yielded ops a.tmps) = false) (h : ∃ a', a.put o.dst undef = a' ∧ MixW P ops C E ks rest a' w) : MixW P ops C E (true :: ks) (o :: rest) a w := by
  obtain ⟨a', ha, h⟩ := h
  exact ⟨undef, .inr ⟨hw, rfl⟩, by rw [ha]; exact h.go⟩
theorem mx_val (hw : Region.wanted o (yielded ops a.tmps) = true) (h : ∃ v, (∀ w, C w → (execOp a.eval o).run P w = .ok (.value v) w) ∧ ∃ a', a.put o.dst v = a' ∧ MixW P ops C E ks rest a' w) : MixW P ops C E (true :: ks) (o :: rest) a w := by
  obtain ⟨v, hv, a', ha, h⟩ := h
  exact ⟨v, .inl ⟨hw, hv⟩, by rw [ha]; exact h.go⟩
theorem mx_move (x : Operand) (hw : Region.wanted o (yielded ops a.tmps) = true) (hop : o.op = .move x) (h : ∃ v, a.eval x = v ∧ ∃ a', a.put o.dst v = a' ∧ MixW P ops C E ks rest a' w) : MixW P ops C E (true :: ks) (o :: rest) a w := by
  obtain ⟨v, hv, h⟩ := h
  exact mx_val hw ⟨v, fun w _ => by rw [BigFrame.run_move x hop, hv], h⟩
theorem mx_assign (x : Operand) (hw : Region.wanted o (yielded ops a.tmps) = true) (hop : o.op = .assign x) (h : ∃ v, a.eval x = v ∧ ∃ a', a.put o.dst v = a' ∧ MixW P ops C E ks rest a' w) : MixW P ops C E (true :: ks) (o :: rest) a w := by
  obtain ⟨v, hv, h⟩ := h
  exact mx_val hw ⟨v, fun w _ => by rw [BigFrame.run_assign x hop, hv], h⟩
/-- alone: a value, and a world -/
theorem mx_alone (hc : C w) (hw : Region.wanted o (yielded ops a.tmps) = true) (h : ∃ v w', (execOp a.eval o).run P w = .ok (.value v) w' ∧ ∃ a', a.put o.dst v = a' ∧ MixW P ops C E ks rest a' w') : MixW P ops C E (false :: ks) (o :: rest) a w := by
  obtain ⟨v, w', hv, a', ha, h⟩ := h
  refine ⟨hc, .inl ⟨hw, ?_⟩⟩
  unfold Oper.wp
  rw [hv]
  show wpMix P ops C E ks rest (a.put o.dst v) w'
  rw [ha]
  exact h.go
/-- alone: a call -/
theorem mx_call {f : FuncId} {args : Array Value} {R : Ending → World → Prop} (hc : C w) (hw : Region.wanted o (yielded ops a.tmps) = true) (hv : (execOp a.eval o).run P w = .ok (.enter f args) w) (hcall : Calls P f args w R)
    (h : ∀ e w', R e w' → ∃ v, e = .returned v ∧ ∃ a', a.put o.dst v = a' ∧ MixW P ops C E ks rest a' w') : MixW P ops C E (false :: ks) (o :: rest) a w := by
  refine ⟨hc, .inl ⟨hw, ?_⟩⟩
  unfold Oper.wp
  rw [hv]
  refine hcall.mono fun e w' he => ?_
  obtain ⟨v, rfl, a', ha, h⟩ := h e w' he
  show wpMix P ops C E ks rest (a.put o.dst v) w'
  rw [ha]
  exact h.go
theorem mx_idle (hc : C w) (hw : Region.wanted o (yielded ops a.tmps) = false) (h : ∃ a', a.put o.dst undef = a' ∧ MixW P ops C E ks rest a' w) : MixW P ops C E (false :: ks) (o :: rest) a w := by
  obtain ⟨a', ha, h⟩ := h
  exact ⟨hc, .inr ⟨hw, by rw [ha]; exact h.go⟩⟩
theorem mx_end (hc : C w) (h : E a w) : MixW P ops C E [] [] a w := ⟨hc, h⟩
end
end Go.Proofs.Ytpbgcbpofhbgbaa
