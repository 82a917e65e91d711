/- slices.symMergeCmpFunc at changes: the merge of two sorted rows that stand side by side. -/
import Derived.Test.YtkeledbgmpienaaGreatA15

namespace Go.Proofs.YtkeledbgmpienaaGreat
open Go.RowKit Go.WideShapes Go.ChangeShapes Go.ChangeAt

theorem nil_of {α : Type} {l : List α} {a b : Nat} (h : a + l.length = b) (h2 : ¬ a < b) : l = [] := List.eq_nil_of_length_eq_zero (by omega)
theorem sortC_nilR {α : Type} {lt : α → α → Bool} (h : OrdC lt) {L R : List α} (hL : SortedC lt L) (hR : R = []) : sortC lt (L ++ R) = L ++ R := by rw [hR, List.append_nil]; exact sortC_sorted_eq h hL
theorem sortC_nilL {α : Type} {lt : α → α → Bool} (h : OrdC lt) {L R : List α} (hR : SortedC lt R) (hL : L = []) : sortC lt (L ++ R) = L ++ R := by rw [hL, List.nil_append]; exact sortC_sorted_eq h hR

set_option maxRecDepth 100000 in
set_option maxHeartbeats 8000000 in
theorem symMerge_any (A : Option Addr) (c N base : Nat) (hl : N ≤ 1000000) : ∀ (K a m b : Nat) (P L R Q : List CV) (w : World), b ≤ a + K → RowC w base A c (P ++ L ++ R ++ Q) → N = (P ++ L ++ R ++ Q).length → P.length = a → a + L.length = m → m + R.length = b → 0 < L.length → 0 < R.length → SortedC ltC L → SortedC ltC R → (∀ z ∈ L ++ R, z.p.size ≤ 140737488355328) →
    Calls Tryz.prog 70 #[.slice A N c, .int .i64 (a : Int), .int .i64 (m : Int), .int .i64 (b : Int), .func (.func 33) #[] #[]] w fun e w' => e = .returned (.tuple #[]) ∧ RowC w' base A c (P ++ sortC ltC (L ++ R) ++ Q) ∧ Fr (fun g => ablk A = some g) w w' := by
  intro K
  induction K with
  | zero => intro a m b P L R Q w h1 _ _ _ h2 h3 h4 h5; omega
  | succ K ih =>
    intro a m b P L R Q w hK h hN hP hm hb h1 h2 hsL hsR hp
    by_cases e1 : L.length = 1
    · obtain ⟨x, rfl⟩ := List.length_eq_one_iff.1 e1
      exact symOne_any A c a m b N base P x R Q w h hN hP (by simpa using hm) hb hsR hp hl
    by_cases e2 : R.length = 1
    · obtain ⟨y, rfl⟩ := List.length_eq_one_iff.1 e2
      exact symLast_any A c a m b N base P L y Q w h hN hP hm (by simpa using hb) (by omega) hsL hp hl
    have hbN0 : b ≤ N := by rw [hN]; simp only [List.length_append]; omega
    obtain ⟨mid, hmid⟩ : ∃ mid, mid = (a + b) / 2 := ⟨_, rfl⟩
    have hmd1 := half_i64 a b mid hmid
    have HMID := Lib.hid hmid
    have hwa1 : IntKind.i64.wrap ((m : Int) - (a : Int)) = (m : Int) - (a : Int) := by rw [IntKind.wrap_i64]; omega
    have hqa1 : ((m : Int) - (a : Int) == 1) = false := by rw [beq_eq_false_iff_ne]; omega
    have hwb1 : IntKind.i64.wrap ((b : Int) - (m : Int)) = (b : Int) - (m : Int) := by rw [IntKind.wrap_i64]; omega
    have hqb1 : ((b : Int) - (m : Int) == 1) = false := by rw [beq_eq_false_iff_ne]; omega
    obtain ⟨n, hn⟩ : ∃ n, n = mid + m := ⟨_, rfl⟩
    have hwn : IntKind.i64.wrap ((mid : Int) + (m : Int)) = (n : Int) := by rw [IntKind.wrap_i64]; omega
    obtain ⟨p, hpp⟩ : ∃ p, p = n - 1 := ⟨_, rfl⟩
    have hwp : IntKind.i64.wrap ((n : Int) - 1) = (p : Int) := by rw [IntKind.wrap_i64]; omega
    have HNN := Lib.hid hn
    have HPP : Hid (p + 1 = mid + m) := Lib.hid (by omega)
    have HAM : Hid (a < mid ∧ a < m) := Lib.hid (by omega)
    have HMB : Hid (mid < b ∧ m < b ∧ b ≤ a + (K + 1)) := Lib.hid (by omega)
    have HBN : Hid (b ≤ N) := Lib.hid hbN0
    have hmN0 : m ≤ N := by omega
    have haN0 : a ≤ N := by omega
    have HLR : Hid (0 < L.length ∧ 0 < R.length) := Lib.hid ⟨h1, h2⟩
    have HPA := Lib.hid hP
    have HLM := Lib.hid hm
    have HRB := Lib.hid hb
    have HSL := Lib.hid hsL
    have HSR := Lib.hid hsR
    have HPZ := Lib.hid hp
    have HN := Lib.hid hN
    have HGL : Hid (∀ k, k < L.length → (P ++ L ++ R ++ Q)[a + k]? = L[k]?) := Lib.hid (fun k hk => four_get1 hP hk)
    have HGR : Hid (∀ k, k < R.length → (P ++ L ++ R ++ Q)[m + k]? = R[k]?) := Lib.hid (fun k hk => four_get2 hP hm hk)
    obtain ⟨X, hX⟩ : ∃ X, X = P ++ L ++ R ++ Q := ⟨_, rfl⟩
    have HX := Lib.hid hX
    rw [← hX] at h HN HGL HGR
    have HPX : Hid (∀ i z, a ≤ i → i < b → X[i]? = some z → z.p.size ≤ 140737488355328) := Lib.hid (fun i z h3 h4 hz => by
      refine hp z (List.mem_append.2 ?_)
      by_cases h5 : i < m
      · have h6 := HGL.out (i - a) (by omega)
        rw [show a + (i - a) = i by omega, hz] at h6
        exact .inl (List.mem_of_getElem? h6.symm)
      · have h6 := HGR.out (i - m) (by omega)
        rw [show m + (i - m) = i by omega, hz] at h6
        exact .inr (List.mem_of_getElem? h6.symm))
    obtain ⟨TT, hT⟩ : ∃ TT, TT = P ++ sortC ltC (L ++ R) ++ Q := ⟨_, rfl⟩
    have HT := Lib.hid hT
    rw [← hT]
    obtain ⟨g, off, rfl, _, hgb⟩ := h.addr (by rw [← HN.out]; omega)
    have HR := Lib.hid h
    by_cases hmm : mid < m
    · obtain ⟨s0, hs0⟩ : ∃ s0, s0 = n - b := ⟨_, rfl⟩
      have hws : IntKind.i64.wrap ((n : Int) - (b : Int)) = (s0 : Int) := by rw [IntKind.wrap_i64]; omega
      have HC : Hid (mid < m ∧ s0 + b = mid + m) := Lib.hid (by omega)
      have HS0R : Hid (s0 ≤ mid) := Lib.hid (by omega)
      clear h hN hP hm hb hsL hsR hp hX hT h1 h2 e1 e2 hmid hn hpp hK hs0 HGL HGR
      go_enter Tryz.func70, Tryz.ntmps70
      go_wp2_with fail
      go_loopw [20, 21, 23] (fun iv jv _ wr => ∃ (s r : Nat), s0 ≤ s ∧ s ≤ r ∧ r ≤ mid ∧ iv = .int .i64 (s : Int) ∧ jv = .int .i64 (r : Int) ∧ Hid (s = s0 ∨ ∃ x y, X[s - 1]? = some x ∧ X[mid + m - s]? = some y ∧ ltC y x = false) ∧ Hid (r = mid ∨ ∃ x y, X[r]? = some x ∧ X[mid + m - 1 - r]? = some y ∧ ltC y x = true) ∧ Below w.heap.size w wr) (fun iv jv _ _ => (intOf jv).toNat - (intOf iv).toNat)
      case atStart => exact ⟨s0, mid, Nat.le_refl _, by have := HS0R.out; omega, Nat.le_refl _, rfl, rfl, Lib.hid (.inl rfl), Lib.hid (.inl rfl), Below.refl _ _⟩
      case round =>
        obtain ⟨s, r, hs0, hsr, hr0, rfl, rfl, HF1, HF2, hbw⟩ := hrel
        by_cases hlt : s < r
        · obtain ⟨h, hhd⟩ : ∃ q : Nat, q = (s + r) / 2 := ⟨_, rfl⟩
          have HHD := Lib.hid hhd
          have hh1 := half_i64 s r h hhd
          have hhi : s ≤ h := by omega
          have hhj : h < r := by omega
          obtain ⟨q, hq⟩ : ∃ q, q = mid + m - 1 - h := ⟨_, rfl⟩
          have HQ := Lib.hid hq
          have hhN : h < N ∧ q < N ∧ h < m ∧ a ≤ h ∧ m ≤ q ∧ q < b := by
            have h1 := (Or.inl ⟨HC.out.1, HC.out.2, rfl⟩ : (mid < m ∧ s0 + b = mid + m ∧ mid = mid) ∨ (m ≤ mid ∧ s0 = a ∧ mid = m))
            have h2 := HMID.out
            have h3 := HAM.out
            have h4 := HMB.out
            have h5 := HBN.out
            have h6 := HLR.out
            omega
          obtain ⟨hhN, hqN, hhm, hah, hmq, hqb⟩ := hhN
          have hwq : IntKind.i64.wrap ((p : Int) - (h : Int)) = (q : Int) := by
            have h1 := HPP.out
            rw [IntKind.wrap_i64]; omega
          obtain ⟨x, hx⟩ : ∃ x, X[h]? = some x := ⟨_, List.getElem?_eq_getElem (by rw [← HN.out]; exact hhN)⟩
          obtain ⟨y, hy⟩ : ∃ y, X[q]? = some y := ⟨_, List.getElem?_eq_getElem (by rw [← HN.out]; exact hqN)⟩
          have HXX := Lib.hid hx
          have HYY := Lib.hid hy
          have hxp := HPX.out h x (by omega) (by omega) hx
          have hyp := HPX.out q y (by omega) (by omega) hy
          have hx9 := RowC.get (HR.out.below hbw) hx
          have hy9 := RowC.get (HR.out.below hbw) hy
          replace hgb := Nat.lt_of_lt_of_le hgb hbw.size
          have HCM := Lib.hid (fun W (_ : Below wr.heap.size wr W) => cmpC_any y x hyp hxp W)
          clear hx hy hhd hq hhm hah hmq hqb
          by_cases hlx : cmpT (tl y.p) (tl x.p) < 0
          · have hld : decide (cmpT (tl y.p) (tl x.p) < 0) = true := decide_eq_true hlx
            have HLX : Hid (ltC y x = true) := Lib.hid hld
            have HF22 : Hid (h = mid ∨ ∃ x y, X[h]? = some x ∧ X[mid + m - 1 - h]? = some y ∧ ltC y x = true) := Lib.hid (.inr ⟨x, y, HXX.out, by rw [← HQ.out]; exact HYY.out, HLX.out⟩)
            go_wp2_with fail
            refine wp_region_b 14 (by kernel_rfl) (by kernel_rfl) ?_
            simp only [List.take_succ_cons, List.take_zero, List.drop_succ_cons, List.drop_zero]
            refine lb_move _ (by kernel_rfl) rfl ⟨_, (by ((try simp [go_sem]); (try rfl); done)), _, (by (simp only [Act.put, List.setIfInBounds_toArray, List.set_cons_zero, List.set_cons_succ]; rfl)), ?_⟩
            refine lb_move _ (by kernel_rfl) rfl ⟨_, (by ((try simp [go_sem]); (try rfl); done)), _, (by (simp only [Act.put, List.setIfInBounds_toArray, List.set_cons_zero, List.set_cons_succ]; rfl)), ?_⟩
            refine lb_move _ (by kernel_rfl) rfl ⟨_, (by ((try simp [go_sem]); (try rfl); done)), _, (by (simp only [Act.put, List.setIfInBounds_toArray, List.set_cons_zero, List.set_cons_succ]; rfl)), ?_⟩
            refine lb_move _ (by kernel_rfl) rfl ⟨_, (by ((try simp [go_sem]); (try rfl); done)), _, (by (simp only [Act.put, List.setIfInBounds_toArray, List.set_cons_zero, List.set_cons_succ]; rfl)), ?_⟩
            refine lb_val (by kernel_rfl) ⟨_, (by (intro w' hC; clear hC; (try go_simp); (try with_reducible rfl); done)), _, (by (simp only [Act.put, List.setIfInBounds_toArray, List.set_cons_zero, List.set_cons_succ]; rfl)), ?_⟩
            refine lb_val (by kernel_rfl) ⟨_, (by (intro w' hC; clear hC; (try go_simp); (try with_reducible rfl); done)), _, (by (simp only [Act.put, List.setIfInBounds_toArray, List.set_cons_zero, List.set_cons_succ]; rfl)), ?_⟩
            refine lb_val (by kernel_rfl) ⟨_, (by (intro w' hC; (obtain ⟨y0, y1, y2, y3, y4, y5, y6, y7, y8⟩ := hy9.below hgb hC); clear hC; (try go_simp); (try with_reducible rfl); done)), _, (by (simp only [Act.put, List.setIfInBounds_toArray, List.set_cons_zero, List.set_cons_succ]; rfl)), ?_⟩
            refine lb_move _ (by kernel_rfl) rfl ⟨_, (by ((try simp [go_sem]); (try rfl); done)), _, (by (simp only [Act.put, List.setIfInBounds_toArray, List.set_cons_zero, List.set_cons_succ]; rfl)), ?_⟩
            refine lb_move _ (by kernel_rfl) rfl ⟨_, (by ((try simp [go_sem]); (try rfl); done)), _, (by (simp only [Act.put, List.setIfInBounds_toArray, List.set_cons_zero, List.set_cons_succ]; rfl)), ?_⟩
            refine lb_val (by kernel_rfl) ⟨_, (by (intro w' hC; clear hC; (try go_simp); (try with_reducible rfl); done)), _, (by (simp only [Act.put, List.setIfInBounds_toArray, List.set_cons_zero, List.set_cons_succ]; rfl)), ?_⟩
            refine lb_val (by kernel_rfl) ⟨_, (by (intro w' hC; (obtain ⟨x0, x1, x2, x3, x4, x5, x6, x7, x8⟩ := hx9.below hgb hC); clear hC; (try go_simp); (try with_reducible rfl); done)), _, (by (simp only [Act.put, List.setIfInBounds_toArray, List.set_cons_zero, List.set_cons_succ]; rfl)), ?_⟩
            refine lb_call (by kernel_rfl) (fun w' hC => HCM.out w' hC) (by (intro w'; go_simp; done)) ⟨_, (by (simp only [Act.put, List.setIfInBounds_toArray, List.set_cons_zero, List.set_cons_succ]; rfl)), ?_⟩
            refine lb_val (by kernel_rfl) ⟨_, (by (intro w' hC; clear hC; (try go_simp); (try with_reducible rfl); done)), _, (by (simp only [Act.put, List.setIfInBounds_toArray, List.set_cons_zero, List.set_cons_succ]; rfl)), ?_⟩
            refine lb_val (by kernel_rfl) ⟨_, (by (intro w' hC; clear hC; (try go_simp); (try with_reducible rfl); done)), _, (by (simp only [Act.put, List.setIfInBounds_toArray, List.set_cons_zero, List.set_cons_succ]; rfl)), ?_⟩
            refine .nil ?_
            intro w2 hb2
            have hbw2 := hbw.trans (hb2.mono hbw.size)
            clear hx9 hy9 HCM hb2 hbw
            go_wp2_with fail
            go_roundw
            case rel => exact ⟨s, h, hs0, hhi, by omega, rfl, rfl, HF1, HF22, hbw2⟩
            case measure => have := HHD.out; simp [intOf]; omega
          · have hld : decide (cmpT (tl y.p) (tl x.p) < 0) = false := decide_eq_false hlx
            have HLX : Hid (ltC y x = false) := Lib.hid hld
            have HF12 : Hid (h + 1 = s0 ∨ ∃ x y, X[h + 1 - 1]? = some x ∧ X[mid + m - (h + 1)]? = some y ∧ ltC y x = false) := Lib.hid (.inr ⟨x, y, HXX.out, by have := HYY.out; rw [HQ.out, Nat.sub_sub, Nat.add_comm 1 h] at this; exact this, HLX.out⟩)
            go_wp2_with fail
            refine wp_region_b 14 (by kernel_rfl) (by kernel_rfl) ?_
            simp only [List.take_succ_cons, List.take_zero, List.drop_succ_cons, List.drop_zero]
            refine lb_move _ (by kernel_rfl) rfl ⟨_, (by ((try simp [go_sem]); (try rfl); done)), _, (by (simp only [Act.put, List.setIfInBounds_toArray, List.set_cons_zero, List.set_cons_succ]; rfl)), ?_⟩
            refine lb_move _ (by kernel_rfl) rfl ⟨_, (by ((try simp [go_sem]); (try rfl); done)), _, (by (simp only [Act.put, List.setIfInBounds_toArray, List.set_cons_zero, List.set_cons_succ]; rfl)), ?_⟩
            refine lb_move _ (by kernel_rfl) rfl ⟨_, (by ((try simp [go_sem]); (try rfl); done)), _, (by (simp only [Act.put, List.setIfInBounds_toArray, List.set_cons_zero, List.set_cons_succ]; rfl)), ?_⟩
            refine lb_move _ (by kernel_rfl) rfl ⟨_, (by ((try simp [go_sem]); (try rfl); done)), _, (by (simp only [Act.put, List.setIfInBounds_toArray, List.set_cons_zero, List.set_cons_succ]; rfl)), ?_⟩
            refine lb_val (by kernel_rfl) ⟨_, (by (intro w' hC; clear hC; (try go_simp); (try with_reducible rfl); done)), _, (by (simp only [Act.put, List.setIfInBounds_toArray, List.set_cons_zero, List.set_cons_succ]; rfl)), ?_⟩
            refine lb_val (by kernel_rfl) ⟨_, (by (intro w' hC; clear hC; (try go_simp); (try with_reducible rfl); done)), _, (by (simp only [Act.put, List.setIfInBounds_toArray, List.set_cons_zero, List.set_cons_succ]; rfl)), ?_⟩
            refine lb_val (by kernel_rfl) ⟨_, (by (intro w' hC; (obtain ⟨y0, y1, y2, y3, y4, y5, y6, y7, y8⟩ := hy9.below hgb hC); clear hC; (try go_simp); (try with_reducible rfl); done)), _, (by (simp only [Act.put, List.setIfInBounds_toArray, List.set_cons_zero, List.set_cons_succ]; rfl)), ?_⟩
            refine lb_move _ (by kernel_rfl) rfl ⟨_, (by ((try simp [go_sem]); (try rfl); done)), _, (by (simp only [Act.put, List.setIfInBounds_toArray, List.set_cons_zero, List.set_cons_succ]; rfl)), ?_⟩
            refine lb_move _ (by kernel_rfl) rfl ⟨_, (by ((try simp [go_sem]); (try rfl); done)), _, (by (simp only [Act.put, List.setIfInBounds_toArray, List.set_cons_zero, List.set_cons_succ]; rfl)), ?_⟩
            refine lb_val (by kernel_rfl) ⟨_, (by (intro w' hC; clear hC; (try go_simp); (try with_reducible rfl); done)), _, (by (simp only [Act.put, List.setIfInBounds_toArray, List.set_cons_zero, List.set_cons_succ]; rfl)), ?_⟩
            refine lb_val (by kernel_rfl) ⟨_, (by (intro w' hC; (obtain ⟨x0, x1, x2, x3, x4, x5, x6, x7, x8⟩ := hx9.below hgb hC); clear hC; (try go_simp); (try with_reducible rfl); done)), _, (by (simp only [Act.put, List.setIfInBounds_toArray, List.set_cons_zero, List.set_cons_succ]; rfl)), ?_⟩
            refine lb_call (by kernel_rfl) (fun w' hC => HCM.out w' hC) (by (intro w'; go_simp; done)) ⟨_, (by (simp only [Act.put, List.setIfInBounds_toArray, List.set_cons_zero, List.set_cons_succ]; rfl)), ?_⟩
            refine lb_val (by kernel_rfl) ⟨_, (by (intro w' hC; clear hC; (try go_simp); (try with_reducible rfl); done)), _, (by (simp only [Act.put, List.setIfInBounds_toArray, List.set_cons_zero, List.set_cons_succ]; rfl)), ?_⟩
            refine lb_val (by kernel_rfl) ⟨_, (by (intro w' hC; clear hC; (try go_simp); (try with_reducible rfl); done)), _, (by (simp only [Act.put, List.setIfInBounds_toArray, List.set_cons_zero, List.set_cons_succ]; rfl)), ?_⟩
            refine .nil ?_
            intro w2 hb2
            have hbw2 := hbw.trans (hb2.mono hbw.size)
            clear hx9 hy9 HCM hb2 hbw
            go_wp2_with fail
            go_roundw
            case rel => exact ⟨h + 1, r, by omega, by omega, hr0, by go_num, rfl, HF12, HF2, hbw2⟩
            case measure => have := HHD.out; simp [intOf]; omega
        · obtain rfl : s = r := by omega
          obtain ⟨e, he⟩ : ∃ e, e = mid + m - s := ⟨_, rfl⟩
          have hnum : s ≤ m ∧ a ≤ s ∧ s ≤ mid ∧ m ≤ e ∧ e ≤ b ∧ mid ≤ e ∧ e + s = mid + m := by
            have h1 := (Or.inl ⟨HC.out.1, HC.out.2, rfl⟩ : (mid < m ∧ s0 + b = mid + m ∧ mid = mid) ∨ (m ≤ mid ∧ s0 = a ∧ mid = m))
            have h2 := HMID.out
            have h3 := HAM.out
            have h4 := HMB.out
            have h6 := HLR.out
            omega
          obtain ⟨n1, n2, n3, n4, n5, n6, n7⟩ := hnum
          have hwe : IntKind.i64.wrap ((n : Int) - (s : Int)) = (e : Int) := by
            have h1 := HNN.out
            rw [IntKind.wrap_i64]; omega
          have HEQ := Lib.hid (sym_final ordC (P := P) (L := L) (R := R) (Q := Q) HPA.out HLM.out HRB.out HSL.out HSR.out HMID.out HLR.out.1 HLR.out.2 (s0 := s0) (r0 := mid) (Or.inl ⟨HC.out.1, HC.out.2, rfl⟩ : (mid < m ∧ s0 + b = mid + m ∧ mid = mid) ∨ (m ≤ mid ∧ s0 = a ∧ mid = m)) hs0 hr0 (by rw [← HX.out]; exact HF1.out) (by rw [← HX.out]; exact HF2.out))
          obtain ⟨L1, hL1⟩ : ∃ L1, L1 = L.take (s - a) := ⟨_, rfl⟩
          obtain ⟨L2, hL2⟩ : ∃ L2, L2 = L.drop (s - a) := ⟨_, rfl⟩
          obtain ⟨R1, hR1⟩ : ∃ R1, R1 = R.take (mid - s) := ⟨_, rfl⟩
          obtain ⟨R2, hR2⟩ : ∃ R2, R2 = R.drop (mid - s) := ⟨_, rfl⟩
          rw [← hL1, ← hL2, ← hR1, ← hR2] at HEQ
          have hLM := HLM.out
          have hRB := HRB.out
          have HAS : Hid (a + L1.length = s) := Lib.hid (by rw [hL1, List.length_take]; omega)
          have HSM2 : Hid (s + L2.length = m) := Lib.hid (by rw [hL2, List.length_drop]; omega)
          have HM2 : Hid (m + R1.length = e) := Lib.hid (by rw [hR1, List.length_take]; omega)
          have HEB : Hid (e + R2.length = b) := Lib.hid (by rw [hR2, List.length_drop]; omega)
          have HSM : Hid (s + R1.length = mid) := Lib.hid (by have := HM2.out; omega)
          have HME : Hid (mid + L2.length = e) := Lib.hid (by have := HSM2.out; omega)
          have HL12 : Hid (L = L1 ++ L2) := Lib.hid (by rw [hL1, hL2, List.take_append_drop])
          have HR12 : Hid (R = R1 ++ R2) := Lib.hid (by rw [hR1, hR2, List.take_append_drop])
          have hsl := HSL.out
          have hsr2 := HSR.out
          rw [HL12.out] at hsl
          rw [HR12.out] at hsr2
          have HSL1 : Hid (SortedC ltC L1) := Lib.hid (List.pairwise_append.1 hsl).1
          have HSL2 : Hid (SortedC ltC L2) := Lib.hid (List.pairwise_append.1 hsl).2.1
          have HSR1 : Hid (SortedC ltC R1) := Lib.hid (List.pairwise_append.1 hsr2).1
          have HSR2 : Hid (SortedC ltC R2) := Lib.hid (List.pairwise_append.1 hsr2).2.1
          obtain ⟨M1, hM1⟩ : ∃ M1, M1 = sortC ltC (L1 ++ R1) := ⟨_, rfl⟩
          have HM1 := Lib.hid hM1
          have HPS1 : Hid ((P ++ L1).length = s) := Lib.hid (by rw [List.length_append, HPA.out]; exact HAS.out)
          have HPM1 : Hid ((P ++ M1).length = mid) := Lib.hid (by
            have h1 := HAS.out
            have h2 := HSM.out
            rw [List.length_append, HPA.out, hM1, sortC_len, List.length_append]; omega)
          have HP1 : Hid (∀ z ∈ L1 ++ R1, z.p.size ≤ 140737488355328) := Lib.hid (fun z hz => HPZ.out z (by
            rw [HL12.out, HR12.out]
            simp only [List.mem_append] at hz ⊢
            rcases hz with hz | hz
            · exact .inl (.inl hz)
            · exact .inr (.inl hz)))
          have HP2 : Hid (∀ z ∈ L2 ++ R2, z.p.size ≤ 140737488355328) := Lib.hid (fun z hz => HPZ.out z (by
            rw [HL12.out, HR12.out]
            simp only [List.mem_append] at hz ⊢
            rcases hz with hz | hz
            · exact .inl (.inr hz)
            · exact .inr (.inr hz)))
          have hNL : N = P.length + L.length + R.length + Q.length := by rw [HN.out, HX.out]; simp only [List.length_append]
          rw [HL12.out, HR12.out, List.length_append, List.length_append] at hNL
          have HLEN0 : Hid (N = (P ++ L1 ++ L2 ++ R1 ++ (R2 ++ Q)).length) := Lib.hid (by simp only [List.length_append]; omega)
          have HLEN1 : Hid (N = (P ++ L1 ++ R1 ++ (L2 ++ (R2 ++ Q))).length) := Lib.hid (by simp only [List.length_append]; omega)
          have HLEN2 : Hid (N = (P ++ M1 ++ L2 ++ R2 ++ Q).length) := Lib.hid (by
            have h1 : M1.length = L1.length + R1.length := by rw [hM1, sortC_len, List.length_append]
            simp only [List.length_append]; omega)
          have HXE : Hid (X = P ++ L1 ++ L2 ++ R1 ++ (R2 ++ Q)) := Lib.hid (by rw [HX.out, HL12.out, HR12.out]; simp only [List.append_assoc])
          have HTT : Hid (TT = P ++ M1 ++ sortC ltC (L2 ++ R2) ++ Q) := Lib.hid (by rw [HT.out, HEQ.out, hM1]; simp only [List.append_assoc])
          have HX0 : Hid (RowC wr base (some ⟨g, off, none⟩) c X) := Lib.hid (HR.out.below hbw)
          have HG0 : Hid (Fr (fun b => ablk (some (⟨g, off, none⟩ : Addr)) = some b) w wr) := Lib.hid ((Fr.refl _ w).then_below hbw)
          clear hL1 hL2 hR1 hR2 hM1 hNL hsl hsr2 hLM hRB he hbw HEQ n7
          by_cases k1 : s < m
          · by_cases k2 : m < e
            · have HS1 := Lib.hid (rotate_any (some ⟨g, off, none⟩) c s m e N base (P ++ L1) L2 R1 (R2 ++ Q) wr (by have := HX0.out; rw [HXE.out] at this; exact this) HLEN0.out HPS1.out HSM2.out HM2.out (by have := HSM2.out; omega) (by have := HM2.out; omega) hl)
              go_wp2_with fail
              refine HS1.out.mono ?_
              rintro e' w7 ⟨rfl, hr7, hf7⟩
              have HV : Hid (RowC w7 base (some ⟨g, off, none⟩) c (P ++ L1 ++ R1 ++ (L2 ++ (R2 ++ Q)))) := Lib.hid (by simp only [List.append_assoc] at hr7 ⊢; exact hr7)
              have HG : Hid (Fr (fun b => ablk (some (⟨g, off, none⟩ : Addr)) = some b) w w7) := Lib.hid (HG0.out.trans hf7 (fun _ _ e => e))
              clear hr7 hf7 HS1 HX0 HG0
              by_cases k5 : a < s
              · by_cases k6 : s < mid
                · have HS2 := Lib.hid (ih a s mid P L1 R1 (L2 ++ (R2 ++ Q)) w7 (by have := HMB.out; omega) HV.out HLEN1.out HPA.out HAS.out HSM.out (by have := HAS.out; omega) (by have := HSM.out; omega) HSL1.out HSR1.out HP1.out)
                  go_wp2_with fail
                  refine HS2.out.mono ?_
                  rintro e' w8 ⟨rfl, hr8, hf8⟩
                  have HW : Hid (RowC w8 base (some ⟨g, off, none⟩) c (P ++ M1 ++ L2 ++ R2 ++ Q)) := Lib.hid (by rw [← HM1.out] at hr8; simp only [List.append_assoc] at hr8 ⊢; exact hr8)
                  have HF : Hid (Fr (fun b => ablk (some (⟨g, off, none⟩ : Addr)) = some b) w w8) := Lib.hid (HG.out.trans hf8 (fun _ _ e => e))
                  clear hr8 hf8 HS2 HV HG
                  by_cases k3 : mid < e
                  · have K3L : Hid (mid + L2.length = e) := HME
                    by_cases k4 : e < b
                    · have HS3 := Lib.hid (ih mid e b (P ++ M1) L2 R2 Q w8 (by have := HAM.out; have := HMB.out; omega) HW.out HLEN2.out HPM1.out HME.out HEB.out (by have := HME.out; omega) (by have := HEB.out; omega) HSL2.out HSR2.out HP2.out)
                      go_wp2_with fail
                      refine HS3.out.mono ?_
                      rintro e' w9 ⟨rfl, hr9, hf9⟩
                      have HRE : Hid (RowC w9 base (some ⟨g, off, none⟩) c TT) := Lib.hid (by rw [HTT.out]; exact hr9)
                      have HFE : Hid (Fr (fun b => ablk (some (⟨g, off, none⟩ : Addr)) = some b) w w9) := Lib.hid (HF.out.trans hf9 (fun _ _ e => e))
                      clear hr9 hf9 HS3 HW HF
                      go_wp2_with fail
                      go_end0
                      exact ⟨rfl, HRE.out, HFE.out⟩
                    · have HRE : Hid (RowC w8 base (some ⟨g, off, none⟩) c TT) := Lib.hid (by rw [HTT.out, sortC_nilR ordC HSL2.out (nil_of HEB.out k4)]; have := HW.out; rw [List.append_assoc (P ++ M1)] at this; exact this)
                      have HFE := HF
                      clear HW HF
                      go_wp2_with fail
                      go_end0
                      exact ⟨rfl, HRE.out, HFE.out⟩
                  · have HRE : Hid (RowC w8 base (some ⟨g, off, none⟩) c TT) := Lib.hid (by rw [HTT.out, sortC_nilL ordC HSR2.out (nil_of HME.out k3)]; have := HW.out; rw [List.append_assoc (P ++ M1)] at this; exact this)
                    have HFE := HF
                    clear HW HF
                    go_wp2_with fail
                    go_end0
                    exact ⟨rfl, HRE.out, HFE.out⟩
                · have HW : Hid (RowC w7 base (some ⟨g, off, none⟩) c (P ++ M1 ++ L2 ++ R2 ++ Q)) := Lib.hid (by
                    rw [HM1.out, sortC_nilR ordC HSL1.out (nil_of HSM.out k6)]
                    have := HV.out
                    simp only [List.append_assoc] at this ⊢
                    exact this)
                  have HF := HG
                  clear HV HG
                  by_cases k3 : mid < e
                  · have K3L : Hid (mid + L2.length = e) := HME
                    by_cases k4 : e < b
                    · have HS3 := Lib.hid (ih mid e b (P ++ M1) L2 R2 Q w7 (by have := HAM.out; have := HMB.out; omega) HW.out HLEN2.out HPM1.out HME.out HEB.out (by have := HME.out; omega) (by have := HEB.out; omega) HSL2.out HSR2.out HP2.out)
                      go_wp2_with fail
                      refine HS3.out.mono ?_
                      rintro e' w9 ⟨rfl, hr9, hf9⟩
                      have HRE : Hid (RowC w9 base (some ⟨g, off, none⟩) c TT) := Lib.hid (by rw [HTT.out]; exact hr9)
                      have HFE : Hid (Fr (fun b => ablk (some (⟨g, off, none⟩ : Addr)) = some b) w w9) := Lib.hid (HF.out.trans hf9 (fun _ _ e => e))
                      clear hr9 hf9 HS3 HW HF
                      go_wp2_with fail
                      go_end0
                      exact ⟨rfl, HRE.out, HFE.out⟩
                    · have HRE : Hid (RowC w7 base (some ⟨g, off, none⟩) c TT) := Lib.hid (by rw [HTT.out, sortC_nilR ordC HSL2.out (nil_of HEB.out k4)]; have := HW.out; rw [List.append_assoc (P ++ M1)] at this; exact this)
                      have HFE := HF
                      clear HW HF
                      go_wp2_with fail
                      go_end0
                      exact ⟨rfl, HRE.out, HFE.out⟩
                  · have HRE : Hid (RowC w7 base (some ⟨g, off, none⟩) c TT) := Lib.hid (by rw [HTT.out, sortC_nilL ordC HSR2.out (nil_of HME.out k3)]; have := HW.out; rw [List.append_assoc (P ++ M1)] at this; exact this)
                    have HFE := HF
                    clear HW HF
                    go_wp2_with fail
                    go_end0
                    exact ⟨rfl, HRE.out, HFE.out⟩
              · have HW : Hid (RowC w7 base (some ⟨g, off, none⟩) c (P ++ M1 ++ L2 ++ R2 ++ Q)) := Lib.hid (by
                  rw [HM1.out, sortC_nilL ordC HSR1.out (nil_of HAS.out k5)]
                  have := HV.out
                  simp only [List.append_assoc] at this ⊢
                  exact this)
                have HF := HG
                clear HV HG
                by_cases k3 : mid < e
                · have K3L : Hid (mid + L2.length = e) := HME
                  by_cases k4 : e < b
                  · have HS3 := Lib.hid (ih mid e b (P ++ M1) L2 R2 Q w7 (by have := HAM.out; have := HMB.out; omega) HW.out HLEN2.out HPM1.out HME.out HEB.out (by have := HME.out; omega) (by have := HEB.out; omega) HSL2.out HSR2.out HP2.out)
                    go_wp2_with fail
                    refine HS3.out.mono ?_
                    rintro e' w9 ⟨rfl, hr9, hf9⟩
                    have HRE : Hid (RowC w9 base (some ⟨g, off, none⟩) c TT) := Lib.hid (by rw [HTT.out]; exact hr9)
                    have HFE : Hid (Fr (fun b => ablk (some (⟨g, off, none⟩ : Addr)) = some b) w w9) := Lib.hid (HF.out.trans hf9 (fun _ _ e => e))
                    clear hr9 hf9 HS3 HW HF
                    go_wp2_with fail
                    go_end0
                    exact ⟨rfl, HRE.out, HFE.out⟩
                  · have HRE : Hid (RowC w7 base (some ⟨g, off, none⟩) c TT) := Lib.hid (by rw [HTT.out, sortC_nilR ordC HSL2.out (nil_of HEB.out k4)]; have := HW.out; rw [List.append_assoc (P ++ M1)] at this; exact this)
                    have HFE := HF
                    clear HW HF
                    go_wp2_with fail
                    go_end0
                    exact ⟨rfl, HRE.out, HFE.out⟩
                · have HRE : Hid (RowC w7 base (some ⟨g, off, none⟩) c TT) := Lib.hid (by rw [HTT.out, sortC_nilL ordC HSR2.out (nil_of HME.out k3)]; have := HW.out; rw [List.append_assoc (P ++ M1)] at this; exact this)
                  have HFE := HF
                  clear HW HF
                  go_wp2_with fail
                  go_end0
                  exact ⟨rfl, HRE.out, HFE.out⟩
            · have HV : Hid (RowC wr base (some ⟨g, off, none⟩) c (P ++ L1 ++ R1 ++ (L2 ++ (R2 ++ Q)))) := Lib.hid (by
                have := HX0.out
                rw [HXE.out, nil_of HM2.out k2] at this
                rw [nil_of HM2.out k2]
                simpa only [List.append_assoc, List.nil_append] using this)
              have HG := HG0
              clear HX0 HG0
              by_cases k5 : a < s
              · by_cases k6 : s < mid
                · have HS2 := Lib.hid (ih a s mid P L1 R1 (L2 ++ (R2 ++ Q)) wr (by have := HMB.out; omega) HV.out HLEN1.out HPA.out HAS.out HSM.out (by have := HAS.out; omega) (by have := HSM.out; omega) HSL1.out HSR1.out HP1.out)
                  go_wp2_with fail
                  refine HS2.out.mono ?_
                  rintro e' w8 ⟨rfl, hr8, hf8⟩
                  have HW : Hid (RowC w8 base (some ⟨g, off, none⟩) c (P ++ M1 ++ L2 ++ R2 ++ Q)) := Lib.hid (by rw [← HM1.out] at hr8; simp only [List.append_assoc] at hr8 ⊢; exact hr8)
                  have HF : Hid (Fr (fun b => ablk (some (⟨g, off, none⟩ : Addr)) = some b) w w8) := Lib.hid (HG.out.trans hf8 (fun _ _ e => e))
                  clear hr8 hf8 HS2 HV HG
                  by_cases k3 : mid < e
                  · have K3L : Hid (mid + L2.length = e) := HME
                    by_cases k4 : e < b
                    · have HS3 := Lib.hid (ih mid e b (P ++ M1) L2 R2 Q w8 (by have := HAM.out; have := HMB.out; omega) HW.out HLEN2.out HPM1.out HME.out HEB.out (by have := HME.out; omega) (by have := HEB.out; omega) HSL2.out HSR2.out HP2.out)
                      go_wp2_with fail
                      refine HS3.out.mono ?_
                      rintro e' w9 ⟨rfl, hr9, hf9⟩
                      have HRE : Hid (RowC w9 base (some ⟨g, off, none⟩) c TT) := Lib.hid (by rw [HTT.out]; exact hr9)
                      have HFE : Hid (Fr (fun b => ablk (some (⟨g, off, none⟩ : Addr)) = some b) w w9) := Lib.hid (HF.out.trans hf9 (fun _ _ e => e))
                      clear hr9 hf9 HS3 HW HF
                      go_wp2_with fail
                      go_end0
                      exact ⟨rfl, HRE.out, HFE.out⟩
                    · have HRE : Hid (RowC w8 base (some ⟨g, off, none⟩) c TT) := Lib.hid (by rw [HTT.out, sortC_nilR ordC HSL2.out (nil_of HEB.out k4)]; have := HW.out; rw [List.append_assoc (P ++ M1)] at this; exact this)
                      have HFE := HF
                      clear HW HF
                      go_wp2_with fail
                      go_end0
                      exact ⟨rfl, HRE.out, HFE.out⟩
                  · have HRE : Hid (RowC w8 base (some ⟨g, off, none⟩) c TT) := Lib.hid (by rw [HTT.out, sortC_nilL ordC HSR2.out (nil_of HME.out k3)]; have := HW.out; rw [List.append_assoc (P ++ M1)] at this; exact this)
                    have HFE := HF
                    clear HW HF
                    go_wp2_with fail
                    go_end0
                    exact ⟨rfl, HRE.out, HFE.out⟩
                · have HW : Hid (RowC wr base (some ⟨g, off, none⟩) c (P ++ M1 ++ L2 ++ R2 ++ Q)) := Lib.hid (by
                    rw [HM1.out, sortC_nilR ordC HSL1.out (nil_of HSM.out k6)]
                    have := HV.out
                    simp only [List.append_assoc] at this ⊢
                    exact this)
                  have HF := HG
                  clear HV HG
                  by_cases k3 : mid < e
                  · have K3L : Hid (mid + L2.length = e) := HME
                    by_cases k4 : e < b
                    · have HS3 := Lib.hid (ih mid e b (P ++ M1) L2 R2 Q wr (by have := HAM.out; have := HMB.out; omega) HW.out HLEN2.out HPM1.out HME.out HEB.out (by have := HME.out; omega) (by have := HEB.out; omega) HSL2.out HSR2.out HP2.out)
                      go_wp2_with fail
                      refine HS3.out.mono ?_
                      rintro e' w9 ⟨rfl, hr9, hf9⟩
                      have HRE : Hid (RowC w9 base (some ⟨g, off, none⟩) c TT) := Lib.hid (by rw [HTT.out]; exact hr9)
                      have HFE : Hid (Fr (fun b => ablk (some (⟨g, off, none⟩ : Addr)) = some b) w w9) := Lib.hid (HF.out.trans hf9 (fun _ _ e => e))
                      clear hr9 hf9 HS3 HW HF
                      go_wp2_with fail
                      go_end0
                      exact ⟨rfl, HRE.out, HFE.out⟩
                    · have HRE : Hid (RowC wr base (some ⟨g, off, none⟩) c TT) := Lib.hid (by rw [HTT.out, sortC_nilR ordC HSL2.out (nil_of HEB.out k4)]; have := HW.out; rw [List.append_assoc (P ++ M1)] at this; exact this)
                      have HFE := HF
                      clear HW HF
                      go_wp2_with fail
                      go_end0
                      exact ⟨rfl, HRE.out, HFE.out⟩
                  · have HRE : Hid (RowC wr base (some ⟨g, off, none⟩) c TT) := Lib.hid (by rw [HTT.out, sortC_nilL ordC HSR2.out (nil_of HME.out k3)]; have := HW.out; rw [List.append_assoc (P ++ M1)] at this; exact this)
                    have HFE := HF
                    clear HW HF
                    go_wp2_with fail
                    go_end0
                    exact ⟨rfl, HRE.out, HFE.out⟩
              · have HW : Hid (RowC wr base (some ⟨g, off, none⟩) c (P ++ M1 ++ L2 ++ R2 ++ Q)) := Lib.hid (by
                  rw [HM1.out, sortC_nilL ordC HSR1.out (nil_of HAS.out k5)]
                  have := HV.out
                  simp only [List.append_assoc] at this ⊢
                  exact this)
                have HF := HG
                clear HV HG
                by_cases k3 : mid < e
                · have K3L : Hid (mid + L2.length = e) := HME
                  by_cases k4 : e < b
                  · have HS3 := Lib.hid (ih mid e b (P ++ M1) L2 R2 Q wr (by have := HAM.out; have := HMB.out; omega) HW.out HLEN2.out HPM1.out HME.out HEB.out (by have := HME.out; omega) (by have := HEB.out; omega) HSL2.out HSR2.out HP2.out)
                    go_wp2_with fail
                    refine HS3.out.mono ?_
                    rintro e' w9 ⟨rfl, hr9, hf9⟩
                    have HRE : Hid (RowC w9 base (some ⟨g, off, none⟩) c TT) := Lib.hid (by rw [HTT.out]; exact hr9)
                    have HFE : Hid (Fr (fun b => ablk (some (⟨g, off, none⟩ : Addr)) = some b) w w9) := Lib.hid (HF.out.trans hf9 (fun _ _ e => e))
                    clear hr9 hf9 HS3 HW HF
                    go_wp2_with fail
                    go_end0
                    exact ⟨rfl, HRE.out, HFE.out⟩
                  · have HRE : Hid (RowC wr base (some ⟨g, off, none⟩) c TT) := Lib.hid (by rw [HTT.out, sortC_nilR ordC HSL2.out (nil_of HEB.out k4)]; have := HW.out; rw [List.append_assoc (P ++ M1)] at this; exact this)
                    have HFE := HF
                    clear HW HF
                    go_wp2_with fail
                    go_end0
                    exact ⟨rfl, HRE.out, HFE.out⟩
                · have HRE : Hid (RowC wr base (some ⟨g, off, none⟩) c TT) := Lib.hid (by rw [HTT.out, sortC_nilL ordC HSR2.out (nil_of HME.out k3)]; have := HW.out; rw [List.append_assoc (P ++ M1)] at this; exact this)
                  have HFE := HF
                  clear HW HF
                  go_wp2_with fail
                  go_end0
                  exact ⟨rfl, HRE.out, HFE.out⟩
          · have HV : Hid (RowC wr base (some ⟨g, off, none⟩) c (P ++ L1 ++ R1 ++ (L2 ++ (R2 ++ Q)))) := Lib.hid (by
              have := HX0.out
              rw [HXE.out, nil_of HSM2.out k1] at this
              rw [nil_of HSM2.out k1]
              simpa only [List.append_assoc, List.nil_append] using this)
            have HG := HG0
            clear HX0 HG0
            by_cases k5 : a < s
            · by_cases k6 : s < mid
              · have HS2 := Lib.hid (ih a s mid P L1 R1 (L2 ++ (R2 ++ Q)) wr (by have := HMB.out; omega) HV.out HLEN1.out HPA.out HAS.out HSM.out (by have := HAS.out; omega) (by have := HSM.out; omega) HSL1.out HSR1.out HP1.out)
                go_wp2_with fail
                refine HS2.out.mono ?_
                rintro e' w8 ⟨rfl, hr8, hf8⟩
                have HW : Hid (RowC w8 base (some ⟨g, off, none⟩) c (P ++ M1 ++ L2 ++ R2 ++ Q)) := Lib.hid (by rw [← HM1.out] at hr8; simp only [List.append_assoc] at hr8 ⊢; exact hr8)
                have HF : Hid (Fr (fun b => ablk (some (⟨g, off, none⟩ : Addr)) = some b) w w8) := Lib.hid (HG.out.trans hf8 (fun _ _ e => e))
                clear hr8 hf8 HS2 HV HG
                by_cases k3 : mid < e
                · have K3L : Hid (mid + L2.length = e) := HME
                  by_cases k4 : e < b
                  · have HS3 := Lib.hid (ih mid e b (P ++ M1) L2 R2 Q w8 (by have := HAM.out; have := HMB.out; omega) HW.out HLEN2.out HPM1.out HME.out HEB.out (by have := HME.out; omega) (by have := HEB.out; omega) HSL2.out HSR2.out HP2.out)
                    go_wp2_with fail
                    refine HS3.out.mono ?_
                    rintro e' w9 ⟨rfl, hr9, hf9⟩
                    have HRE : Hid (RowC w9 base (some ⟨g, off, none⟩) c TT) := Lib.hid (by rw [HTT.out]; exact hr9)
                    have HFE : Hid (Fr (fun b => ablk (some (⟨g, off, none⟩ : Addr)) = some b) w w9) := Lib.hid (HF.out.trans hf9 (fun _ _ e => e))
                    clear hr9 hf9 HS3 HW HF
                    go_wp2_with fail
                    go_end0
                    exact ⟨rfl, HRE.out, HFE.out⟩
                  · have HRE : Hid (RowC w8 base (some ⟨g, off, none⟩) c TT) := Lib.hid (by rw [HTT.out, sortC_nilR ordC HSL2.out (nil_of HEB.out k4)]; have := HW.out; rw [List.append_assoc (P ++ M1)] at this; exact this)
                    have HFE := HF
                    clear HW HF
                    go_wp2_with fail
                    go_end0
                    exact ⟨rfl, HRE.out, HFE.out⟩
                · have HRE : Hid (RowC w8 base (some ⟨g, off, none⟩) c TT) := Lib.hid (by rw [HTT.out, sortC_nilL ordC HSR2.out (nil_of HME.out k3)]; have := HW.out; rw [List.append_assoc (P ++ M1)] at this; exact this)
                  have HFE := HF
                  clear HW HF
                  go_wp2_with fail
                  go_end0
                  exact ⟨rfl, HRE.out, HFE.out⟩
              · have HW : Hid (RowC wr base (some ⟨g, off, none⟩) c (P ++ M1 ++ L2 ++ R2 ++ Q)) := Lib.hid (by
                  rw [HM1.out, sortC_nilR ordC HSL1.out (nil_of HSM.out k6)]
                  have := HV.out
                  simp only [List.append_assoc] at this ⊢
                  exact this)
                have HF := HG
                clear HV HG
                by_cases k3 : mid < e
                · have K3L : Hid (mid + L2.length = e) := HME
                  by_cases k4 : e < b
                  · have HS3 := Lib.hid (ih mid e b (P ++ M1) L2 R2 Q wr (by have := HAM.out; have := HMB.out; omega) HW.out HLEN2.out HPM1.out HME.out HEB.out (by have := HME.out; omega) (by have := HEB.out; omega) HSL2.out HSR2.out HP2.out)
                    go_wp2_with fail
                    refine HS3.out.mono ?_
                    rintro e' w9 ⟨rfl, hr9, hf9⟩
                    have HRE : Hid (RowC w9 base (some ⟨g, off, none⟩) c TT) := Lib.hid (by rw [HTT.out]; exact hr9)
                    have HFE : Hid (Fr (fun b => ablk (some (⟨g, off, none⟩ : Addr)) = some b) w w9) := Lib.hid (HF.out.trans hf9 (fun _ _ e => e))
                    clear hr9 hf9 HS3 HW HF
                    go_wp2_with fail
                    go_end0
                    exact ⟨rfl, HRE.out, HFE.out⟩
                  · have HRE : Hid (RowC wr base (some ⟨g, off, none⟩) c TT) := Lib.hid (by rw [HTT.out, sortC_nilR ordC HSL2.out (nil_of HEB.out k4)]; have := HW.out; rw [List.append_assoc (P ++ M1)] at this; exact this)
                    have HFE := HF
                    clear HW HF
                    go_wp2_with fail
                    go_end0
                    exact ⟨rfl, HRE.out, HFE.out⟩
                · have HRE : Hid (RowC wr base (some ⟨g, off, none⟩) c TT) := Lib.hid (by rw [HTT.out, sortC_nilL ordC HSR2.out (nil_of HME.out k3)]; have := HW.out; rw [List.append_assoc (P ++ M1)] at this; exact this)
                  have HFE := HF
                  clear HW HF
                  go_wp2_with fail
                  go_end0
                  exact ⟨rfl, HRE.out, HFE.out⟩
            · have HW : Hid (RowC wr base (some ⟨g, off, none⟩) c (P ++ M1 ++ L2 ++ R2 ++ Q)) := Lib.hid (by
                rw [HM1.out, sortC_nilL ordC HSR1.out (nil_of HAS.out k5)]
                have := HV.out
                simp only [List.append_assoc] at this ⊢
                exact this)
              have HF := HG
              clear HV HG
              by_cases k3 : mid < e
              · have K3L : Hid (mid + L2.length = e) := HME
                by_cases k4 : e < b
                · have HS3 := Lib.hid (ih mid e b (P ++ M1) L2 R2 Q wr (by have := HAM.out; have := HMB.out; omega) HW.out HLEN2.out HPM1.out HME.out HEB.out (by have := HME.out; omega) (by have := HEB.out; omega) HSL2.out HSR2.out HP2.out)
                  go_wp2_with fail
                  refine HS3.out.mono ?_
                  rintro e' w9 ⟨rfl, hr9, hf9⟩
                  have HRE : Hid (RowC w9 base (some ⟨g, off, none⟩) c TT) := Lib.hid (by rw [HTT.out]; exact hr9)
                  have HFE : Hid (Fr (fun b => ablk (some (⟨g, off, none⟩ : Addr)) = some b) w w9) := Lib.hid (HF.out.trans hf9 (fun _ _ e => e))
                  clear hr9 hf9 HS3 HW HF
                  go_wp2_with fail
                  go_end0
                  exact ⟨rfl, HRE.out, HFE.out⟩
                · have HRE : Hid (RowC wr base (some ⟨g, off, none⟩) c TT) := Lib.hid (by rw [HTT.out, sortC_nilR ordC HSL2.out (nil_of HEB.out k4)]; have := HW.out; rw [List.append_assoc (P ++ M1)] at this; exact this)
                  have HFE := HF
                  clear HW HF
                  go_wp2_with fail
                  go_end0
                  exact ⟨rfl, HRE.out, HFE.out⟩
              · have HRE : Hid (RowC wr base (some ⟨g, off, none⟩) c TT) := Lib.hid (by rw [HTT.out, sortC_nilL ordC HSR2.out (nil_of HME.out k3)]; have := HW.out; rw [List.append_assoc (P ++ M1)] at this; exact this)
                have HFE := HF
                clear HW HF
                go_wp2_with fail
                go_end0
                exact ⟨rfl, HRE.out, HFE.out⟩
    · have HC : Hid (m ≤ mid) := Lib.hid (by omega)
      have HS0R : Hid (a ≤ m) := Lib.hid (by omega)
      clear h hN hP hm hb hsL hsR hp hX hT h1 h2 e1 e2 hmid hn hpp hK HGL HGR
      go_enter Tryz.func70, Tryz.ntmps70
      go_wp2_with fail
      go_loopw [20, 21, 23] (fun iv jv _ wr => ∃ (s r : Nat), a ≤ s ∧ s ≤ r ∧ r ≤ m ∧ iv = .int .i64 (s : Int) ∧ jv = .int .i64 (r : Int) ∧ Hid (s = a ∨ ∃ x y, X[s - 1]? = some x ∧ X[mid + m - s]? = some y ∧ ltC y x = false) ∧ Hid (r = m ∨ ∃ x y, X[r]? = some x ∧ X[mid + m - 1 - r]? = some y ∧ ltC y x = true) ∧ Below w.heap.size w wr) (fun iv jv _ _ => (intOf jv).toNat - (intOf iv).toNat)
      case atStart => exact ⟨a, m, Nat.le_refl _, by have := HS0R.out; omega, Nat.le_refl _, rfl, rfl, Lib.hid (.inl rfl), Lib.hid (.inl rfl), Below.refl _ _⟩
      case round =>
        obtain ⟨s, r, hs0, hsr, hr0, rfl, rfl, HF1, HF2, hbw⟩ := hrel
        by_cases hlt : s < r
        · obtain ⟨h, hhd⟩ : ∃ q : Nat, q = (s + r) / 2 := ⟨_, rfl⟩
          have HHD := Lib.hid hhd
          have hh1 := half_i64 s r h hhd
          have hhi : s ≤ h := by omega
          have hhj : h < r := by omega
          obtain ⟨q, hq⟩ : ∃ q, q = mid + m - 1 - h := ⟨_, rfl⟩
          have HQ := Lib.hid hq
          have hhN : h < N ∧ q < N ∧ h < m ∧ a ≤ h ∧ m ≤ q ∧ q < b := by
            have h1 := (Or.inr ⟨HC.out, rfl, rfl⟩ : (mid < m ∧ a + b = mid + m ∧ m = mid) ∨ (m ≤ mid ∧ a = a ∧ m = m))
            have h2 := HMID.out
            have h3 := HAM.out
            have h4 := HMB.out
            have h5 := HBN.out
            have h6 := HLR.out
            omega
          obtain ⟨hhN, hqN, hhm, hah, hmq, hqb⟩ := hhN
          have hwq : IntKind.i64.wrap ((p : Int) - (h : Int)) = (q : Int) := by
            have h1 := HPP.out
            rw [IntKind.wrap_i64]; omega
          obtain ⟨x, hx⟩ : ∃ x, X[h]? = some x := ⟨_, List.getElem?_eq_getElem (by rw [← HN.out]; exact hhN)⟩
          obtain ⟨y, hy⟩ : ∃ y, X[q]? = some y := ⟨_, List.getElem?_eq_getElem (by rw [← HN.out]; exact hqN)⟩
          have HXX := Lib.hid hx
          have HYY := Lib.hid hy
          have hxp := HPX.out h x (by omega) (by omega) hx
          have hyp := HPX.out q y (by omega) (by omega) hy
          have hx9 := RowC.get (HR.out.below hbw) hx
          have hy9 := RowC.get (HR.out.below hbw) hy
          replace hgb := Nat.lt_of_lt_of_le hgb hbw.size
          have HCM := Lib.hid (fun W (_ : Below wr.heap.size wr W) => cmpC_any y x hyp hxp W)
          clear hx hy hhd hq hhm hah hmq hqb
          by_cases hlx : cmpT (tl y.p) (tl x.p) < 0
          · have hld : decide (cmpT (tl y.p) (tl x.p) < 0) = true := decide_eq_true hlx
            have HLX : Hid (ltC y x = true) := Lib.hid hld
            have HF22 : Hid (h = m ∨ ∃ x y, X[h]? = some x ∧ X[mid + m - 1 - h]? = some y ∧ ltC y x = true) := Lib.hid (.inr ⟨x, y, HXX.out, by rw [← HQ.out]; exact HYY.out, HLX.out⟩)
            go_wp2_with fail
            refine wp_region_b 14 (by kernel_rfl) (by kernel_rfl) ?_
            simp only [List.take_succ_cons, List.take_zero, List.drop_succ_cons, List.drop_zero]
            refine lb_move _ (by kernel_rfl) rfl ⟨_, (by ((try simp [go_sem]); (try rfl); done)), _, (by (simp only [Act.put, List.setIfInBounds_toArray, List.set_cons_zero, List.set_cons_succ]; rfl)), ?_⟩
            refine lb_move _ (by kernel_rfl) rfl ⟨_, (by ((try simp [go_sem]); (try rfl); done)), _, (by (simp only [Act.put, List.setIfInBounds_toArray, List.set_cons_zero, List.set_cons_succ]; rfl)), ?_⟩
            refine lb_move _ (by kernel_rfl) rfl ⟨_, (by ((try simp [go_sem]); (try rfl); done)), _, (by (simp only [Act.put, List.setIfInBounds_toArray, List.set_cons_zero, List.set_cons_succ]; rfl)), ?_⟩
            refine lb_move _ (by kernel_rfl) rfl ⟨_, (by ((try simp [go_sem]); (try rfl); done)), _, (by (simp only [Act.put, List.setIfInBounds_toArray, List.set_cons_zero, List.set_cons_succ]; rfl)), ?_⟩
            refine lb_val (by kernel_rfl) ⟨_, (by (intro w' hC; clear hC; (try go_simp); (try with_reducible rfl); done)), _, (by (simp only [Act.put, List.setIfInBounds_toArray, List.set_cons_zero, List.set_cons_succ]; rfl)), ?_⟩
            refine lb_val (by kernel_rfl) ⟨_, (by (intro w' hC; clear hC; (try go_simp); (try with_reducible rfl); done)), _, (by (simp only [Act.put, List.setIfInBounds_toArray, List.set_cons_zero, List.set_cons_succ]; rfl)), ?_⟩
            refine lb_val (by kernel_rfl) ⟨_, (by (intro w' hC; (obtain ⟨y0, y1, y2, y3, y4, y5, y6, y7, y8⟩ := hy9.below hgb hC); clear hC; (try go_simp); (try with_reducible rfl); done)), _, (by (simp only [Act.put, List.setIfInBounds_toArray, List.set_cons_zero, List.set_cons_succ]; rfl)), ?_⟩
            refine lb_move _ (by kernel_rfl) rfl ⟨_, (by ((try simp [go_sem]); (try rfl); done)), _, (by (simp only [Act.put, List.setIfInBounds_toArray, List.set_cons_zero, List.set_cons_succ]; rfl)), ?_⟩
            refine lb_move _ (by kernel_rfl) rfl ⟨_, (by ((try simp [go_sem]); (try rfl); done)), _, (by (simp only [Act.put, List.setIfInBounds_toArray, List.set_cons_zero, List.set_cons_succ]; rfl)), ?_⟩
            refine lb_val (by kernel_rfl) ⟨_, (by (intro w' hC; clear hC; (try go_simp); (try with_reducible rfl); done)), _, (by (simp only [Act.put, List.setIfInBounds_toArray, List.set_cons_zero, List.set_cons_succ]; rfl)), ?_⟩
            refine lb_val (by kernel_rfl) ⟨_, (by (intro w' hC; (obtain ⟨x0, x1, x2, x3, x4, x5, x6, x7, x8⟩ := hx9.below hgb hC); clear hC; (try go_simp); (try with_reducible rfl); done)), _, (by (simp only [Act.put, List.setIfInBounds_toArray, List.set_cons_zero, List.set_cons_succ]; rfl)), ?_⟩
            refine lb_call (by kernel_rfl) (fun w' hC => HCM.out w' hC) (by (intro w'; go_simp; done)) ⟨_, (by (simp only [Act.put, List.setIfInBounds_toArray, List.set_cons_zero, List.set_cons_succ]; rfl)), ?_⟩
            refine lb_val (by kernel_rfl) ⟨_, (by (intro w' hC; clear hC; (try go_simp); (try with_reducible rfl); done)), _, (by (simp only [Act.put, List.setIfInBounds_toArray, List.set_cons_zero, List.set_cons_succ]; rfl)), ?_⟩
            refine lb_val (by kernel_rfl) ⟨_, (by (intro w' hC; clear hC; (try go_simp); (try with_reducible rfl); done)), _, (by (simp only [Act.put, List.setIfInBounds_toArray, List.set_cons_zero, List.set_cons_succ]; rfl)), ?_⟩
            refine .nil ?_
            intro w2 hb2
            have hbw2 := hbw.trans (hb2.mono hbw.size)
            clear hx9 hy9 HCM hb2 hbw
            go_wp2_with fail
            go_roundw
            case rel => exact ⟨s, h, hs0, hhi, by omega, rfl, rfl, HF1, HF22, hbw2⟩
            case measure => have := HHD.out; simp [intOf]; omega
          · have hld : decide (cmpT (tl y.p) (tl x.p) < 0) = false := decide_eq_false hlx
            have HLX : Hid (ltC y x = false) := Lib.hid hld
            have HF12 : Hid (h + 1 = a ∨ ∃ x y, X[h + 1 - 1]? = some x ∧ X[mid + m - (h + 1)]? = some y ∧ ltC y x = false) := Lib.hid (.inr ⟨x, y, HXX.out, by have := HYY.out; rw [HQ.out, Nat.sub_sub, Nat.add_comm 1 h] at this; exact this, HLX.out⟩)
            go_wp2_with fail
            refine wp_region_b 14 (by kernel_rfl) (by kernel_rfl) ?_
            simp only [List.take_succ_cons, List.take_zero, List.drop_succ_cons, List.drop_zero]
            refine lb_move _ (by kernel_rfl) rfl ⟨_, (by ((try simp [go_sem]); (try rfl); done)), _, (by (simp only [Act.put, List.setIfInBounds_toArray, List.set_cons_zero, List.set_cons_succ]; rfl)), ?_⟩
            refine lb_move _ (by kernel_rfl) rfl ⟨_, (by ((try simp [go_sem]); (try rfl); done)), _, (by (simp only [Act.put, List.setIfInBounds_toArray, List.set_cons_zero, List.set_cons_succ]; rfl)), ?_⟩
            refine lb_move _ (by kernel_rfl) rfl ⟨_, (by ((try simp [go_sem]); (try rfl); done)), _, (by (simp only [Act.put, List.setIfInBounds_toArray, List.set_cons_zero, List.set_cons_succ]; rfl)), ?_⟩
            refine lb_move _ (by kernel_rfl) rfl ⟨_, (by ((try simp [go_sem]); (try rfl); done)), _, (by (simp only [Act.put, List.setIfInBounds_toArray, List.set_cons_zero, List.set_cons_succ]; rfl)), ?_⟩
            refine lb_val (by kernel_rfl) ⟨_, (by (intro w' hC; clear hC; (try go_simp); (try with_reducible rfl); done)), _, (by (simp only [Act.put, List.setIfInBounds_toArray, List.set_cons_zero, List.set_cons_succ]; rfl)), ?_⟩
            refine lb_val (by kernel_rfl) ⟨_, (by (intro w' hC; clear hC; (try go_simp); (try with_reducible rfl); done)), _, (by (simp only [Act.put, List.setIfInBounds_toArray, List.set_cons_zero, List.set_cons_succ]; rfl)), ?_⟩
            refine lb_val (by kernel_rfl) ⟨_, (by (intro w' hC; (obtain ⟨y0, y1, y2, y3, y4, y5, y6, y7, y8⟩ := hy9.below hgb hC); clear hC; (try go_simp); (try with_reducible rfl); done)), _, (by (simp only [Act.put, List.setIfInBounds_toArray, List.set_cons_zero, List.set_cons_succ]; rfl)), ?_⟩
            refine lb_move _ (by kernel_rfl) rfl ⟨_, (by ((try simp [go_sem]); (try rfl); done)), _, (by (simp only [Act.put, List.setIfInBounds_toArray, List.set_cons_zero, List.set_cons_succ]; rfl)), ?_⟩
            refine lb_move _ (by kernel_rfl) rfl ⟨_, (by ((try simp [go_sem]); (try rfl); done)), _, (by (simp only [Act.put, List.setIfInBounds_toArray, List.set_cons_zero, List.set_cons_succ]; rfl)), ?_⟩
            refine lb_val (by kernel_rfl) ⟨_, (by (intro w' hC; clear hC; (try go_simp); (try with_reducible rfl); done)), _, (by (simp only [Act.put, List.setIfInBounds_toArray, List.set_cons_zero, List.set_cons_succ]; rfl)), ?_⟩
            refine lb_val (by kernel_rfl) ⟨_, (by (intro w' hC; (obtain ⟨x0, x1, x2, x3, x4, x5, x6, x7, x8⟩ := hx9.below hgb hC); clear hC; (try go_simp); (try with_reducible rfl); done)), _, (by (simp only [Act.put, List.setIfInBounds_toArray, List.set_cons_zero, List.set_cons_succ]; rfl)), ?_⟩
            refine lb_call (by kernel_rfl) (fun w' hC => HCM.out w' hC) (by (intro w'; go_simp; done)) ⟨_, (by (simp only [Act.put, List.setIfInBounds_toArray, List.set_cons_zero, List.set_cons_succ]; rfl)), ?_⟩
            refine lb_val (by kernel_rfl) ⟨_, (by (intro w' hC; clear hC; (try go_simp); (try with_reducible rfl); done)), _, (by (simp only [Act.put, List.setIfInBounds_toArray, List.set_cons_zero, List.set_cons_succ]; rfl)), ?_⟩
            refine lb_val (by kernel_rfl) ⟨_, (by (intro w' hC; clear hC; (try go_simp); (try with_reducible rfl); done)), _, (by (simp only [Act.put, List.setIfInBounds_toArray, List.set_cons_zero, List.set_cons_succ]; rfl)), ?_⟩
            refine .nil ?_
            intro w2 hb2
            have hbw2 := hbw.trans (hb2.mono hbw.size)
            clear hx9 hy9 HCM hb2 hbw
            go_wp2_with fail
            go_roundw
            case rel => exact ⟨h + 1, r, by omega, by omega, hr0, by go_num, rfl, HF12, HF2, hbw2⟩
            case measure => have := HHD.out; simp [intOf]; omega
        · obtain rfl : s = r := by omega
          obtain ⟨e, he⟩ : ∃ e, e = mid + m - s := ⟨_, rfl⟩
          have hnum : s ≤ m ∧ a ≤ s ∧ s ≤ mid ∧ m ≤ e ∧ e ≤ b ∧ mid ≤ e ∧ e + s = mid + m := by
            have h1 := (Or.inr ⟨HC.out, rfl, rfl⟩ : (mid < m ∧ a + b = mid + m ∧ m = mid) ∨ (m ≤ mid ∧ a = a ∧ m = m))
            have h2 := HMID.out
            have h3 := HAM.out
            have h4 := HMB.out
            have h6 := HLR.out
            omega
          obtain ⟨n1, n2, n3, n4, n5, n6, n7⟩ := hnum
          have hwe : IntKind.i64.wrap ((n : Int) - (s : Int)) = (e : Int) := by
            have h1 := HNN.out
            rw [IntKind.wrap_i64]; omega
          have HEQ := Lib.hid (sym_final ordC (P := P) (L := L) (R := R) (Q := Q) HPA.out HLM.out HRB.out HSL.out HSR.out HMID.out HLR.out.1 HLR.out.2 (s0 := a) (r0 := m) (Or.inr ⟨HC.out, rfl, rfl⟩ : (mid < m ∧ a + b = mid + m ∧ m = mid) ∨ (m ≤ mid ∧ a = a ∧ m = m)) hs0 hr0 (by rw [← HX.out]; exact HF1.out) (by rw [← HX.out]; exact HF2.out))
          obtain ⟨L1, hL1⟩ : ∃ L1, L1 = L.take (s - a) := ⟨_, rfl⟩
          obtain ⟨L2, hL2⟩ : ∃ L2, L2 = L.drop (s - a) := ⟨_, rfl⟩
          obtain ⟨R1, hR1⟩ : ∃ R1, R1 = R.take (mid - s) := ⟨_, rfl⟩
          obtain ⟨R2, hR2⟩ : ∃ R2, R2 = R.drop (mid - s) := ⟨_, rfl⟩
          rw [← hL1, ← hL2, ← hR1, ← hR2] at HEQ
          have hLM := HLM.out
          have hRB := HRB.out
          have HAS : Hid (a + L1.length = s) := Lib.hid (by rw [hL1, List.length_take]; omega)
          have HSM2 : Hid (s + L2.length = m) := Lib.hid (by rw [hL2, List.length_drop]; omega)
          have HM2 : Hid (m + R1.length = e) := Lib.hid (by rw [hR1, List.length_take]; omega)
          have HEB : Hid (e + R2.length = b) := Lib.hid (by rw [hR2, List.length_drop]; omega)
          have HSM : Hid (s + R1.length = mid) := Lib.hid (by have := HM2.out; omega)
          have HME : Hid (mid + L2.length = e) := Lib.hid (by have := HSM2.out; omega)
          have HL12 : Hid (L = L1 ++ L2) := Lib.hid (by rw [hL1, hL2, List.take_append_drop])
          have HR12 : Hid (R = R1 ++ R2) := Lib.hid (by rw [hR1, hR2, List.take_append_drop])
          have hsl := HSL.out
          have hsr2 := HSR.out
          rw [HL12.out] at hsl
          rw [HR12.out] at hsr2
          have HSL1 : Hid (SortedC ltC L1) := Lib.hid (List.pairwise_append.1 hsl).1
          have HSL2 : Hid (SortedC ltC L2) := Lib.hid (List.pairwise_append.1 hsl).2.1
          have HSR1 : Hid (SortedC ltC R1) := Lib.hid (List.pairwise_append.1 hsr2).1
          have HSR2 : Hid (SortedC ltC R2) := Lib.hid (List.pairwise_append.1 hsr2).2.1
          obtain ⟨M1, hM1⟩ : ∃ M1, M1 = sortC ltC (L1 ++ R1) := ⟨_, rfl⟩
          have HM1 := Lib.hid hM1
          have HPS1 : Hid ((P ++ L1).length = s) := Lib.hid (by rw [List.length_append, HPA.out]; exact HAS.out)
          have HPM1 : Hid ((P ++ M1).length = mid) := Lib.hid (by
            have h1 := HAS.out
            have h2 := HSM.out
            rw [List.length_append, HPA.out, hM1, sortC_len, List.length_append]; omega)
          have HP1 : Hid (∀ z ∈ L1 ++ R1, z.p.size ≤ 140737488355328) := Lib.hid (fun z hz => HPZ.out z (by
            rw [HL12.out, HR12.out]
            simp only [List.mem_append] at hz ⊢
            rcases hz with hz | hz
            · exact .inl (.inl hz)
            · exact .inr (.inl hz)))
          have HP2 : Hid (∀ z ∈ L2 ++ R2, z.p.size ≤ 140737488355328) := Lib.hid (fun z hz => HPZ.out z (by
            rw [HL12.out, HR12.out]
            simp only [List.mem_append] at hz ⊢
            rcases hz with hz | hz
            · exact .inl (.inr hz)
            · exact .inr (.inr hz)))
          have hNL : N = P.length + L.length + R.length + Q.length := by rw [HN.out, HX.out]; simp only [List.length_append]
          rw [HL12.out, HR12.out, List.length_append, List.length_append] at hNL
          have HLEN0 : Hid (N = (P ++ L1 ++ L2 ++ R1 ++ (R2 ++ Q)).length) := Lib.hid (by simp only [List.length_append]; omega)
          have HLEN1 : Hid (N = (P ++ L1 ++ R1 ++ (L2 ++ (R2 ++ Q))).length) := Lib.hid (by simp only [List.length_append]; omega)
          have HLEN2 : Hid (N = (P ++ M1 ++ L2 ++ R2 ++ Q).length) := Lib.hid (by
            have h1 : M1.length = L1.length + R1.length := by rw [hM1, sortC_len, List.length_append]
            simp only [List.length_append]; omega)
          have HXE : Hid (X = P ++ L1 ++ L2 ++ R1 ++ (R2 ++ Q)) := Lib.hid (by rw [HX.out, HL12.out, HR12.out]; simp only [List.append_assoc])
          have HTT : Hid (TT = P ++ M1 ++ sortC ltC (L2 ++ R2) ++ Q) := Lib.hid (by rw [HT.out, HEQ.out, hM1]; simp only [List.append_assoc])
          have HX0 : Hid (RowC wr base (some ⟨g, off, none⟩) c X) := Lib.hid (HR.out.below hbw)
          have HG0 : Hid (Fr (fun b => ablk (some (⟨g, off, none⟩ : Addr)) = some b) w wr) := Lib.hid ((Fr.refl _ w).then_below hbw)
          clear hL1 hL2 hR1 hR2 hM1 hNL hsl hsr2 hLM hRB he hbw HEQ n7
          by_cases k1 : s < m
          · by_cases k2 : m < e
            · have HS1 := Lib.hid (rotate_any (some ⟨g, off, none⟩) c s m e N base (P ++ L1) L2 R1 (R2 ++ Q) wr (by have := HX0.out; rw [HXE.out] at this; exact this) HLEN0.out HPS1.out HSM2.out HM2.out (by have := HSM2.out; omega) (by have := HM2.out; omega) hl)
              go_wp2_with fail
              refine HS1.out.mono ?_
              rintro e' w7 ⟨rfl, hr7, hf7⟩
              have HV : Hid (RowC w7 base (some ⟨g, off, none⟩) c (P ++ L1 ++ R1 ++ (L2 ++ (R2 ++ Q)))) := Lib.hid (by simp only [List.append_assoc] at hr7 ⊢; exact hr7)
              have HG : Hid (Fr (fun b => ablk (some (⟨g, off, none⟩ : Addr)) = some b) w w7) := Lib.hid (HG0.out.trans hf7 (fun _ _ e => e))
              clear hr7 hf7 HS1 HX0 HG0
              by_cases k5 : a < s
              · by_cases k6 : s < mid
                · have HS2 := Lib.hid (ih a s mid P L1 R1 (L2 ++ (R2 ++ Q)) w7 (by have := HMB.out; omega) HV.out HLEN1.out HPA.out HAS.out HSM.out (by have := HAS.out; omega) (by have := HSM.out; omega) HSL1.out HSR1.out HP1.out)
                  go_wp2_with fail
                  refine HS2.out.mono ?_
                  rintro e' w8 ⟨rfl, hr8, hf8⟩
                  have HW : Hid (RowC w8 base (some ⟨g, off, none⟩) c (P ++ M1 ++ L2 ++ R2 ++ Q)) := Lib.hid (by rw [← HM1.out] at hr8; simp only [List.append_assoc] at hr8 ⊢; exact hr8)
                  have HF : Hid (Fr (fun b => ablk (some (⟨g, off, none⟩ : Addr)) = some b) w w8) := Lib.hid (HG.out.trans hf8 (fun _ _ e => e))
                  clear hr8 hf8 HS2 HV HG
                  by_cases k3 : mid < e
                  · have K3L : Hid (mid + L2.length = e) := HME
                    by_cases k4 : e < b
                    · have HS3 := Lib.hid (ih mid e b (P ++ M1) L2 R2 Q w8 (by have := HAM.out; have := HMB.out; omega) HW.out HLEN2.out HPM1.out HME.out HEB.out (by have := HME.out; omega) (by have := HEB.out; omega) HSL2.out HSR2.out HP2.out)
                      go_wp2_with fail
                      refine HS3.out.mono ?_
                      rintro e' w9 ⟨rfl, hr9, hf9⟩
                      have HRE : Hid (RowC w9 base (some ⟨g, off, none⟩) c TT) := Lib.hid (by rw [HTT.out]; exact hr9)
                      have HFE : Hid (Fr (fun b => ablk (some (⟨g, off, none⟩ : Addr)) = some b) w w9) := Lib.hid (HF.out.trans hf9 (fun _ _ e => e))
                      clear hr9 hf9 HS3 HW HF
                      go_wp2_with fail
                      go_end0
                      exact ⟨rfl, HRE.out, HFE.out⟩
                    · have HRE : Hid (RowC w8 base (some ⟨g, off, none⟩) c TT) := Lib.hid (by rw [HTT.out, sortC_nilR ordC HSL2.out (nil_of HEB.out k4)]; have := HW.out; rw [List.append_assoc (P ++ M1)] at this; exact this)
                      have HFE := HF
                      clear HW HF
                      go_wp2_with fail
                      go_end0
                      exact ⟨rfl, HRE.out, HFE.out⟩
                  · have HRE : Hid (RowC w8 base (some ⟨g, off, none⟩) c TT) := Lib.hid (by rw [HTT.out, sortC_nilL ordC HSR2.out (nil_of HME.out k3)]; have := HW.out; rw [List.append_assoc (P ++ M1)] at this; exact this)
                    have HFE := HF
                    clear HW HF
                    go_wp2_with fail
                    go_end0
                    exact ⟨rfl, HRE.out, HFE.out⟩
                · have HW : Hid (RowC w7 base (some ⟨g, off, none⟩) c (P ++ M1 ++ L2 ++ R2 ++ Q)) := Lib.hid (by
                    rw [HM1.out, sortC_nilR ordC HSL1.out (nil_of HSM.out k6)]
                    have := HV.out
                    simp only [List.append_assoc] at this ⊢
                    exact this)
                  have HF := HG
                  clear HV HG
                  by_cases k3 : mid < e
                  · have K3L : Hid (mid + L2.length = e) := HME
                    by_cases k4 : e < b
                    · have HS3 := Lib.hid (ih mid e b (P ++ M1) L2 R2 Q w7 (by have := HAM.out; have := HMB.out; omega) HW.out HLEN2.out HPM1.out HME.out HEB.out (by have := HME.out; omega) (by have := HEB.out; omega) HSL2.out HSR2.out HP2.out)
                      go_wp2_with fail
                      refine HS3.out.mono ?_
                      rintro e' w9 ⟨rfl, hr9, hf9⟩
                      have HRE : Hid (RowC w9 base (some ⟨g, off, none⟩) c TT) := Lib.hid (by rw [HTT.out]; exact hr9)
                      have HFE : Hid (Fr (fun b => ablk (some (⟨g, off, none⟩ : Addr)) = some b) w w9) := Lib.hid (HF.out.trans hf9 (fun _ _ e => e))
                      clear hr9 hf9 HS3 HW HF
                      go_wp2_with fail
                      go_end0
                      exact ⟨rfl, HRE.out, HFE.out⟩
                    · have HRE : Hid (RowC w7 base (some ⟨g, off, none⟩) c TT) := Lib.hid (by rw [HTT.out, sortC_nilR ordC HSL2.out (nil_of HEB.out k4)]; have := HW.out; rw [List.append_assoc (P ++ M1)] at this; exact this)
                      have HFE := HF
                      clear HW HF
                      go_wp2_with fail
                      go_end0
                      exact ⟨rfl, HRE.out, HFE.out⟩
                  · have HRE : Hid (RowC w7 base (some ⟨g, off, none⟩) c TT) := Lib.hid (by rw [HTT.out, sortC_nilL ordC HSR2.out (nil_of HME.out k3)]; have := HW.out; rw [List.append_assoc (P ++ M1)] at this; exact this)
                    have HFE := HF
                    clear HW HF
                    go_wp2_with fail
                    go_end0
                    exact ⟨rfl, HRE.out, HFE.out⟩
              · have HW : Hid (RowC w7 base (some ⟨g, off, none⟩) c (P ++ M1 ++ L2 ++ R2 ++ Q)) := Lib.hid (by
                  rw [HM1.out, sortC_nilL ordC HSR1.out (nil_of HAS.out k5)]
                  have := HV.out
                  simp only [List.append_assoc] at this ⊢
                  exact this)
                have HF := HG
                clear HV HG
                by_cases k3 : mid < e
                · have K3L : Hid (mid + L2.length = e) := HME
                  by_cases k4 : e < b
                  · have HS3 := Lib.hid (ih mid e b (P ++ M1) L2 R2 Q w7 (by have := HAM.out; have := HMB.out; omega) HW.out HLEN2.out HPM1.out HME.out HEB.out (by have := HME.out; omega) (by have := HEB.out; omega) HSL2.out HSR2.out HP2.out)
                    go_wp2_with fail
                    refine HS3.out.mono ?_
                    rintro e' w9 ⟨rfl, hr9, hf9⟩
                    have HRE : Hid (RowC w9 base (some ⟨g, off, none⟩) c TT) := Lib.hid (by rw [HTT.out]; exact hr9)
                    have HFE : Hid (Fr (fun b => ablk (some (⟨g, off, none⟩ : Addr)) = some b) w w9) := Lib.hid (HF.out.trans hf9 (fun _ _ e => e))
                    clear hr9 hf9 HS3 HW HF
                    go_wp2_with fail
                    go_end0
                    exact ⟨rfl, HRE.out, HFE.out⟩
                  · have HRE : Hid (RowC w7 base (some ⟨g, off, none⟩) c TT) := Lib.hid (by rw [HTT.out, sortC_nilR ordC HSL2.out (nil_of HEB.out k4)]; have := HW.out; rw [List.append_assoc (P ++ M1)] at this; exact this)
                    have HFE := HF
                    clear HW HF
                    go_wp2_with fail
                    go_end0
                    exact ⟨rfl, HRE.out, HFE.out⟩
                · have HRE : Hid (RowC w7 base (some ⟨g, off, none⟩) c TT) := Lib.hid (by rw [HTT.out, sortC_nilL ordC HSR2.out (nil_of HME.out k3)]; have := HW.out; rw [List.append_assoc (P ++ M1)] at this; exact this)
                  have HFE := HF
                  clear HW HF
                  go_wp2_with fail
                  go_end0
                  exact ⟨rfl, HRE.out, HFE.out⟩
            · have HV : Hid (RowC wr base (some ⟨g, off, none⟩) c (P ++ L1 ++ R1 ++ (L2 ++ (R2 ++ Q)))) := Lib.hid (by
                have := HX0.out
                rw [HXE.out, nil_of HM2.out k2] at this
                rw [nil_of HM2.out k2]
                simpa only [List.append_assoc, List.nil_append] using this)
              have HG := HG0
              clear HX0 HG0
              by_cases k5 : a < s
              · by_cases k6 : s < mid
                · have HS2 := Lib.hid (ih a s mid P L1 R1 (L2 ++ (R2 ++ Q)) wr (by have := HMB.out; omega) HV.out HLEN1.out HPA.out HAS.out HSM.out (by have := HAS.out; omega) (by have := HSM.out; omega) HSL1.out HSR1.out HP1.out)
                  go_wp2_with fail
                  refine HS2.out.mono ?_
                  rintro e' w8 ⟨rfl, hr8, hf8⟩
                  have HW : Hid (RowC w8 base (some ⟨g, off, none⟩) c (P ++ M1 ++ L2 ++ R2 ++ Q)) := Lib.hid (by rw [← HM1.out] at hr8; simp only [List.append_assoc] at hr8 ⊢; exact hr8)
                  have HF : Hid (Fr (fun b => ablk (some (⟨g, off, none⟩ : Addr)) = some b) w w8) := Lib.hid (HG.out.trans hf8 (fun _ _ e => e))
                  clear hr8 hf8 HS2 HV HG
                  by_cases k3 : mid < e
                  · have K3L : Hid (mid + L2.length = e) := HME
                    by_cases k4 : e < b
                    · have HS3 := Lib.hid (ih mid e b (P ++ M1) L2 R2 Q w8 (by have := HAM.out; have := HMB.out; omega) HW.out HLEN2.out HPM1.out HME.out HEB.out (by have := HME.out; omega) (by have := HEB.out; omega) HSL2.out HSR2.out HP2.out)
                      go_wp2_with fail
                      refine HS3.out.mono ?_
                      rintro e' w9 ⟨rfl, hr9, hf9⟩
                      have HRE : Hid (RowC w9 base (some ⟨g, off, none⟩) c TT) := Lib.hid (by rw [HTT.out]; exact hr9)
                      have HFE : Hid (Fr (fun b => ablk (some (⟨g, off, none⟩ : Addr)) = some b) w w9) := Lib.hid (HF.out.trans hf9 (fun _ _ e => e))
                      clear hr9 hf9 HS3 HW HF
                      go_wp2_with fail
                      go_end0
                      exact ⟨rfl, HRE.out, HFE.out⟩
                    · have HRE : Hid (RowC w8 base (some ⟨g, off, none⟩) c TT) := Lib.hid (by rw [HTT.out, sortC_nilR ordC HSL2.out (nil_of HEB.out k4)]; have := HW.out; rw [List.append_assoc (P ++ M1)] at this; exact this)
                      have HFE := HF
                      clear HW HF
                      go_wp2_with fail
                      go_end0
                      exact ⟨rfl, HRE.out, HFE.out⟩
                  · have HRE : Hid (RowC w8 base (some ⟨g, off, none⟩) c TT) := Lib.hid (by rw [HTT.out, sortC_nilL ordC HSR2.out (nil_of HME.out k3)]; have := HW.out; rw [List.append_assoc (P ++ M1)] at this; exact this)
                    have HFE := HF
                    clear HW HF
                    go_wp2_with fail
                    go_end0
                    exact ⟨rfl, HRE.out, HFE.out⟩
                · have HW : Hid (RowC wr base (some ⟨g, off, none⟩) c (P ++ M1 ++ L2 ++ R2 ++ Q)) := Lib.hid (by
                    rw [HM1.out, sortC_nilR ordC HSL1.out (nil_of HSM.out k6)]
                    have := HV.out
                    simp only [List.append_assoc] at this ⊢
                    exact this)
                  have HF := HG
                  clear HV HG
                  by_cases k3 : mid < e
                  · have K3L : Hid (mid + L2.length = e) := HME
                    by_cases k4 : e < b
                    · have HS3 := Lib.hid (ih mid e b (P ++ M1) L2 R2 Q wr (by have := HAM.out; have := HMB.out; omega) HW.out HLEN2.out HPM1.out HME.out HEB.out (by have := HME.out; omega) (by have := HEB.out; omega) HSL2.out HSR2.out HP2.out)
                      go_wp2_with fail
                      refine HS3.out.mono ?_
                      rintro e' w9 ⟨rfl, hr9, hf9⟩
                      have HRE : Hid (RowC w9 base (some ⟨g, off, none⟩) c TT) := Lib.hid (by rw [HTT.out]; exact hr9)
                      have HFE : Hid (Fr (fun b => ablk (some (⟨g, off, none⟩ : Addr)) = some b) w w9) := Lib.hid (HF.out.trans hf9 (fun _ _ e => e))
                      clear hr9 hf9 HS3 HW HF
                      go_wp2_with fail
                      go_end0
                      exact ⟨rfl, HRE.out, HFE.out⟩
                    · have HRE : Hid (RowC wr base (some ⟨g, off, none⟩) c TT) := Lib.hid (by rw [HTT.out, sortC_nilR ordC HSL2.out (nil_of HEB.out k4)]; have := HW.out; rw [List.append_assoc (P ++ M1)] at this; exact this)
                      have HFE := HF
                      clear HW HF
                      go_wp2_with fail
                      go_end0
                      exact ⟨rfl, HRE.out, HFE.out⟩
                  · have HRE : Hid (RowC wr base (some ⟨g, off, none⟩) c TT) := Lib.hid (by rw [HTT.out, sortC_nilL ordC HSR2.out (nil_of HME.out k3)]; have := HW.out; rw [List.append_assoc (P ++ M1)] at this; exact this)
                    have HFE := HF
                    clear HW HF
                    go_wp2_with fail
                    go_end0
                    exact ⟨rfl, HRE.out, HFE.out⟩
              · have HW : Hid (RowC wr base (some ⟨g, off, none⟩) c (P ++ M1 ++ L2 ++ R2 ++ Q)) := Lib.hid (by
                  rw [HM1.out, sortC_nilL ordC HSR1.out (nil_of HAS.out k5)]
                  have := HV.out
                  simp only [List.append_assoc] at this ⊢
                  exact this)
                have HF := HG
                clear HV HG
                by_cases k3 : mid < e
                · have K3L : Hid (mid + L2.length = e) := HME
                  by_cases k4 : e < b
                  · have HS3 := Lib.hid (ih mid e b (P ++ M1) L2 R2 Q wr (by have := HAM.out; have := HMB.out; omega) HW.out HLEN2.out HPM1.out HME.out HEB.out (by have := HME.out; omega) (by have := HEB.out; omega) HSL2.out HSR2.out HP2.out)
                    go_wp2_with fail
                    refine HS3.out.mono ?_
                    rintro e' w9 ⟨rfl, hr9, hf9⟩
                    have HRE : Hid (RowC w9 base (some ⟨g, off, none⟩) c TT) := Lib.hid (by rw [HTT.out]; exact hr9)
                    have HFE : Hid (Fr (fun b => ablk (some (⟨g, off, none⟩ : Addr)) = some b) w w9) := Lib.hid (HF.out.trans hf9 (fun _ _ e => e))
                    clear hr9 hf9 HS3 HW HF
                    go_wp2_with fail
                    go_end0
                    exact ⟨rfl, HRE.out, HFE.out⟩
                  · have HRE : Hid (RowC wr base (some ⟨g, off, none⟩) c TT) := Lib.hid (by rw [HTT.out, sortC_nilR ordC HSL2.out (nil_of HEB.out k4)]; have := HW.out; rw [List.append_assoc (P ++ M1)] at this; exact this)
                    have HFE := HF
                    clear HW HF
                    go_wp2_with fail
                    go_end0
                    exact ⟨rfl, HRE.out, HFE.out⟩
                · have HRE : Hid (RowC wr base (some ⟨g, off, none⟩) c TT) := Lib.hid (by rw [HTT.out, sortC_nilL ordC HSR2.out (nil_of HME.out k3)]; have := HW.out; rw [List.append_assoc (P ++ M1)] at this; exact this)
                  have HFE := HF
                  clear HW HF
                  go_wp2_with fail
                  go_end0
                  exact ⟨rfl, HRE.out, HFE.out⟩
          · have HV : Hid (RowC wr base (some ⟨g, off, none⟩) c (P ++ L1 ++ R1 ++ (L2 ++ (R2 ++ Q)))) := Lib.hid (by
              have := HX0.out
              rw [HXE.out, nil_of HSM2.out k1] at this
              rw [nil_of HSM2.out k1]
              simpa only [List.append_assoc, List.nil_append] using this)
            have HG := HG0
            clear HX0 HG0
            by_cases k5 : a < s
            · by_cases k6 : s < mid
              · have HS2 := Lib.hid (ih a s mid P L1 R1 (L2 ++ (R2 ++ Q)) wr (by have := HMB.out; omega) HV.out HLEN1.out HPA.out HAS.out HSM.out (by have := HAS.out; omega) (by have := HSM.out; omega) HSL1.out HSR1.out HP1.out)
                go_wp2_with fail
                refine HS2.out.mono ?_
                rintro e' w8 ⟨rfl, hr8, hf8⟩
                have HW : Hid (RowC w8 base (some ⟨g, off, none⟩) c (P ++ M1 ++ L2 ++ R2 ++ Q)) := Lib.hid (by rw [← HM1.out] at hr8; simp only [List.append_assoc] at hr8 ⊢; exact hr8)
                have HF : Hid (Fr (fun b => ablk (some (⟨g, off, none⟩ : Addr)) = some b) w w8) := Lib.hid (HG.out.trans hf8 (fun _ _ e => e))
                clear hr8 hf8 HS2 HV HG
                by_cases k3 : mid < e
                · have K3L : Hid (mid + L2.length = e) := HME
                  by_cases k4 : e < b
                  · have HS3 := Lib.hid (ih mid e b (P ++ M1) L2 R2 Q w8 (by have := HAM.out; have := HMB.out; omega) HW.out HLEN2.out HPM1.out HME.out HEB.out (by have := HME.out; omega) (by have := HEB.out; omega) HSL2.out HSR2.out HP2.out)
                    go_wp2_with fail
                    refine HS3.out.mono ?_
                    rintro e' w9 ⟨rfl, hr9, hf9⟩
                    have HRE : Hid (RowC w9 base (some ⟨g, off, none⟩) c TT) := Lib.hid (by rw [HTT.out]; exact hr9)
                    have HFE : Hid (Fr (fun b => ablk (some (⟨g, off, none⟩ : Addr)) = some b) w w9) := Lib.hid (HF.out.trans hf9 (fun _ _ e => e))
                    clear hr9 hf9 HS3 HW HF
                    go_wp2_with fail
                    go_end0
                    exact ⟨rfl, HRE.out, HFE.out⟩
                  · have HRE : Hid (RowC w8 base (some ⟨g, off, none⟩) c TT) := Lib.hid (by rw [HTT.out, sortC_nilR ordC HSL2.out (nil_of HEB.out k4)]; have := HW.out; rw [List.append_assoc (P ++ M1)] at this; exact this)
                    have HFE := HF
                    clear HW HF
                    go_wp2_with fail
                    go_end0
                    exact ⟨rfl, HRE.out, HFE.out⟩
                · have HRE : Hid (RowC w8 base (some ⟨g, off, none⟩) c TT) := Lib.hid (by rw [HTT.out, sortC_nilL ordC HSR2.out (nil_of HME.out k3)]; have := HW.out; rw [List.append_assoc (P ++ M1)] at this; exact this)
                  have HFE := HF
                  clear HW HF
                  go_wp2_with fail
                  go_end0
                  exact ⟨rfl, HRE.out, HFE.out⟩
              · have HW : Hid (RowC wr base (some ⟨g, off, none⟩) c (P ++ M1 ++ L2 ++ R2 ++ Q)) := Lib.hid (by
                  rw [HM1.out, sortC_nilR ordC HSL1.out (nil_of HSM.out k6)]
                  have := HV.out
                  simp only [List.append_assoc] at this ⊢
                  exact this)
                have HF := HG
                clear HV HG
                by_cases k3 : mid < e
                · have K3L : Hid (mid + L2.length = e) := HME
                  by_cases k4 : e < b
                  · have HS3 := Lib.hid (ih mid e b (P ++ M1) L2 R2 Q wr (by have := HAM.out; have := HMB.out; omega) HW.out HLEN2.out HPM1.out HME.out HEB.out (by have := HME.out; omega) (by have := HEB.out; omega) HSL2.out HSR2.out HP2.out)
                    go_wp2_with fail
                    refine HS3.out.mono ?_
                    rintro e' w9 ⟨rfl, hr9, hf9⟩
                    have HRE : Hid (RowC w9 base (some ⟨g, off, none⟩) c TT) := Lib.hid (by rw [HTT.out]; exact hr9)
                    have HFE : Hid (Fr (fun b => ablk (some (⟨g, off, none⟩ : Addr)) = some b) w w9) := Lib.hid (HF.out.trans hf9 (fun _ _ e => e))
                    clear hr9 hf9 HS3 HW HF
                    go_wp2_with fail
                    go_end0
                    exact ⟨rfl, HRE.out, HFE.out⟩
                  · have HRE : Hid (RowC wr base (some ⟨g, off, none⟩) c TT) := Lib.hid (by rw [HTT.out, sortC_nilR ordC HSL2.out (nil_of HEB.out k4)]; have := HW.out; rw [List.append_assoc (P ++ M1)] at this; exact this)
                    have HFE := HF
                    clear HW HF
                    go_wp2_with fail
                    go_end0
                    exact ⟨rfl, HRE.out, HFE.out⟩
                · have HRE : Hid (RowC wr base (some ⟨g, off, none⟩) c TT) := Lib.hid (by rw [HTT.out, sortC_nilL ordC HSR2.out (nil_of HME.out k3)]; have := HW.out; rw [List.append_assoc (P ++ M1)] at this; exact this)
                  have HFE := HF
                  clear HW HF
                  go_wp2_with fail
                  go_end0
                  exact ⟨rfl, HRE.out, HFE.out⟩
            · have HW : Hid (RowC wr base (some ⟨g, off, none⟩) c (P ++ M1 ++ L2 ++ R2 ++ Q)) := Lib.hid (by
                rw [HM1.out, sortC_nilL ordC HSR1.out (nil_of HAS.out k5)]
                have := HV.out
                simp only [List.append_assoc] at this ⊢
                exact this)
              have HF := HG
              clear HV HG
              by_cases k3 : mid < e
              · have K3L : Hid (mid + L2.length = e) := HME
                by_cases k4 : e < b
                · have HS3 := Lib.hid (ih mid e b (P ++ M1) L2 R2 Q wr (by have := HAM.out; have := HMB.out; omega) HW.out HLEN2.out HPM1.out HME.out HEB.out (by have := HME.out; omega) (by have := HEB.out; omega) HSL2.out HSR2.out HP2.out)
                  go_wp2_with fail
                  refine HS3.out.mono ?_
                  rintro e' w9 ⟨rfl, hr9, hf9⟩
                  have HRE : Hid (RowC w9 base (some ⟨g, off, none⟩) c TT) := Lib.hid (by rw [HTT.out]; exact hr9)
                  have HFE : Hid (Fr (fun b => ablk (some (⟨g, off, none⟩ : Addr)) = some b) w w9) := Lib.hid (HF.out.trans hf9 (fun _ _ e => e))
                  clear hr9 hf9 HS3 HW HF
                  go_wp2_with fail
                  go_end0
                  exact ⟨rfl, HRE.out, HFE.out⟩
                · have HRE : Hid (RowC wr base (some ⟨g, off, none⟩) c TT) := Lib.hid (by rw [HTT.out, sortC_nilR ordC HSL2.out (nil_of HEB.out k4)]; have := HW.out; rw [List.append_assoc (P ++ M1)] at this; exact this)
                  have HFE := HF
                  clear HW HF
                  go_wp2_with fail
                  go_end0
                  exact ⟨rfl, HRE.out, HFE.out⟩
              · have HRE : Hid (RowC wr base (some ⟨g, off, none⟩) c TT) := Lib.hid (by rw [HTT.out, sortC_nilL ordC HSR2.out (nil_of HME.out k3)]; have := HW.out; rw [List.append_assoc (P ++ M1)] at this; exact this)
                have HFE := HF
                clear HW HF
                go_wp2_with fail
                go_end0
                exact ⟨rfl, HRE.out, HFE.out⟩

end Go.Proofs.YtkeledbgmpienaaGreat

/- Rows that are sorted block by block. Plain, no program. -/
namespace Go.Proofs.YtkeledbgmpienaaGreat

section
variable {α : Type} {lt : α → α → Bool}
/-- sorted from place lo up to hi -/
def SegS (lt : α → α → Bool) (Y : List α) (lo hi : Nat) : Prop := ∀ i j x y, lo ≤ i → i < j → j < hi → Y[i]? = some x → Y[j]? = some y → lt y x = false
theorem SegS.congr {Y Y' : List α} {lo hi : Nat} (h : SegS lt Y lo hi) (he : ∀ i, lo ≤ i → i < hi → Y'[i]? = Y[i]?) : SegS lt Y' lo hi :=
  fun i j x y h1 h2 h3 h4 h5 => h i j x y h1 h2 h3 (by rw [← he i h1 (by omega)]; exact h4) (by rw [← he j (by omega) h3]; exact h5)
theorem mid_getI {P M Q : List α} {a i : Nat} (hP : P.length = a) (hi : i < M.length) : (P ++ M ++ Q)[a + i]? = M[i]? := by
  rw [List.append_assoc, List.getElem?_append_right (by omega), List.getElem?_append_left (by omega)]
  congr 1; omega
theorem SegS.of_mid {P M Q : List α} {lo hi : Nat} (hP : P.length = lo) (hM : lo + M.length = hi) (h : SortedC lt M) : SegS lt (P ++ M ++ Q) lo hi := by
  intro i j x y h1 h2 h3 h4 h5
  have e1 := mid_getI (M := M) (Q := Q) hP (i := i - lo) (by omega)
  have e2 := mid_getI (M := M) (Q := Q) hP (i := j - lo) (by omega)
  rw [show lo + (i - lo) = i by omega, h4] at e1
  rw [show lo + (j - lo) = j by omega, h5] at e2
  obtain ⟨g1, e1⟩ := List.getElem?_eq_some_iff.1 e1.symm
  obtain ⟨g2, e2⟩ := List.getElem?_eq_some_iff.1 e2.symm
  rw [← e1, ← e2]
  exact List.pairwise_iff_getElem.1 h _ _ g1 g2 (by omega)
theorem SegS.mid {P M Q : List α} {lo hi : Nat} (hP : P.length = lo) (hM : lo + M.length ≤ hi) (h : SegS lt (P ++ M ++ Q) lo hi) : SortedC lt M := by
  refine List.pairwise_iff_getElem.2 fun i j hi' hj' hij => ?_
  refine h (lo + i) (lo + j) _ _ (by omega) (by omega) (by omega) ?_ ?_
  · rw [mid_getI hP hi', List.getElem?_eq_getElem hi']
  · rw [mid_getI hP hj', List.getElem?_eq_getElem hj']
theorem out_get {P M M' Q : List α} {i : Nat} (hl : M'.length = M.length) (h : i < P.length ∨ P.length + M.length ≤ i) : (P ++ M' ++ Q)[i]? = (P ++ M ++ Q)[i]? := by
  rcases h with h | h
  · rw [List.append_assoc, List.append_assoc, List.getElem?_append_left h, List.getElem?_append_left h]
  · rw [List.getElem?_append_right (by rw [List.length_append]; omega), List.getElem?_append_right (by rw [List.length_append]; omega), List.length_append, List.length_append, hl]
def DoneTo (lt : α → α → Bool) (s : Nat) (Y : List α) (a : Nat) : Prop := ∀ k, (k + 1) * s ≤ a → SegS lt Y (k * s) ((k + 1) * s)
def RestFrom (lt : α → α → Bool) (s : Nat) (Y : List α) (a : Nat) : Prop := ∀ k, a ≤ k * s → SegS lt Y (k * s) ((k + 1) * s)
def AllS (lt : α → α → Bool) (s : Nat) (Y : List α) : Prop := ∀ k, SegS lt Y (k * s) ((k + 1) * s)
theorem DoneTo.zero {s : Nat} {Y : List α} (hs : 0 < s) : DoneTo lt s Y 0 := fun k hk => by
  have : s ≤ (k + 1) * s := Nat.le_mul_of_pos_left s (by omega)
  omega
theorem AllS.rest {s a : Nat} {Y : List α} (h : AllS lt s Y) : RestFrom lt s Y a := fun k _ => h k
theorem DoneTo.step {s a q : Nat} {P M M' Q : List α} (hs : 0 < s) (ha : a = q * s) (h : DoneTo lt s (P ++ M ++ Q) a) (hP : P.length = a) (hM : M.length = s) (hl : M'.length = M.length) (hS : SortedC lt M') : DoneTo lt s (P ++ M' ++ Q) (a + s) := by
  intro k hk
  by_cases h1 : (k + 1) * s ≤ a
  · exact (h k h1).congr fun i _ h3 => out_get hl (.inl (by omega))
  · have hkq : k = q := by
      have h2 : (k + 1) * s ≤ (q + 1) * s := by rw [Nat.succ_mul q, ← ha]; exact hk
      have h3 : k + 1 ≤ q + 1 := Nat.le_of_mul_le_mul_right h2 hs
      have h4 : ¬ k + 1 ≤ q := fun e => h1 (by rw [ha]; exact Nat.mul_le_mul_right s e)
      omega
    subst hkq
    rw [← ha, Nat.succ_mul, ← ha]
    exact SegS.of_mid hP (by omega) hS
theorem RestFrom.step {s a S : Nat} {P M M' Q : List α} (h : RestFrom lt s (P ++ M ++ Q) a) (hP : P.length = a) (hM : M.length = S) (hl : M'.length = M.length) : RestFrom lt s (P ++ M' ++ Q) (a + S) := by
  intro k hk
  exact (h k (by omega)).congr fun i h2 _ => out_get hl (.inr (by omega))
theorem RestFrom.one {s a q : Nat} {Y : List α} (h : RestFrom lt s Y a) (ha : a = q * (2 * s)) : SegS lt Y a (a + s) := by
  have e : a = (2 * q) * s := by rw [ha, Nat.mul_comm 2 q, Nat.mul_assoc]
  have := h (2 * q) (by omega)
  rw [Nat.succ_mul (2 * q), ← e] at this
  exact this
theorem RestFrom.two {s a q : Nat} {Y : List α} (h : RestFrom lt s Y a) (ha : a = q * (2 * s)) : SegS lt Y (a + s) (a + s + s) := by
  have e : a + s = (2 * q + 1) * s := by rw [Nat.succ_mul, ha, Nat.mul_comm 2 q, Nat.mul_assoc]
  have := h (2 * q + 1) (by omega)
  rw [Nat.succ_mul (2 * q + 1), ← e] at this
  exact this
theorem DoneTo.all {s a q n : Nat} {Y : List α} (ha : a = q * s) (hn : Y.length = n) (h : DoneTo lt s Y a) (hl : SegS lt Y a n) : AllS lt s Y := by
  intro k
  by_cases h1 : (k + 1) * s ≤ a
  · exact h k h1
  · have h4 : a ≤ k * s := by
      rw [ha]
      refine Nat.mul_le_mul_right s ?_
      have : ¬ k + 1 ≤ q := fun e => h1 (by rw [ha]; exact Nat.mul_le_mul_right s e)
      omega
    intro i j x y g1 g2 g3 g4 g5
    have := (List.getElem?_eq_some_iff.1 g5).1
    exact hl i j x y (by omega) g2 (by omega) g4 g5
theorem AllS.whole {s : Nat} {Y : List α} (h : AllS lt s Y) (hl : Y.length ≤ s) : SortedC lt Y := by
  have := h 0
  rw [Nat.zero_mul, Nat.zero_add, Nat.one_mul] at this
  refine List.pairwise_iff_getElem.2 fun i j hi' hj' hij => ?_
  exact this i j _ _ (by omega) hij (by omega) (List.getElem?_eq_getElem hi') (List.getElem?_eq_getElem hj')
/-- the same, what is alike in the same order -/
structure SamF (lt : α → α → Bool) (X Y : List α) : Prop where
  len : Y.length = X.length
  same : ∀ z, Y.filter (alike lt z) = X.filter (alike lt z)
theorem SamF.refl (X : List α) : SamF lt X X := ⟨rfl, fun _ => rfl⟩
theorem SamF.step (h : OrdC lt) {X P M Q : List α} (k : SamF lt X (P ++ M ++ Q)) : SamF lt X (P ++ sortC lt M ++ Q) :=
  ⟨by rw [← k.len]; simp only [List.length_append, sortC_len], fun z => by rw [← k.same, List.filter_append, List.filter_append, (sortC_stable h M).same, ← List.filter_append, ← List.filter_append]⟩
theorem SamF.mem (h : OrdC lt) {X Y : List α} (k : SamF lt X Y) {y : α} (hy : y ∈ Y) : y ∈ X := by
  have : y ∈ Y.filter (alike lt y) := List.mem_filter.2 ⟨hy, alike_self h y⟩
  rw [k.same] at this
  exact (List.mem_filter.1 this).1
theorem SamF.eq (h : OrdC lt) {X Y : List α} (k : SamF lt X Y) (hs : SortedC lt Y) : Y = sortC lt X := StableOf.eq h ⟨hs, k.same⟩
/-- a row in four parts -/
theorem cut4 (Y : List α) (a s t : Nat) : Y = Y.take a ++ (Y.drop a).take s ++ (Y.drop (a + s)).take t ++ Y.drop (a + s + t) := by
  conv => lhs; rw [← List.take_append_drop a Y, ← List.take_append_drop s (Y.drop a), List.drop_drop, ← List.take_append_drop t (Y.drop (a + s)), List.drop_drop]
  simp only [List.append_assoc]
end
end Go.Proofs.YtkeledbgmpienaaGreat
