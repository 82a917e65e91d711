/- script.Any: the acts of any bytes. -/
import Derived.Test.YtpbgcbpofhbgbaaScriptOne4
import Derived.Test.YtpbgcbpofhbgbaaScriptCheck2
namespace Go.Proofs.Ytpbgcbpofhbgbaa
open Go.RowKit

/-- the acts of any bytes -/
def anyF : Nat → List UInt8 → List AS
  | 0, _ => []
  | _ + 1, [] => []
  | n + 1, b :: r => (oneS b.toNat r).1 :: anyF n (oneS b.toNat r).2
theorem anyF_nil (n : Nat) : anyF n [] = [] := by cases n <;> rfl
theorem oneS_len (x : Nat) (l : List UInt8) : (oneS x l).2.length ≤ l.length := by
  have h1 := nx_len l
  have h2 := nx_len (nx l).2
  unfold oneS
  repeat' split
  all_goals dsimp only
  all_goals omega
theorem oneS_right (x : Nat) (hx : x < 256) (l : List UInt8) : rightA (oneS x l).1 = true := by
  have hu := nx_lt l
  have hv := nx_lt (nx l).2
  have hp := pathV_size (nx (nx l).2).1
  have ht := pathV_size ((nx (nx l).2).1 / 16)
  have hc := pathV_size (nx l).1
  have hd : (dataV (nx l).1 (nx (nx l).2).1).length ≤ 32 := by unfold dataV; rw [dataI_len]; omega
  have hz : (⟨#[]⟩ : ByteArray).size = 0 := rfl
  unfold oneS
  generalize (nx l).1 = u at *
  generalize (nx (nx l).2).1 = v at *
  generalize pathV v = P at *
  generalize pathV (v / 16) = Q at *
  generalize pathV u = C at *
  generalize dataV u v = D at *
  repeat' split
  all_goals
    simp [rightA, editB, inB, goodK, goodC, hz]
    (try omega)
/-- what the rounds of Any keep -/
def anRel (W : World) (g : Nat) (Z : Nat → Prop) (l : List UInt8) (ov : Value) (wr : World) : Prop :=
  ∃ (s : List AV) (A : Option Addr) (c : Nat) (r : List UInt8), ov = .slice A s.length c ∧ NxAt wr g Z r ∧ Row wr W.heap.size 57 11 A s.length c (s.flatMap AV.cells) ∧ (∀ v ∈ s, v.ok wr (fun b => W.heap.size ≤ b ∧ ablk A ≠ some b)) ∧
    Hid (anyF l.length l = s.map AV.a ++ anyF (l.length - s.length) r) ∧ s.length + r.length ≤ l.length ∧ Fr (fun k => k = g) W wr
def lenOfV : Value → Nat | .slice _ n _ => n | _ => 0

set_option maxRecDepth 100000 in
set_option maxHeartbeats 1000000 in
theorem any_any (x : BV) (w : World) (h : x.ok w (fun b => b < w.heap.size)) (hl : x.l.length ≤ 2000) :
    Calls Try.prog 26 #[x.v] w fun e w' => ∃ (A : Option Addr) (c : Nat) (s : List AV), e = .returned (.slice A s.length c) ∧ Hid (s.map AV.a = anyF x.l.length x.l) ∧ Acts w' (fun b => w.heap.size ≤ b) A s ∧ s.length ≤ x.l.length ∧ Below w.heap.size w w' := by
  obtain ⟨xA, xc, l⟩ := x
  obtain ⟨hy, hlc, hcm⟩ := h
  dsimp only at *
  have hb1 : Below w.heap.size w (w.alloc (.cells #[.slice xA l.length xc] 23)) := (by repeat (first | exact Below.refl _ _ | refine Below.alloc ?_ (by simp) _ | refine Below.setCell ?_ (by simp) _ | refine Below.drew ?_))
  have hN : NxAt (w.alloc (.cells #[.slice xA l.length xc] 23)) w.heap.size (fun b => b < w.heap.size) l := ⟨xA, xc, Blk.new w 23 #[.slice xA l.length xc], hy.alloc _, hlc, hcm⟩
  have hsW : (w.alloc (.cells #[.slice xA l.length xc] 23)).heap.size = w.heap.size + 1 := World.size_alloc _ _
  obtain ⟨i0, hi0, hz0, hz1, hz2⟩ := info_parts act_info
  go_enter Try.func26, Try.ntmps26
  go_wp2_with fail
  generalize w.alloc (.cells #[.slice xA l.length xc] 23) = W at *
  go_loopw [2] (fun ov wr => anRel W w.heap.size (fun b => b < w.heap.size) l ov wr) (fun ov _ => l.length - lenOfV ov)
  case atStart => exact ⟨[], none, 0, l, rfl, hN, Row.none_ _ _ _ _, by simp, by show _ = _; simp, by simp, Fr.refl _ _⟩
  case round =>
    obtain ⟨s, A, c, r, rfl, hn, hrow, hok, hF, hlen, hfr⟩ := hrel
    have hsz := hfr.size
    obtain ⟨rA, rc, hb, hry, hrc, hrm⟩ := id hn
    have c0 := hb.cell 0
    simp at c0
    have hAg : ablk A ≠ some w.heap.size := hrow.ne_blk hb (by decide)
    rcases r with _ | ⟨b, r⟩
    · have HF2 := hF.out
      clear hF
      go_wp2_with fail
      go_ret
      rw [anyF_nil, List.append_nil] at HF2
      exact ⟨A, c, s, rfl, HF2.symm, ⟨hrow.rd.mono (fun b _ hz => by have := (hrow.lt b hz).1; omega), fun v hv => (hok v hv).mono (fun b _ hz => by omega), by omega⟩, by simp at hlen; omega, hb1.trans (hfr.below hb1.size (fun k hk e => by omega))⟩
    · have HN := Lib.hid (next_any w.heap.size _ (b :: r) wr hn (by simp))
      have hbl := b.toNat_lt
      simp only [nx] at HN
      go_wp2_with fail
      refine HN.out.mono ?_
      rintro e w2 ⟨rfl, h2⟩
      clear c0 hb HN
      go_wp2_with fail
      refine (one_any w.heap.size _ b.toNat hbl r w2 h2.at_ (fun b hb => hb)).mono ?_
      rintro e w3 ⟨v, rfl, hv, hvo, h3⟩
      have f23 := h2.fr.trans h3.fr (fun _ _ h => h)
      have row3 := hrow.fr f23 (fun g hg e => hAg (by rw [hg, e]))
      have ok3 : ∀ u ∈ s, u.ok w3 (fun b => W.heap.size ≤ b ∧ ablk A ≠ some b) := fun u hu => (hok u hu).fr f23 (fun b _ hz e => by omega)
      have hAl := hrow.lt
      have hs2 := h2.fr.size
      have hs3 := h3.fr.size
      have hone : ∀ u ∈ v.cells, u.oneCell' = true := fun u hu => act_one [v] u (by simpa using hu)
      have hN3 := h3.at_
      have hF3 : Hid (anyF l.length l = (s ++ [v]).map AV.a ++ anyF (l.length - (s.length + 1)) (oneS b.toNat r).2) := by
        show _ = _
        rw [hF.out, List.map_append, List.append_assoc]
        simp only [List.length_cons] at hlen
        rw [show l.length - s.length = (l.length - (s.length + 1)) + 1 by omega, anyF, List.map_cons, List.map_nil, hv.out]
        rfl
      have hl3 := oneS_len b.toNat r
      have hW3 := hfr.trans f23 (fun _ _ h => h)
      generalize (oneS b.toNat r).2 = r' at *
      clear hF hN
      simp only [List.length_cons] at hlen
      go_wp2_with (at_builtin; refine wpList_append_row _ rfl (.tmp 8) (.tmp 13) 50 rfl W.heap.size 57 i0 _ 11 152 Try.underlying50 hi0 hz0 hz1 hz2 rfl (by omega) rfl (row3.alloc _) rfl (Rd.lit (xs := v.cells) (n := 1) rfl rfl rfl) hone (by simp only [maxLen]; omega) (by omega) (by simp; omega) ?_; intro A4 c4 w4 hrow4 hg4 hat4)
      have fr4 := Fr.of_grown hg4 (S := fun k => ablk A = some k) (fun k _ e => e)
      have bl4 : Below w3.heap.size w3 (w3.alloc (.cells v.cells.toArray 57)) := (by repeat (first | exact Below.refl _ _ | refine Below.alloc ?_ (by simp) _ | refine Below.setCell ?_ (by simp) _ | refine Below.drew ?_))
      go_roundw
      case rel =>
        refine ⟨s ++ [v], A4, c4, r', by simp, (hN3.below bl4).fr fr4 (fun e => hAg e) (fun b _ hb e => by have := (hAl b e).1; omega), ?_, ?_, ?_, ?_, ?_⟩
        · rw [List.length_append, List.flatMap_append, List.flatMap_cons, List.flatMap_nil, List.append_nil]
          exact hrow4
        · intro u hu
          have hst : ∀ b, b < w3.heap.size → ablk A ≠ some b → ablk A4 ≠ some b := fun b hb hn e => by
            rcases hat4 b e with h | h
            · exact hn h
            · simp at h; omega
          rcases List.mem_append.1 hu with hu | hu
          · have q := ((ok3 u hu).mono (Z' := fun b => (W.heap.size ≤ b ∧ ablk A ≠ some b) ∧ b < w3.heap.size) (fun b hb hz => ⟨hz, hb⟩)).below bl4
            exact (q.fr fr4 (fun b _ hz e => hz.1.2 e)).mono (fun b _ hz => ⟨hz.1.1, hst b hz.2 hz.1.2⟩)
          · obtain rfl := List.mem_singleton.1 hu
            have q := (hvo.mono (Z' := fun b => w2.heap.size ≤ b ∧ b < w3.heap.size) (fun b hb hz => ⟨hz, hb⟩)).below bl4
            exact (q.fr fr4 (fun b _ hz e => by have := (hAl b e).2; omega)).mono (fun b _ hz => ⟨by omega, hst b hz.2 (fun e => by have := (hAl b e).2; omega)⟩)
        · show _ = _
          rw [List.length_append]
          exact hF3.out
        · simp; omega
        · exact (hW3.then_below bl4).trans fr4 (fun x hx e => absurd (hAl x e).1 (by omega))
      case measure => simp [lenOfV]; omega
end Go.Proofs.Ytpbgcbpofhbgbaa
