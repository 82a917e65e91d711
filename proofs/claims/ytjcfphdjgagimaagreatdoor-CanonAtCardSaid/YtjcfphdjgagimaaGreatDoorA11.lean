/- sha.Of: the digest of parts; tenderref05.Parts. -/
import Derived.Test.YtjcfphdjgagimaaGreatDoorA10
import Derived.Lib.SlBytesConst
import Derived.Lib.SmallJoins

namespace Go.Proofs.YtjcfphdjgagimaaGreatDoor
open Go.RowKit

/-- a row of byte slices to be read -/
def PartsAt (w : World) (Z : Nat → Prop) (A : Option Addr) (L : List BV) : Prop := Rd w Z 1 A L.length (L.map BV.v) ∧ ∀ x ∈ L, x.ok w Z
theorem PartsAt.fr {w w' : World} {Z S : Nat → Prop} {A : Option Addr} {L : List BV} (h : PartsAt w Z A L) (k : Fr S w w') (hs : ∀ b, b < w.heap.size → Z b → ¬ S b) : PartsAt w' Z A L := ⟨h.1.fr k hs, fun x hx => (h.2 x hx).fr k hs⟩
theorem PartsAt.below {w w' : World} {Z : Nat → Prop} {A : Option Addr} {L : List BV} (h : PartsAt w Z A L) (k : Below w.heap.size w w') : PartsAt w' Z A L := ⟨h.1.below k, fun x hx => (h.2 x hx).below k⟩
theorem PartsAt.mono {w : World} {Z Z' : Nat → Prop} {A : Option Addr} {L : List BV} (h : PartsAt w Z A L) (hz : ∀ b, b < w.heap.size → Z b → Z' b) : PartsAt w Z' A L := ⟨h.1.mono hz, fun x hx => (h.2 x hx).mono hz⟩
theorem partsS_snoc (L : List BV) (i : Nat) (hi : i < L.length) : partsS ((L.take (i + 1)).map (·.l)) = partsS ((L.take i).map (·.l)) ++ eightB L[i].l.length ++ L[i].l := by
  rw [List.take_succ_eq_append_getElem hi]
  unfold partsS
  rw [List.map_append, List.flatMap_append]
  simp
theorem partsS_len (L : List BV) (h : ∀ x ∈ L, x.l.length ≤ 100000) : (partsS (L.map (·.l))).length ≤ 100008 * L.length := by
  induction L with
  | nil => simp [partsS]
  | cons x L ih =>
    have h1 := h x (by simp)
    have h2 := ih (fun y hy => h y (by simp [hy]))
    unfold partsS at h2 ⊢
    rw [List.map_cons, List.flatMap_cons, List.length_append, List.length_append, eightB_len, List.length_cons]
    omega

set_option maxRecDepth 100000 in
set_option maxHeartbeats 4000000 in
theorem of_any (A : Option Addr) (c : Nat) (L : List BV) (Z : Nat → Prop) (w : World) (h : PartsAt w Z A L) (hG : Globs w) (hl : ∀ x ∈ L, x.l.length ≤ 100000) (hLl : L.length ≤ 1000) :
    Calls Tryz.prog 44 #[.slice A L.length c] w fun e w' => e = .returned (.agg ((shaS (partsS (L.map (·.l)))).map bv).toArray) ∧ Below w.heap.size w w' := by
  obtain ⟨hz, hi⟩ := zero_of_info (P := Tryz.prog) hash_zero
  have x0 : Blk ((w.alloc (.cells #[.int .u8 0, .int .u8 0, .int .u8 0, .int .u8 0, .int .u8 0, .int .u8 0, .int .u8 0, .int .u8 0, .int .u8 0, .int .u8 0, .int .u8 0, .int .u8 0, .int .u8 0, .int .u8 0, .int .u8 0, .int .u8 0, .int .u8 0, .int .u8 0, .int .u8 0, .int .u8 0, .int .u8 0, .int .u8 0, .int .u8 0, .int .u8 0, .int .u8 0, .int .u8 0, .int .u8 0, .int .u8 0, .int .u8 0, .int .u8 0, .int .u8 0, .int .u8 0] 37)).alloc (.cells #[.int .u32 0, .int .u32 0, .int .u32 0, .int .u32 0, .int .u32 0, .int .u32 0, .int .u32 0, .int .u32 0, .int .u8 0, .int .u8 0, .int .u8 0, .int .u8 0, .int .u8 0, .int .u8 0, .int .u8 0, .int .u8 0, .int .u8 0, .int .u8 0, .int .u8 0, .int .u8 0, .int .u8 0, .int .u8 0, .int .u8 0, .int .u8 0, .int .u8 0, .int .u8 0, .int .u8 0, .int .u8 0, .int .u8 0, .int .u8 0, .int .u8 0, .int .u8 0, .int .u8 0, .int .u8 0, .int .u8 0, .int .u8 0, .int .u8 0, .int .u8 0, .int .u8 0, .int .u8 0, .int .u8 0, .int .u8 0, .int .u8 0, .int .u8 0, .int .u8 0, .int .u8 0, .int .u8 0, .int .u8 0, .int .u8 0, .int .u8 0, .int .u8 0, .int .u8 0, .int .u8 0, .int .u8 0, .int .u8 0, .int .u8 0, .int .u8 0, .int .u8 0, .int .u8 0, .int .u8 0, .int .u8 0, .int .u8 0, .int .u8 0, .int .u8 0, .int .u8 0, .int .u8 0, .int .u8 0, .int .u8 0, .int .u8 0, .int .u8 0, .int .u8 0, .int .u8 0, .int .i64 0] 80)) w.heap.size 37 (((List.replicate 32 (0 : UInt8)).map bv).toArray) := (Blk.new w 37 #[.int .u8 0, .int .u8 0, .int .u8 0, .int .u8 0, .int .u8 0, .int .u8 0, .int .u8 0, .int .u8 0, .int .u8 0, .int .u8 0, .int .u8 0, .int .u8 0, .int .u8 0, .int .u8 0, .int .u8 0, .int .u8 0, .int .u8 0, .int .u8 0, .int .u8 0, .int .u8 0, .int .u8 0, .int .u8 0, .int .u8 0, .int .u8 0, .int .u8 0, .int .u8 0, .int .u8 0, .int .u8 0, .int .u8 0, .int .u8 0, .int .u8 0, .int .u8 0]).below ((Below.refl _ _).alloc (Nat.le_refl _) _)
  have x1 : Blk ((w.alloc (.cells #[.int .u8 0, .int .u8 0, .int .u8 0, .int .u8 0, .int .u8 0, .int .u8 0, .int .u8 0, .int .u8 0, .int .u8 0, .int .u8 0, .int .u8 0, .int .u8 0, .int .u8 0, .int .u8 0, .int .u8 0, .int .u8 0, .int .u8 0, .int .u8 0, .int .u8 0, .int .u8 0, .int .u8 0, .int .u8 0, .int .u8 0, .int .u8 0, .int .u8 0, .int .u8 0, .int .u8 0, .int .u8 0, .int .u8 0, .int .u8 0, .int .u8 0, .int .u8 0] 37)).alloc (.cells #[.int .u32 0, .int .u32 0, .int .u32 0, .int .u32 0, .int .u32 0, .int .u32 0, .int .u32 0, .int .u32 0, .int .u8 0, .int .u8 0, .int .u8 0, .int .u8 0, .int .u8 0, .int .u8 0, .int .u8 0, .int .u8 0, .int .u8 0, .int .u8 0, .int .u8 0, .int .u8 0, .int .u8 0, .int .u8 0, .int .u8 0, .int .u8 0, .int .u8 0, .int .u8 0, .int .u8 0, .int .u8 0, .int .u8 0, .int .u8 0, .int .u8 0, .int .u8 0, .int .u8 0, .int .u8 0, .int .u8 0, .int .u8 0, .int .u8 0, .int .u8 0, .int .u8 0, .int .u8 0, .int .u8 0, .int .u8 0, .int .u8 0, .int .u8 0, .int .u8 0, .int .u8 0, .int .u8 0, .int .u8 0, .int .u8 0, .int .u8 0, .int .u8 0, .int .u8 0, .int .u8 0, .int .u8 0, .int .u8 0, .int .u8 0, .int .u8 0, .int .u8 0, .int .u8 0, .int .u8 0, .int .u8 0, .int .u8 0, .int .u8 0, .int .u8 0, .int .u8 0, .int .u8 0, .int .u8 0, .int .u8 0, .int .u8 0, .int .u8 0, .int .u8 0, .int .u8 0, .int .i64 0] 80)) (w.heap.size + 1) 80 (hashCells (List.replicate 8 0) (List.replicate 64 0) 0).toArray := by
    have := Blk.new (w.alloc (.cells #[.int .u8 0, .int .u8 0, .int .u8 0, .int .u8 0, .int .u8 0, .int .u8 0, .int .u8 0, .int .u8 0, .int .u8 0, .int .u8 0, .int .u8 0, .int .u8 0, .int .u8 0, .int .u8 0, .int .u8 0, .int .u8 0, .int .u8 0, .int .u8 0, .int .u8 0, .int .u8 0, .int .u8 0, .int .u8 0, .int .u8 0, .int .u8 0, .int .u8 0, .int .u8 0, .int .u8 0, .int .u8 0, .int .u8 0, .int .u8 0, .int .u8 0, .int .u8 0] 37)) 80 #[.int .u32 0, .int .u32 0, .int .u32 0, .int .u32 0, .int .u32 0, .int .u32 0, .int .u32 0, .int .u32 0, .int .u8 0, .int .u8 0, .int .u8 0, .int .u8 0, .int .u8 0, .int .u8 0, .int .u8 0, .int .u8 0, .int .u8 0, .int .u8 0, .int .u8 0, .int .u8 0, .int .u8 0, .int .u8 0, .int .u8 0, .int .u8 0, .int .u8 0, .int .u8 0, .int .u8 0, .int .u8 0, .int .u8 0, .int .u8 0, .int .u8 0, .int .u8 0, .int .u8 0, .int .u8 0, .int .u8 0, .int .u8 0, .int .u8 0, .int .u8 0, .int .u8 0, .int .u8 0, .int .u8 0, .int .u8 0, .int .u8 0, .int .u8 0, .int .u8 0, .int .u8 0, .int .u8 0, .int .u8 0, .int .u8 0, .int .u8 0, .int .u8 0, .int .u8 0, .int .u8 0, .int .u8 0, .int .u8 0, .int .u8 0, .int .u8 0, .int .u8 0, .int .u8 0, .int .u8 0, .int .u8 0, .int .u8 0, .int .u8 0, .int .u8 0, .int .u8 0, .int .u8 0, .int .u8 0, .int .u8 0, .int .u8 0, .int .u8 0, .int .u8 0, .int .u8 0, .int .i64 0]
    rw [zero_cells] at this ⊢
    rwa [show (w.alloc (.cells #[.int .u8 0, .int .u8 0, .int .u8 0, .int .u8 0, .int .u8 0, .int .u8 0, .int .u8 0, .int .u8 0, .int .u8 0, .int .u8 0, .int .u8 0, .int .u8 0, .int .u8 0, .int .u8 0, .int .u8 0, .int .u8 0, .int .u8 0, .int .u8 0, .int .u8 0, .int .u8 0, .int .u8 0, .int .u8 0, .int .u8 0, .int .u8 0, .int .u8 0, .int .u8 0, .int .u8 0, .int .u8 0, .int .u8 0, .int .u8 0, .int .u8 0, .int .u8 0] 37)).heap.size = w.heap.size + 1 by simp] at this
  have hw2 : Below w.heap.size w ((w.alloc (.cells #[.int .u8 0, .int .u8 0, .int .u8 0, .int .u8 0, .int .u8 0, .int .u8 0, .int .u8 0, .int .u8 0, .int .u8 0, .int .u8 0, .int .u8 0, .int .u8 0, .int .u8 0, .int .u8 0, .int .u8 0, .int .u8 0, .int .u8 0, .int .u8 0, .int .u8 0, .int .u8 0, .int .u8 0, .int .u8 0, .int .u8 0, .int .u8 0, .int .u8 0, .int .u8 0, .int .u8 0, .int .u8 0, .int .u8 0, .int .u8 0, .int .u8 0, .int .u8 0] 37)).alloc (.cells #[.int .u32 0, .int .u32 0, .int .u32 0, .int .u32 0, .int .u32 0, .int .u32 0, .int .u32 0, .int .u32 0, .int .u8 0, .int .u8 0, .int .u8 0, .int .u8 0, .int .u8 0, .int .u8 0, .int .u8 0, .int .u8 0, .int .u8 0, .int .u8 0, .int .u8 0, .int .u8 0, .int .u8 0, .int .u8 0, .int .u8 0, .int .u8 0, .int .u8 0, .int .u8 0, .int .u8 0, .int .u8 0, .int .u8 0, .int .u8 0, .int .u8 0, .int .u8 0, .int .u8 0, .int .u8 0, .int .u8 0, .int .u8 0, .int .u8 0, .int .u8 0, .int .u8 0, .int .u8 0, .int .u8 0, .int .u8 0, .int .u8 0, .int .u8 0, .int .u8 0, .int .u8 0, .int .u8 0, .int .u8 0, .int .u8 0, .int .u8 0, .int .u8 0, .int .u8 0, .int .u8 0, .int .u8 0, .int .u8 0, .int .u8 0, .int .u8 0, .int .u8 0, .int .u8 0, .int .u8 0, .int .u8 0, .int .u8 0, .int .u8 0, .int .u8 0, .int .u8 0, .int .u8 0, .int .u8 0, .int .u8 0, .int .u8 0, .int .u8 0, .int .u8 0, .int .u8 0, .int .i64 0] 80)) := ((Below.refl _ _).alloc (Nat.le_refl _) _).alloc (by simp) _
  have HH : Hid (HashAt ((w.alloc (.cells #[.int .u8 0, .int .u8 0, .int .u8 0, .int .u8 0, .int .u8 0, .int .u8 0, .int .u8 0, .int .u8 0, .int .u8 0, .int .u8 0, .int .u8 0, .int .u8 0, .int .u8 0, .int .u8 0, .int .u8 0, .int .u8 0, .int .u8 0, .int .u8 0, .int .u8 0, .int .u8 0, .int .u8 0, .int .u8 0, .int .u8 0, .int .u8 0, .int .u8 0, .int .u8 0, .int .u8 0, .int .u8 0, .int .u8 0, .int .u8 0, .int .u8 0, .int .u8 0] 37)).alloc (.cells #[.int .u32 0, .int .u32 0, .int .u32 0, .int .u32 0, .int .u32 0, .int .u32 0, .int .u32 0, .int .u32 0, .int .u8 0, .int .u8 0, .int .u8 0, .int .u8 0, .int .u8 0, .int .u8 0, .int .u8 0, .int .u8 0, .int .u8 0, .int .u8 0, .int .u8 0, .int .u8 0, .int .u8 0, .int .u8 0, .int .u8 0, .int .u8 0, .int .u8 0, .int .u8 0, .int .u8 0, .int .u8 0, .int .u8 0, .int .u8 0, .int .u8 0, .int .u8 0, .int .u8 0, .int .u8 0, .int .u8 0, .int .u8 0, .int .u8 0, .int .u8 0, .int .u8 0, .int .u8 0, .int .u8 0, .int .u8 0, .int .u8 0, .int .u8 0, .int .u8 0, .int .u8 0, .int .u8 0, .int .u8 0, .int .u8 0, .int .u8 0, .int .u8 0, .int .u8 0, .int .u8 0, .int .u8 0, .int .u8 0, .int .u8 0, .int .u8 0, .int .u8 0, .int .u8 0, .int .u8 0, .int .u8 0, .int .u8 0, .int .u8 0, .int .u8 0, .int .u8 0, .int .u8 0, .int .u8 0, .int .u8 0, .int .u8 0, .int .u8 0, .int .u8 0, .int .u8 0, .int .i64 0] 80)) (w.heap.size + 1) (⟨0, 0, 0, 0, 0, 0, 0, 0⟩ : V8).l (List.replicate 64 0) 0) := Lib.hid (HashAt.of_blk rfl (by simp) x1)
  have HP := Lib.hid ((h.mono (Z' := fun x => x < w.heap.size) (fun x hx _ => hx)).below hw2)
  have HG := Lib.hid (hG.below hw2)
  have hgl := hG.lt
  have hxl := x1.lt
  have HLN := Lib.hid (partsS_len L hl)
  have HL := Lib.hid hl
  clear h hG hi x1 hl
  obtain ⟨R, hR⟩ : ∃ R, R = shaS (partsS (L.map (·.l))) := ⟨_, rfl⟩
  rw [← hR]
  have HR := Lib.hid hR
  clear hR
  go_enter Tryz.func44, Tryz.ntmps44
  go_upto_region 2 with (fail)
  generalize ((w.alloc (.cells #[.int .u8 0, .int .u8 0, .int .u8 0, .int .u8 0, .int .u8 0, .int .u8 0, .int .u8 0, .int .u8 0, .int .u8 0, .int .u8 0, .int .u8 0, .int .u8 0, .int .u8 0, .int .u8 0, .int .u8 0, .int .u8 0, .int .u8 0, .int .u8 0, .int .u8 0, .int .u8 0, .int .u8 0, .int .u8 0, .int .u8 0, .int .u8 0, .int .u8 0, .int .u8 0, .int .u8 0, .int .u8 0, .int .u8 0, .int .u8 0, .int .u8 0, .int .u8 0] 37)).alloc (.cells #[.int .u32 0, .int .u32 0, .int .u32 0, .int .u32 0, .int .u32 0, .int .u32 0, .int .u32 0, .int .u32 0, .int .u8 0, .int .u8 0, .int .u8 0, .int .u8 0, .int .u8 0, .int .u8 0, .int .u8 0, .int .u8 0, .int .u8 0, .int .u8 0, .int .u8 0, .int .u8 0, .int .u8 0, .int .u8 0, .int .u8 0, .int .u8 0, .int .u8 0, .int .u8 0, .int .u8 0, .int .u8 0, .int .u8 0, .int .u8 0, .int .u8 0, .int .u8 0, .int .u8 0, .int .u8 0, .int .u8 0, .int .u8 0, .int .u8 0, .int .u8 0, .int .u8 0, .int .u8 0, .int .u8 0, .int .u8 0, .int .u8 0, .int .u8 0, .int .u8 0, .int .u8 0, .int .u8 0, .int .u8 0, .int .u8 0, .int .u8 0, .int .u8 0, .int .u8 0, .int .u8 0, .int .u8 0, .int .u8 0, .int .u8 0, .int .u8 0, .int .u8 0, .int .u8 0, .int .u8 0, .int .u8 0, .int .u8 0, .int .u8 0, .int .u8 0, .int .u8 0, .int .u8 0, .int .u8 0, .int .u8 0, .int .u8 0, .int .u8 0, .int .u8 0, .int .u8 0, .int .i64 0] 80)) = w2 at *
  have HX0 := Lib.hid x0
  clear hz x0
  obtain ⟨hb, hhb⟩ : ∃ hb, hb = w.heap.size + 1 := ⟨_, rfl⟩
  rw [← hhb] at HH hxl ⊢
  have hb2 : 2 ≤ hb := by omega
  have hbw : w.heap.size < hb := by omega
  clear hhb
  go_wp2_with fail
  go_loopw [8] (fun iv wr => ∃ (i : Nat) (s : V8) (P : List UInt8), i ≤ L.length ∧ iv = .int .i64 (i : Int) ∧ HashAt wr hb s.l P ((partsS ((L.take i).map (·.l))).length : Int) ∧ HashOf (partsS ((L.take i).map (·.l))) s P ∧ Fr (fun x => x = hb) w2 wr) (fun iv _ => L.length - (intOf iv).toNat)
  case atStart => exact ⟨0, _, _, Nat.zero_le _, rfl, HH.out, HashOf.new, Fr.refl _ _⟩
  case round =>
    obtain ⟨i, s, P, hi, rfl, hh, hm, hf⟩ := hrel
    have hws := hf.size
    have HGR := Lib.hid (HG.out.fr hf (by omega) (by omega))
    have HPR := Lib.hid (HP.out.fr hf (fun b _ hz e => by have : b < w.heap.size := hz; omega))
    by_cases hlt : i < L.length
    · have hlti : (i : Int) < (L.length : Int) := by omega
      obtain ⟨g, o, hA, hzg, hgl2, hc⟩ := HPR.out.1.atm hlt
      have hxo := HPR.out.2 _ (List.getElem_mem hlt)
      have hxl2 := HL.out _ (List.getElem_mem hlt)
      have hsn := partsS_snoc L i hlt
      have hml : (partsS ((L.take i).map (·.l))).length ≤ 200000000 := by
        have := partsS_len (L.take i) (fun x hx => HL.out x (List.mem_of_mem_take hx))
        rw [List.length_take] at this
        omega
      generalize L[i] = x at hc hxo hxl2 hsn
      obtain ⟨xA, xc, xl⟩ := x
      dsimp only [BV.v] at hc hxl2 hsn
      obtain ⟨M, hM⟩ : ∃ M, M = partsS ((L.take i).map (·.l)) := ⟨_, rfl⟩
      rw [← hM] at hh hm hml hsn
      have HE := Lib.hid (eight_any xl.length (by omega) wr)
      have HHH := Lib.hid hh
      have HM := Lib.hid hm
      have HXO := Lib.hid hxo
      have HSN := Lib.hid hsn
      have HF := Lib.hid hf
      subst hA
      clear hM hh hm hxo hsn hf
      go_wp2_with fail
      refine HE.out.mono ?_
      rintro e w4 ⟨A8, l8, rfl, hl8, ho8, hb8⟩
      have hl8l : l8.length = 8 := by rw [hl8.out]; exact eightB_len _
      have hq8 : BV.ok w4 (fun b => wr.heap.size ≤ b ∧ b < w4.heap.size) ⟨A8, 8, l8⟩ := BV.ok.of_own' (by rw [hl8l]; exact ho8)
      have HW := write_any hb s P M A8 8 l8 _ w4 (HHH.out.below hb8) HM.out (HGR.out.below hb8) hq8 (fun y hy e => by obtain ⟨h1, h2⟩ := hy; omega) hb2 (by omega)
      rw [hl8l] at HW
      replace HW := Lib.hid HW
      have HX4 := Lib.hid (HXO.out.below hb8)
      have HG4 := Lib.hid (HGR.out.below hb8)
      have hb8s := hb8.size
      have HF4 := Lib.hid (HF.out.then_below hb8)
      have HL8 := Lib.hid hl8.out
      clear HE hl8 ho8 hb8 hl8l hq8 HHH HM HXO HGR HF
      go_wp2_with fail
      refine HW.out.mono ?_
      rintro e w5 ⟨rfl, ⟨s1, P1, hh1, hm1⟩, hf5⟩
      have hh2 : HashAt w5 hb s1.l P1 ((M ++ l8).length : Int) := by
        rw [List.length_append, HL8.out, eightB_len]
        exact hh1
      have hml2 : (M ++ l8).length ≤ 200000008 := by rw [List.length_append, HL8.out, eightB_len]; omega
      have HW2 := Lib.hid (write_any hb s1 P1 (M ++ l8) xA xc xl _ w5 hh2 hm1 (HG4.out.fr hf5 (by omega) (by omega)) (HX4.out.fr hf5 (fun b _ hz e => by have : b < w.heap.size := hz; omega)) (fun y hy e => by have : y < w.heap.size := hy; omega) hb2 (by omega))
      have HF5 := Lib.hid (HF4.out.trans hf5 (fun _ _ e => e))
      clear HW hh1 hm1 hh2 hf5 HG4 HX4 HF4
      go_wp2_with fail
      refine HW2.out.mono ?_
      rintro e w6 ⟨rfl, ⟨s2, P2, hh3, hm3⟩, hf6⟩
      have e9 : partsS ((L.take (i + 1)).map (·.l)) = M ++ l8 ++ xl := by rw [HSN.out, HL8.out]
      have HH6 : Hid (HashAt w6 hb s2.l P2 ((partsS ((L.take (i + 1)).map (·.l))).length : Int)) := Lib.hid (by
        rw [e9, List.length_append]
        exact hh3)
      have HM6 : Hid (HashOf (partsS ((L.take (i + 1)).map (·.l))) s2 P2) := Lib.hid (by rw [e9]; exact hm3)
      have HF6 := Lib.hid (HF5.out.trans hf6 (fun _ _ e => e))
      clear HW2 hh3 hm3 hf6 HF5 e9
      go_wp2_with fail
      go_roundw
      case rel => exact ⟨i + 1, s2, P2, hlt, by go_num, HH6.out, HM6.out, HF6.out⟩
      case measure => simp [intOf]; omega
    · have hie : i = L.length := by omega
      have hlti : ¬ (i : Int) < (L.length : Int) := by omega
      rw [hie, List.take_length] at hh hm
      have HLN2 := HLN.out
      have HS := hsum_any hb s P _ wr hh hm HGR.out (by omega)
      rw [← HR.out] at HS
      replace HS := Lib.hid HS
      have x3 := HX0.out.fr hf (by omega)
      have hwr := hw2.trans (hf.below (B := w.heap.size) hw2.size (fun k hk e => by omega))
      clear hh hm hf HLN2 hie
      go_wp2_with fail
      refine HS.out.mono ?_
      rintro e w4 ⟨rfl, hb4⟩
      have x4 := x3.below hb4
      have hRl : R.length = 32 := by rw [HR.out]; exact sha_len _
      have hsz : (R.map bv).toArray.size = 32 := by simp [hRl]
      have HSI : Hid ((Tryz.prog.info? 37).map (·.size) = some (R.map bv).toArray.size) := Lib.hid (by rw [hsz]; kernel_rfl)
      have HSZ : Hid ((((List.replicate 32 (0 : UInt8)).map bv).toArray).size = (R.map bv).toArray.size) := Lib.hid (by rw [hsz]; rfl)
      have HO : Hid (((R.map bv).toArray).all (·.oneCell') = true) := Lib.hid (by
        rw [List.all_toArray, List.all_eq_true]
        exact fun u hu => bv_one R u hu)
      have hw4 := hwr.trans (hb4.mono hwr.size)
      have hwE := hw4.trans (((Fr.refl (fun x => x = w.heap.size) w4).setRow w.heap.size rfl (R.map bv).toArray).below (B := w.heap.size) hw4.size (fun k hk e => by omega))
      clear HS x3 hb4 hsz hRl
      go_wp2_with (refine wpList_store_row rfl 37 _ _ rfl w.heap.size _ rfl rfl 37 _ x4 HSI.out HSZ.out HO.out ?_)
      refine bodyPost_ret (results_cell_row Tryz.results44 _ _ w.heap.size 37 _ (0, 0) _ rfl (x4.setRow _) Tryz.underlying37 rfl HSI.out) rfl ?_
      exact ⟨rfl, hwE⟩

end Go.Proofs.YtjcfphdjgagimaaGreatDoor

/- tenderref05.Parts. -/
namespace Go.Proofs.YtjcfphdjgagimaaGreatDoor
open Go.RowKit


set_option maxRecDepth 100000 in
set_option maxHeartbeats 4000000 in
theorem partsR_any (A : Option Addr) (c : Nat) (L : List BV) (Z : Nat → Prop) (w : World) (h : PartsAt w Z A L) (hl : ∀ x ∈ L, x.l.length ≤ 100000) (hLl : L.length ≤ 1000) :
    Calls Tryz.prog 49 #[.slice A L.length c] w fun e w' => ∃ (B : Option Addr) (d : Nat) (M : List UInt8), e = .returned (.slice B M.length d) ∧ Hid (M = partsS (L.map (·.l))) ∧ OwB w' w.heap.size (.slice B M.length d) M ∧ Below w.heap.size w w' := by
  obtain ⟨i0, hi0, hz0, hz1, hz2⟩ := info_parts u8_info
  have HP := Lib.hid h
  have HL := Lib.hid hl
  clear h hl
  go_enter Tryz.func49, Tryz.ntmps49
  go_wp2_with fail
  go_loopw [3, 4] (fun ov iv wr => ∃ (i : Nat) (B : Option Addr) (d : Nat) (M : List UInt8), i ≤ L.length ∧ iv = .int .i64 (i : Int) ∧ ov = .slice B M.length d ∧ OwB wr w.heap.size (.slice B M.length d) M ∧ Hid (M = partsS ((L.take i).map (·.l))) ∧ Below w.heap.size w wr) (fun _ iv _ => L.length - (intOf iv).toNat)
  case atStart => exact ⟨0, none, 0, [], Nat.zero_le _, rfl, rfl, OwB.nil _ _, Lib.hid rfl, Below.refl _ _⟩
  case round =>
    obtain ⟨i, B, d, M, hi, rfl, rfl, hown, hM, hbw⟩ := hrel
    by_cases hlt : i < L.length
    · have hlti : (i : Int) < (L.length : Int) := by omega
      obtain ⟨g, o, hA, hzg, hgl2, hc⟩ := HP.out.1.atm hlt
      have hxo := HP.out.2 _ (List.getElem_mem hlt)
      have hxl2 := HL.out _ (List.getElem_mem hlt)
      have hsn := partsS_snoc L i hlt
      have hml : M.length ≤ 200000000 := by
        have := partsS_len (L.take i) (fun x hx => HL.out x (List.mem_of_mem_take hx))
        rw [List.length_take] at this
        rw [hM.out]
        omega
      generalize L[i] = x at hc hxo hxl2 hsn
      obtain ⟨xA, xc, xl⟩ := x
      dsimp only [BV.v] at hc hxl2 hsn
      have HE := Lib.hid (fun W => eightR_any xl.length (by omega) W)
      have HXO := Lib.hid hxo
      have HSN := Lib.hid hsn
      subst hA
      clear hxo hsn
      go_wp2_with fail
      refine wp_region_p [(0, true), (1, true), (2, true), (3, true), (4, true), (5, true), (8, true), (9, true), (10, true), (11, true), (6, false), (7, false), (12, false)] (fun W => Below w.heap.size w W) (by kernel_rfl) (by kernel_rfl) ?_
      simp only [List.map_cons, List.map_nil, List.filterMap_cons, List.filterMap_nil, List.getElem?_cons_zero, List.getElem?_cons_succ, List.length_cons, List.length_nil, Nat.zero_add, Nat.reduceAdd, List.drop_succ_cons, List.drop_zero]
      refine mx_move _ (by kernel_rfl) rfl ⟨_, (by ((try simp [go_sem]); (try rfl); done)), _, (by (simp only [Act.put, List.setIfInBounds_toArray, List.set_cons_zero, List.set_cons_succ]; rfl)), ?_⟩
      refine mx_move _ (by kernel_rfl) rfl ⟨_, (by ((try simp [go_sem]); (try rfl); done)), _, (by (simp only [Act.put, List.setIfInBounds_toArray, List.set_cons_zero, List.set_cons_succ]; rfl)), ?_⟩
      refine mx_move _ (by kernel_rfl) rfl ⟨_, (by ((try simp [go_sem]); (try rfl); done)), _, (by (simp only [Act.put, List.setIfInBounds_toArray, List.set_cons_zero, List.set_cons_succ]; rfl)), ?_⟩
      refine mx_val (by kernel_rfl) ⟨_, (by (intro w' hC; clear hC; (try go_simp); (try with_reducible rfl); done)), _, (by (simp only [Act.put, List.setIfInBounds_toArray, List.set_cons_zero, List.set_cons_succ]; rfl)), ?_⟩
      refine mx_val (by kernel_rfl) ⟨_, (by (intro w' hC; (have q := cell_later hC hc); clear hC; (try go_simp); (try with_reducible rfl); done)), _, (by (simp only [Act.put, List.setIfInBounds_toArray, List.set_cons_zero, List.set_cons_succ]; rfl)), ?_⟩
      refine mx_val (by kernel_rfl) ⟨_, (by (intro w' hC; clear hC; (try go_simp); (try with_reducible rfl); done)), _, (by (simp only [Act.put, List.setIfInBounds_toArray, List.set_cons_zero, List.set_cons_succ]; rfl)), ?_⟩
      refine mx_move _ (by kernel_rfl) rfl ⟨_, (by ((try simp [go_sem]); (try rfl); done)), _, (by (simp only [Act.put, List.setIfInBounds_toArray, List.set_cons_zero, List.set_cons_succ]; rfl)), ?_⟩
      refine mx_move _ (by kernel_rfl) rfl ⟨_, (by ((try simp [go_sem]); (try rfl); done)), _, (by (simp only [Act.put, List.setIfInBounds_toArray, List.set_cons_zero, List.set_cons_succ]; rfl)), ?_⟩
      refine mx_val (by kernel_rfl) ⟨_, (by (intro w' hC; clear hC; (try go_simp); (try with_reducible rfl); done)), _, (by (simp only [Act.put, List.setIfInBounds_toArray, List.set_cons_zero, List.set_cons_succ]; rfl)), ?_⟩
      refine mx_val (by kernel_rfl) ⟨_, (by (intro w' hC; (have q := cell_later hC hc); clear hC; (try go_simp); (try with_reducible rfl); done)), _, (by (simp only [Act.put, List.setIfInBounds_toArray, List.set_cons_zero, List.set_cons_succ]; rfl)), ?_⟩
      refine mx_call (hbw.drew) (by kernel_rfl) ?_ (HE.out _) ?_
      · (go_simp; done)
      rintro e w4 ⟨A8, c8, l8, rfl, hl8, ho8, hb8⟩
      have hb4 : Below w.heap.size w w4 := hbw.drew.trans (hb8.mono hbw.size)
      have hl8l : l8.length ≤ 8 := by rw [hl8.out, eightB_len]; exact Nat.le_refl _
      have hml2 : (M ++ l8).length ≤ 300000000 := by rw [List.length_append]; omega
      have hown4 : OwB w4 w.heap.size (.slice B M.length d) M := (hown.below (Below.refl _ _).drew).below hb8
      refine ⟨_, rfl, _, (by (simp only [Act.put, List.setIfInBounds_toArray, List.set_cons_zero, List.set_cons_succ]; rfl)), ?_⟩
      refine mx_wp hb4 (by kernel_rfl) (wp_append_any _ (.tmp 11) (.tmp 17) 29 rfl w.heap.size 5 i0 _ 1 1 Tryz.underlying29 hi0 hz0 hz1 hz2 rfl (by omega) (.slice B M.length d) M.length (M.map bv) rfl hown4 _ A8 l8.length c8 (l8.map bv) rfl ho8.rd (bv_one _) (by simp only [maxLen]; omega) (by omega) hb4.size ?_)
      intro v5 w5 ho5 hg5 hat5
      obtain ⟨A5, c5, rfl, hjk⟩ := own_form ho5
      clear hjk hat5
      have hb5 : Below w.heap.size w w5 := hb4.trans (grown_below hg5 hb4.size (fun g hg => (World.ownsRow.lt hown4 g hg).1))
      have hown5 : OwB w5 w.heap.size (.slice A5 (M ++ l8).length c5) (M ++ l8) := by
        unfold OwB
        rw [List.length_append, List.map_append]
        exact ho5
      rw [← List.length_append]
      clear ho5 hg5
      simp only [Act.put, List.setIfInBounds_toArray, List.set_cons_zero, List.set_cons_succ]
      refine mx_wp hb5 (by kernel_rfl) (wp_append_any _ (.tmp 18) (.tmp 22) 29 rfl w.heap.size 5 i0 _ 1 1 Tryz.underlying29 hi0 hz0 hz1 hz2 rfl (by omega) (.slice A5 (M ++ l8).length c5) (M ++ l8).length ((M ++ l8).map bv) rfl hown5 _ xA xl.length xc (xl.map bv) rfl ((HXO.out.1).below hb5) (bv_one _) (by simp only [maxLen]; omega) (by omega) hb5.size ?_)
      intro v6 w6 ho6 hg6 hat6
      obtain ⟨A6, c6, rfl, hjk⟩ := own_form ho6
      clear hjk hat6
      have hb6 : Below w.heap.size w w6 := hb5.trans (grown_below hg6 hb5.size (fun g hg => (World.ownsRow.lt hown5 g hg).1))
      have hown6 : OwB w6 w.heap.size (.slice A6 ((M ++ l8) ++ xl).length c6) ((M ++ l8) ++ xl) := by
        unfold OwB
        rw [List.length_append, List.map_append]
        exact ho6
      rw [← List.length_append]
      clear ho6 hg6
      simp only [Act.put, List.setIfInBounds_toArray, List.set_cons_zero, List.set_cons_succ]
      refine mx_end hb6 ?_
      have HN : Hid (M ++ l8 ++ xl = partsS ((L.take (i + 1)).map (·.l))) := Lib.hid (by rw [HSN.out, hl8.out, hM.out])
      clear HE hown4 hown5 hb4 hb5 hb8 ho8 hl8 hown hM
      go_wp2_with fail
      go_roundw
      case rel => exact ⟨i + 1, A6, c6, M ++ l8 ++ xl, hlt, by go_num, rfl, hown6, HN, hb6⟩
      case measure => simp [intOf]; omega
    · have hlti : ¬ (i : Int) < (L.length : Int) := by omega
      have HE : Hid (M = partsS (L.map (·.l))) := Lib.hid (by rw [hM.out, show i = L.length by omega, List.take_length])
      clear hM
      go_wp2_with fail
      go_ret
      exact ⟨B, d, M, rfl, HE, hown, hbw⟩

end Go.Proofs.YtjcfphdjgagimaaGreatDoor

/- A tree's items set one after the other make the tree again: plain. -/
namespace Go.Proofs.YtjcfphdjgagimaaGreatDoor
open Go.RowKit Go.Maps

theorem sort_at {T : List (List UInt8 × LP)} (h : SortR T) {i j : Nat} (hi : i < T.length) (hj : j < T.length) (hij : i < j) : cmpT T[i].1 T[j].1 < 0 :=
  List.pairwise_iff_getElem.1 h i j hi hj hij
theorem sort_lt {T : List (List UInt8 × LP)} (h : SortR T) {i j : Nat} (hi : i < T.length) (hj : j < T.length) (hc : cmpT T[i].1 T[j].1 < 0) : i < j := by
  rcases Nat.lt_trichotomy i j with e | e | e
  · exact e
  · subst e; rw [cmpT_self] at hc; omega
  · have h1 := sort_at h hj hi e
    have h2 := ordT.flip T[i].1 T[j].1
    omega
theorem take_none {T : List (List UInt8 × LP)} (h : SortR T) {i : Nat} (hi : i < T.length) : getR (T.take i) T[i].1 = none := by
  rw [getR_none]
  intro x hx e
  obtain ⟨j, hj, rfl⟩ := List.mem_take_iff_getElem.1 hx
  have := sort_at h (i := j) (j := i) (by omega) hi (by omega)
  rw [e, cmpT_self] at this
  omega
theorem take_some {T : List (List UInt8 × LP)} (h : SortR T) {i : Nat} (hi : i < T.length) {p : List UInt8} (hp : cmpT p T[i].1 < 0) : getR (T.take i) p = getR T p := by
  rcases hg : getR T p with _ | v
  · rw [getR_none] at hg ⊢
    exact fun x hx => hg x (List.mem_of_mem_take hx)
  · have hm := getR_mem hg
    obtain ⟨j, hj, e⟩ := List.getElem_of_mem hm
    have hji : j < i := sort_lt h hj hi (by rw [e]; exact hp)
    have hm2 : (p, v) ∈ T.take i := by rw [← e]; exact List.mem_take_iff_getElem.2 ⟨j, by omega, rfl⟩
    have hs : SortR (T.take i) := List.Pairwise.sublist (List.take_sublist _ _) h
    exact hs.get hm2
/-- set in order, each may be set -/
theorem build_may {T : List (List UInt8 × LP)} (h : TreeOk T) (hd : DirsOk T) {i : Nat} (hi : i < T.length) : mayS (T.take i) T[i].1 T[i].2 = 0 := by
  have hm : T[i] ∈ T := List.getElem_mem hi
  obtain ⟨hg, hk, hc⟩ := h.good _ hm
  have hl := h.len
  unfold mayS
  rw [if_neg (by rw [hg]; decide), if_neg (by rw [hc]; simp), if_neg, if_neg (by rcases hk with e | e <;> rw [e] <;> decide), if_neg, if_neg]
  · rintro ⟨_, h2⟩
    rw [List.length_take] at h2
    omega
  · rintro ⟨h1, h2⟩
    have hu := par_under h1
    have hlt := (under_order (b := (parT T[i].1).1) hu).1
    rw [take_some h.sort hi (by omega)] at h2
    exact h2 (hd _ hm h1)
  · rintro ⟨_, h2⟩
    obtain ⟨q, hq⟩ := List.exists_mem_of_ne_nil _ h2
    obtain ⟨h3, h4⟩ := List.mem_filter.1 hq
    unfold keysR at h3
    obtain ⟨x, hx, rfl⟩ := List.mem_map.1 h3
    obtain ⟨j, hj, rfl⟩ := List.mem_take_iff_getElem.1 hx
    have h5 := sort_at h.sort (i := j) (j := i) (by omega) hi (by omega)
    have h6 := (under_order (b := T[i].1) h4).1
    have h7 := ordT.flip T[i].1 T[j].1
    omega
theorem build_set {T : List (List UInt8 × LP)} (h : TreeOk T) (hd : DirsOk T) {i : Nat} (hi : i < T.length) : setS (T.take i) T[i].1 T[i].2 = T.take (i + 1) := by
  have hk := (h.good _ (List.getElem_mem hi)).2.1
  unfold setS doS
  rw [if_pos (build_may h hd hi), if_neg (by rcases hk with e | e <;> rw [e] <;> decide)]
  unfold putR
  rw [without_self (take_none h.sort hi), ins_none, List.take_succ_eq_append_getElem hi]
  unfold behR
  rw [List.any_eq_false]
  intro x hx
  obtain ⟨j, hj, rfl⟩ := List.mem_take_iff_getElem.1 hx
  have := sort_at h.sort (i := j) (j := i) (by omega) hi (by omega)
  simp; omega
end Go.Proofs.YtjcfphdjgagimaaGreatDoor

/- tenderlaw08: lives. -/
namespace Go.Proofs.YtjcfphdjgagimaaGreatDoor
open Go.RowKit Go.Maps

/-- a row of bytes that is marked -/
def BlkM (w : World) (g : Nat) (cs : Array Value) (f : Nat × Nat) : Prop := w.heap[g]? = some (.cells cs 5 f)
theorem BlkM.lt {w : World} {g : Nat} {cs : Array Value} {f : Nat × Nat} (h : BlkM w g cs f) : g < w.heap.size := (Array.getElem?_eq_some_iff.1 h).1
theorem BlkM.fr {w w' : World} {g : Nat} {cs : Array Value} {f : Nat × Nat} {S : Nat → Prop} (h : BlkM w g cs f) (k : Fr S w w') (hs : ¬ S g) : BlkM w' g cs f := (k.block g h.lt hs).trans h
end Go.Proofs.YtjcfphdjgagimaaGreatDoor

/- What a tree on which items were set tells, in terms of the plain rows. -/
namespace Go.Proofs.YtjcfphdjgagimaaGreatDoor
open Go.RowKit Go.Maps

def dataL (o : Option LP) : List UInt8 := (o.map (·.2)).getD []
theorem kind_plain (L : List (List UInt8 × LV)) (p : List UInt8) : ((getR L p).map LV.k).getD 0 = kindL (getR (plainL L) p) := by
  rw [get_plain]
  cases getR L p <;> rfl
theorem data_plain (L : List (List UInt8 × LV)) (p : List UInt8) : ((getR L p).map fun x => x.x.l).getD [] = dataL (getR (plainL L) p) := by
  rw [get_plain]
  cases getR L p <;> rfl
/-- the document's leaf, to be read -/
theorem refGetP {w : World} {B : Option Addr} {M : List (List UInt8 × LV)} {T : List (List UInt8 × LP)} (d : Nat) (h : Its w B M) (hT : Hid (plainL M = T)) (p : List UInt8) (hp : p.length ≤ 1048576) :
    Calls Tryz.prog 45 #[.slice B M.length d, .string ⟨⟨p⟩⟩] w fun e w' => (∃ (A : Option Addr) (c : Nat) (l : List UInt8), e = .returned (.agg #[.int .i64 (kindL (getR T p)), .slice A l.length c]) ∧ Hid (l = dataL (getR T p)) ∧ By w' (fun _ => True) A l) ∧ Below w.heap.size w w' := by
  refine (refGet08_any B d M p w h (by omega)).mono ?_
  rintro e w' ⟨rfl, hb⟩
  refine ⟨?_, hb⟩
  rw [← hT.out, get_plain]
  rcases hg : getR M p with _ | o
  · exact ⟨none, 0, [], rfl, rfl, Rd.nil⟩
  · exact ⟨o.x.A, o.x.c, o.x.l, rfl, rfl, ((h.ok _ (getR_mem hg)).below hb).1⟩
/-- the tree's, to be read -/
theorem treeGetP {w : World} {tb : Nat} {mo : Option Nat} {L : List (List UInt8 × LV)} {T : List (List UInt8 × LP)} (h : TreeAt w tb mo L) (hT : Hid (plainL L = T)) (p : List UInt8) (hp : p.length ≤ 1048576) :
    Calls Tryz.prog 41 #[.pointer (some ⟨tb, 0, none⟩), .string ⟨⟨p⟩⟩] w fun e w' => (∃ (A : Option Addr) (c : Nat) (l : List UInt8), e = .returned (.agg #[.int .i64 (kindL (getR T p)), .slice A l.length c]) ∧ Hid (l = dataL (getR T p)) ∧ OwB w' w.heap.size (.slice A l.length c) l) ∧ Below w.heap.size w w' := by
  refine (treeGet_any tb mo L p w h (by omega)).mono ?_
  rintro e w' ⟨⟨A, c, l, he, hl, ho⟩, hb⟩
  rw [kind_plain, hT.out] at he
  rw [data_plain, hT.out] at hl
  exact ⟨⟨A, c, l, he, hl, ho⟩, hb⟩
theorem Played.lens {w : World} {T : List (List UInt8 × LP)} {tb : Nat} {mo : Option Nat} {L M : List (List UInt8 × LV)} {B : Option Addr} (h : Played w T tb mo L B M) : L.length = T.length ∧ M.length = T.length ∧ T.length ≤ 128 := by
  have h1 := h.tree.plain.len
  have h2 := plain_len L
  have h3 := plain_len M
  rw [h.plain.out] at h1 h2
  rw [h.same.out] at h3
  omega
end Go.Proofs.YtjcfphdjgagimaaGreatDoor

/- What canon.At tells, plainly. -/
namespace Go.Proofs.YtjcfphdjgagimaaGreatDoor
open Go.RowKit

/-- the last part of a path -/
def lastC (q : List UInt8) : List UInt8 := (cutL q).getLastD []
/-- what stands right under a path -/
def kidsS (T : List (List UInt8 × LP)) (p : List UInt8) : List (List UInt8) := (keysR T).filter fun q => (parT q).1 == p
/-- the digest of what is at a path -/
def atS (T : List (List UInt8 × LP)) : Nat → List UInt8 → List UInt8
  | 0, _ => []
  | n + 1, p => if p ≠ [] ∧ kindL (getR T p) ≠ 2 then shaS (leafB (kindL (getR T p)) (dataL (getR T p)))
      else shaS (partsS ([100, 105, 114] :: (kidsS T p).flatMap fun q => [lastC q, atS T n q]))
theorem atS_leaf {T : List (List UInt8 × LP)} {n : Nat} {p : List UInt8} (h : p ≠ [] ∧ kindL (getR T p) ≠ 2) : atS T (n + 1) p = shaS (leafB (kindL (getR T p)) (dataL (getR T p))) := by
  rw [atS, if_pos h]
theorem atS_dir {T : List (List UInt8 × LP)} {n : Nat} {p : List UInt8} (h : ¬ (p ≠ [] ∧ kindL (getR T p) ≠ 2)) : atS T (n + 1) p = shaS (partsS ([100, 105, 114] :: (kidsS T p).flatMap fun q => [lastC q, atS T n q])) := by
  rw [atS, if_neg h]
theorem atS_len (T : List (List UInt8 × LP)) (n : Nat) (p : List UInt8) : (atS T (n + 1) p).length = 32 := by
  rw [atS]
  split <;> exact sha_len _
/-- kids are longer -/
theorem kids_more {T : List (List UInt8 × LP)} (h : TreeOk T) {p q : List UInt8} (hq : q ∈ kidsS T p) : p.length + 1 ≤ q.length ∧ q.length ≤ 96 ∧ goodB q = true := by
  unfold kidsS at hq
  obtain ⟨h1, h2⟩ := List.mem_filter.1 hq
  unfold keysR at h1
  obtain ⟨x, hx, rfl⟩ := List.mem_map.1 h1
  have hg := (h.good _ hx).1
  have hl := goodB_len hg
  have hne := goodB_ne hg
  have e : (parT x.1).1 = p := by simpa using h2
  refine ⟨?_, hl, hg⟩
  by_cases hp : p = []
  · subst hp
    have := List.length_pos_iff.2 hne
    simp; omega
  · have h3 := par_under ((par_ne x.1).2 (by rw [e]; exact hp))
    rw [e] at h3
    unfold underB preB at h3
    simp only [Bool.and_eq_true] at h3
    have h4 := (List.isPrefixOf_iff_prefix.1 h3.2).length_le
    simpa using h4
theorem kids_count {T : List (List UInt8 × LP)} (h : TreeOk T) (p : List UInt8) : (kidsS T p).length ≤ 128 := by
  have h1 := h.len
  have h2 := List.length_filter_le (fun q => (parT q).1 == p) (keysR T)
  rw [keys_len] at h2
  unfold kidsS
  omega
theorem cut_last_len (q : List UInt8) : (lastC q).length ≤ q.length := by
  unfold lastC
  induction q with
  | nil => simp [cutL]
  | cons c l ih =>
    unfold cutL
    obtain ⟨y, ys, e⟩ := List.exists_cons_of_ne_nil (cutL_ne l)
    split
    · rw [e] at ih ⊢
      simp only [List.getLastD_cons] at ih ⊢
      simp only [List.length_cons]
      cases ys <;> simp_all <;> omega
    · rw [e] at ih ⊢
      simp only [List.headD_cons, List.tail_cons]
      cases ys <;> simp_all <;> omega
/-- the last part by its stroke -/
theorem last_part (s : ByteArray) : ∃ k : Nat, Lib.lastIndexByte s 47 + 1 = (k : Int) ∧ k ≤ s.size ∧ (tl s).drop k = lastC (tl s) := by
  have hget : ∀ j, j < s.size → (tl s)[j]? = some (s.data[j]!) := by
    intro j hj
    have hj' : j < s.data.size := hj
    rw [List.getElem?_eq_getElem (by rw [tl_len]; exact hj), getElem!_pos s.data j hj']
    rfl
  unfold lastC
  rcases Lib.lastIndexByte_spec s 47 with ⟨h, hn⟩ | ⟨i, hi, h, hc, hn⟩
  · refine ⟨0, by omega, Nat.zero_le _, ?_⟩
    rw [cutL_none]
    · rfl
    · intro c hcm
      obtain ⟨k, hk, rfl⟩ := List.getElem_of_mem hcm
      have hk' : k < s.size := by rwa [tl_len] at hk
      have := hget k hk'
      rw [List.getElem?_eq_getElem hk] at this
      injection this with this
      intro e
      refine hn k hk' ?_
      rw [← this, e]; rfl
  · have h47 : (tl s)[i]? = some 47 := by rw [hget i hi]; congr 1; exact UInt8.toNat_inj.1 (by rw [show (47 : UInt8).toNat = 47 from rfl]; omega)
    have hsp : tl s = (tl s).take i ++ 47 :: (tl s).drop (i + 1) := by
      conv => lhs; rw [← List.take_append_drop i (tl s)]
      obtain ⟨hlt, he⟩ := List.getElem?_eq_some_iff.1 h47
      rw [List.drop_eq_getElem_cons hlt, he]
    have hno : cutL ((tl s).drop (i + 1)) = [(tl s).drop (i + 1)] := by
      refine cutL_none fun c hcm => ?_
      obtain ⟨k, hk, rfl⟩ := List.getElem_of_mem hcm
      rw [List.getElem_drop]
      have hk' : i + 1 + k < s.size := by rw [List.length_drop, tl_len] at hk; omega
      have := hget _ hk'
      rw [List.getElem?_eq_getElem (by rw [tl_len]; exact hk')] at this
      injection this with this
      intro e
      refine hn (i + 1 + k) (by omega) hk' ?_
      rw [← this, e]; rfl
    refine ⟨i + 1, by omega, by omega, ?_⟩
    conv => rhs; rw [hsp, cut_app, hno]
    simp
end Go.Proofs.YtjcfphdjgagimaaGreatDoor

/- rows of byte slices of the call's own. -/
namespace Go.Proofs.YtjcfphdjgagimaaGreatDoor
open Go.RowKit

theorem bsl_info : (Tryz.prog.info? 29).map (fun i => (i.zero, i.size, i.bytes)) = some (some (.slice none 0 0), 1, 24) := by kernel_rfl
/-- a row of byte slices of the call's own; the bytes lie elsewhere -/
structure PtOwn (w : World) (base : Nat) (A : Option Addr) (c : Nat) (L : List BV) : Prop where
  row : w.ownsRow base 29 1 (.slice A L.length c) L.length (L.map BV.v)
  byt : ∀ x ∈ L, x.ok w (fun b => (Value.slice A L.length c).ownBlock ≠ some b)
theorem PtOwn.below {w w' : World} {base : Nat} {A : Option Addr} {c : Nat} {L : List BV} (h : PtOwn w base A c L) (k : Below w.heap.size w w') : PtOwn w' base A c L := ⟨own_below h.row k, fun x hx => (h.byt x hx).below k⟩
theorem PtOwn.parts {w : World} {base : Nat} {A : Option Addr} {c : Nat} {L : List BV} (h : PtOwn w base A c L) : PartsAt w (fun _ => True) A L := ⟨Rd.of_own h.row (fun _ _ _ => trivial), fun x hx => (h.byt x hx).mono (fun _ _ _ => trivial)⟩
theorem PtOwn.lit1 (w : World) (x : BV) (base : Nat) (hb : base ≤ w.heap.size) (hx : x.ok w (fun _ => True)) : PtOwn (w.alloc (.cells #[x.v] 29)) base (some ⟨w.heap.size, 0, none⟩) 1 [x] := by
  refine ⟨World.ownsRow_lit (base := base) (e := 29) (size := 1) w #[x.v] 1 hb (by simp [maxLen]) (by simp), fun y hy => ?_⟩
  rw [List.mem_singleton.1 hy]
  have h1 := hx.mono (Z' := fun b => b < w.heap.size) (fun b hb _ => hb)
  refine (h1.below ((Below.refl _ _).alloc (Nat.le_refl _) _)).mono (fun b _ hb e => ?_)
  have e2 : w.heap.size = b := by simpa [Value.ownBlock] using e
  have : b < w.heap.size := hb
  omega
theorem Rd.lit2 (w : World) (M : List BV) : Rd (w.alloc (.cells (M.map BV.v).toArray 29)) (fun b => w.heap.size ≤ b) 1 (some ⟨w.heap.size, 0, none⟩) M.length (M.map BV.v) := Rd.lit (w := w) (t := 29) (size := 1) (n := M.length) (xs := M.map BV.v) (by first | rfl | simp) (by first | rfl | simp) (by first | rfl | simp)
theorem wpList_append_pt {w : World} {ops : Array Oper} {rest : List Oper} {o : Oper} {a : Act} {Q : Exit → Act → World → Prop} (hgd : o.guard = none) (s x : Operand)
    (ho : o.op = .call { callee := .builtin .append, args := #[s, x], argTypes := #[87, 87] })
    {base : Nat} {A B : Option Addr} {c d n m : Nat} {L M : List BV} {Z : Nat → Prop} (hn : n = L.length) (hm : m = M.length) (hs : a.eval s = .slice A n c) (hown : PtOwn w base A c L) (hx : a.eval x = .slice B m d) (hr : Rd w Z 1 B M.length (M.map BV.v)) (hM : ∀ x ∈ M, x.ok w (fun b => (Value.slice A L.length c).ownBlock ≠ some b))
    (hsum : L.length + M.length ≤ 1000000) (hbase : base ≤ w.heap.size)
    (h : ∀ (A' : Option Addr) (c' : Nat) (w' : World), PtOwn w' base A' c' (L ++ M) → Below base w w' → w.grownBy w' (Value.slice A n c).ownBlock → ((Value.slice A' (n + m) c').ownBlock = (Value.slice A n c).ownBlock ∨ (Value.slice A' (n + m) c').ownBlock = some w.heap.size) → wpList Tryz.prog ops Q rest (a.put o.dst (.slice A' (n + m) c')) w') : wpList Tryz.prog ops Q (o :: rest) a w := by
  subst hn hm
  obtain ⟨i0, hi0, hz0, hz1, hz2⟩ := info_parts bsl_info
  refine wpList_append_any w hgd s x _ ho base 29 i0 _ 1 24 Tryz.underlying87 hi0 hz0 hz1 hz2 rfl (by omega) (.slice A L.length c) L.length (L.map BV.v) hs hown.row Z B M.length d (M.map BV.v) hx hr (fun u hu => by obtain ⟨y, _, rfl⟩ := List.mem_map.1 hu; rfl) (by simp only [maxLen]; omega) (by omega) hbase ?_
  intro v' w' h1 h2 h3
  obtain ⟨A', c', rfl, _⟩ := own_form h1
  refine h A' c' w' ⟨?_, ?_⟩ (grown_below h2 hbase (fun g e => (World.ownsRow.lt hown.row g e).1)) h2 h3
  · rw [List.length_append, List.map_append]
    exact h1
  · intro y hy
    have hy0 : y.ok w (fun b => (Value.slice A L.length c).ownBlock ≠ some b) := by
      rcases List.mem_append.1 hy with hy | hy
      · exact hown.byt y hy
      · exact hM y hy
    have hy1 := hy0.mono (Z' := fun b => b < w.heap.size ∧ (Value.slice A L.length c).ownBlock ≠ some b) (fun b hb hz => ⟨hb, hz⟩)
    have hf : Fr (fun g => (Value.slice A L.length c).ownBlock = some g) w w' := Fr.of_grown h2 (fun k _ e => e.symm ▸ rfl)
    refine (hy1.fr hf (fun b _ hz e => hz.2 e)).mono (fun b _ hz e => ?_)
    have e2 : (Value.slice A' (L.length + M.length) c').ownBlock = some b := by rw [← List.length_append]; exact e
    rcases h3 with h4 | h4
    · exact hz.2 (by rw [← h4]; exact e2)
    · rw [h4] at e2
      injection e2 with e2
      have := hz.1
      omega
theorem dir_by (w : World) : By (w.alloc (.cells #[.int .u8 100, .int .u8 105, .int .u8 114] 5 (3, 4))) (fun b => b = w.heap.size) (some ⟨w.heap.size, 0, none⟩) [100, 105, 114] := by
  refine ⟨rfl, fun _ => ⟨w.heap.size, 0, rfl, rfl, by simp, fun j u hu => ?_⟩⟩
  rw [Nat.zero_add, World.cell?_alloc_mark]
  have e : ((#[.int .u8 100, .int .u8 105, .int .u8 114] : Array Value)) = (([100, 105, 114] : List UInt8).map bv).toArray := rfl
  rw [e, List.getElem?_toArray]
  exact hu
theorem dir_conv (w : World) : (convert 29 29 (.slice (some ⟨w.heap.size, 0, none⟩) 3 3)).run Tryz.prog (w.alloc (.cells #[.int .u8 100, .int .u8 105, .int .u8 114] 5)) = .ok (.slice (some ⟨w.heap.size, 0, none⟩) 3 3) (w.alloc (.cells #[.int .u8 100, .int .u8 105, .int .u8 114] 5 (3, 4))) :=
  Lib.run_convert_bytes_const (P := Tryz.prog) w 29 5 #[.int .u8 100, .int .u8 105, .int .u8 114] 3 3 Tryz.underlying29 Tryz.underlying5
/-- an array's block, read as a slice -/
theorem array_by {w : World} {g : Nat} {t : TypeId} {R : List UInt8} (h : Blk w g t (R.map bv).toArray) : By w (fun b => b = g) (some ⟨g, 0, none⟩) R := by
  refine ⟨by simp, fun _ => ⟨g, 0, rfl, rfl, h.lt, fun j u hu => ?_⟩⟩
  rw [Nat.zero_add, h.cell, List.getElem?_toArray]
  exact hu
end Go.Proofs.YtjcfphdjgagimaaGreatDoor
