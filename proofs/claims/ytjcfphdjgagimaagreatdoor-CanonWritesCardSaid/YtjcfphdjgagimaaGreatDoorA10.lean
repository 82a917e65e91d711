/- canon.Bytes at none; canon.Sum. -/
import Derived.Test.YtjcfphdjgagimaaGreatDoorA09
import Derived.Lib.SlBytesConst
import Derived.Stop.BytesEq
import Derived.Lib.LaidTab
import Derived.Handed
import Derived.KernelRfl

namespace Go.Proofs.YtjcfphdjgagimaaGreatDoor
open Go.RowKit Go.Maps


theorem canonB_len {T : List (List UInt8 × LP)} (h : TreeOk T) : (canonB T).length ≤ 1000000 := by
  have h1 := itemsB_len T (fun x hx => ⟨(h.good x hx).1, (h.good x hx).2.2⟩)
  have h2 := numB_len T.length
  have h3 := h.len
  unfold canonB
  rw [List.length_append]
  omega
theorem canonB_nil : canonB [] = [0] := by decide
theorem BV.ok.of_own' {w : World} {base : Nat} {A : Option Addr} {c : Nat} {l : List UInt8} (h : OwB w base (.slice A l.length c) l) : BV.ok w (fun b => base ≤ b ∧ b < w.heap.size) ⟨A, c, l⟩ := by
  obtain ⟨A', c', e, q1, q2, q3⟩ := h.form
  injection e with e1 e2 e3
  subst e1 e3
  exact ⟨h.rd.mono (fun b _ hb => ⟨(q3 b hb).1, (q3 b hb).2.1⟩), q1, q2⟩
/-- canon.Bytes of none -/
theorem canonBytes_nil (w : World) :
    Calls Tryz.prog 8 #[.pointer none] w fun e w' => ∃ (A : Option Addr) (c : Nat) (l : List UInt8), e = .returned (.slice A l.length c) ∧ Hid (l = canonB []) ∧ OwB w' w.heap.size (.slice A l.length c) l ∧ Below w.heap.size w w' := by
  have hba : Below w.heap.size w (w.alloc (.cells #[.slice none 0 0] 55)) := (Below.refl _ _).alloc (Nat.le_refl _) _
  have HP1 := Lib.hid (Pen.new w (base := w.heap.size))
  go_enter Tryz.func8, Tryz.ntmps8
  go_wp2_with fail
  generalize w.alloc (.cells #[.slice none 0 0] 55) = w1 at *
  refine (treeLen_nil w1).mono ?_
  rintro e w2 ⟨rfl, hb2⟩
  have hcv := IntWalk.u64_in (0 : Int) ⟨by omega, by omega⟩
  have HP2 := Lib.hid (HP1.out.below hb2)
  have hbl : Below w2.heap.size w2 (w2.alloc (.cells #[.int .u64 0] 57)) := (Below.refl _ _).alloc (Nat.le_refl _) _
  have hR : Rd (w2.alloc (.cells #[.int .u64 0] 57)) (fun b => w2.heap.size ≤ b) 1 (some ⟨w2.heap.size, 0, none⟩) 1 [u64v 0] := Rd.lit (w := w2) (t := 57) (size := 1) (n := 1) (xs := [.int .u64 0]) rfl rfl rfl
  have hp1l := HP2.out.blk.lt
  have HNM := Lib.hid (Num_any w.heap.size w.heap.size (.slice none 0 0) [] (some ⟨w2.heap.size, 0, none⟩) 1 [0] _ _ (HP2.out.below hbl) hR (fun b _ hz e => by
    have hz' : w2.heap.size ≤ b := hz
    rcases e with e | e
    · omega
    · simp [Value.ownBlock] at e) (fun n hn => by
    simp only [List.mem_cons, List.not_mem_nil, or_false] at hn
    subst hn
    omega) (by simp; omega) (by simp))
  have hs12 := hba.size
  have hw2 := hba.trans (hb2.mono hs12)
  clear hR
  go_wp2_with fail
  refine HNM.out.mono ?_
  rintro e w3 ⟨rfl, v2, h2⟩
  rw [List.nil_append, List.flatMap_cons, List.flatMap_nil, List.append_nil] at h2
  have hw3 : Below w.heap.size w w3 := (hw2.trans (hbl.mono hw2.size)).trans (h2.fr.below (B := w.heap.size) (by simp; omega) (fun k hk e => by
    rcases e with rfl | e
    · omega
    · simp [Value.ownBlock] at e))
  have HPE := Lib.hid h2.pen
  have hpb2 := h2.pen.blk.lt
  clear HNM HP1 hbl h2
  go_wp2_with fail
  refine (treeItems_nil w3).mono ?_
  rintro e w4 ⟨rfl, hb4⟩
  have HP4 := Lib.hid (HPE.out.below hb4)
  have hw4 := hw3.trans (hb4.mono hw3.size)
  have hn0 : (numB 0).length ≤ 9 := numB_len 0
  clear HPE hb4
  go_wp2_with fail
  go_loopw [14] (fun iv wr => iv = .int .i64 0 ∧ wr = w4) (fun iv _ => 0)
  case atStart => exact ⟨rfl, rfl⟩
  case round =>
    obtain ⟨rfl, rfl⟩ := hrel
    go_wp2_with fail
    refine (Bytes_any w.heap.size w.heap.size v2 (numB 0) _ HP4.out (by omega)).mono ?_
    rintro e w9 ⟨A9, c9, l9, rfl, hl9, ho9, hb9⟩
    go_wp2_with fail
    go_ret
    exact ⟨A9, c9, l9, rfl, Lib.hid (by rw [hl9.out]; simp [canonB, itemsB]), own_base ho9 (fun g hg => Nat.le_trans hw4.size (ho9.lt g hg).1), hw4.trans (hb9.mono hw4.size)⟩


set_option maxRecDepth 100000 in
set_option maxHeartbeats 2000000 in
theorem canonSum_any (hSS : SortsT) (tb : Nat) (mo : Option Nat) (L : List (List UInt8 × LV)) (w : World) (h : TreeAt w tb mo L) (hG : Globs w) :
    Calls Tryz.prog 12 #[.pointer (some ⟨tb, 0, none⟩)] w fun e w' => e = .returned (.agg ((shaS (canonB (plainL L))).map bv).toArray) ∧ Below w.heap.size w w' := by
  have x0 : Blk (w.alloc (.cells #[.int .u8 0, .int .u8 0, .int .u8 0, .int .u8 0, .int .u8 0, .int .u8 0, .int .u8 0, .int .u8 0, .int .u8 0, .int .u8 0, .int .u8 0, .int .u8 0, .int .u8 0, .int .u8 0, .int .u8 0, .int .u8 0, .int .u8 0, .int .u8 0, .int .u8 0, .int .u8 0, .int .u8 0, .int .u8 0, .int .u8 0, .int .u8 0, .int .u8 0, .int .u8 0, .int .u8 0, .int .u8 0, .int .u8 0, .int .u8 0, .int .u8 0, .int .u8 0] 37)) w.heap.size 37 (((List.replicate 32 (0 : UInt8)).map bv).toArray) := Blk.new w 37 #[.int .u8 0, .int .u8 0, .int .u8 0, .int .u8 0, .int .u8 0, .int .u8 0, .int .u8 0, .int .u8 0, .int .u8 0, .int .u8 0, .int .u8 0, .int .u8 0, .int .u8 0, .int .u8 0, .int .u8 0, .int .u8 0, .int .u8 0, .int .u8 0, .int .u8 0, .int .u8 0, .int .u8 0, .int .u8 0, .int .u8 0, .int .u8 0, .int .u8 0, .int .u8 0, .int .u8 0, .int .u8 0, .int .u8 0, .int .u8 0, .int .u8 0, .int .u8 0]
  have hw1 : Below w.heap.size w (w.alloc (.cells #[.int .u8 0, .int .u8 0, .int .u8 0, .int .u8 0, .int .u8 0, .int .u8 0, .int .u8 0, .int .u8 0, .int .u8 0, .int .u8 0, .int .u8 0, .int .u8 0, .int .u8 0, .int .u8 0, .int .u8 0, .int .u8 0, .int .u8 0, .int .u8 0, .int .u8 0, .int .u8 0, .int .u8 0, .int .u8 0, .int .u8 0, .int .u8 0, .int .u8 0, .int .u8 0, .int .u8 0, .int .u8 0, .int .u8 0, .int .u8 0, .int .u8 0, .int .u8 0] 37)) := (Below.refl _ _).alloc (Nat.le_refl _) _
  have HG := Lib.hid (hG.below hw1)
  have HT := Lib.hid (h.below hw1)
  have HLEN := Lib.hid (canonB_len h.plain)
  clear h
  clear hG
  obtain ⟨R, hR⟩ : ∃ R, R = shaS (canonB (plainL L)) := ⟨_, rfl⟩
  rw [← hR]
  have HR := Lib.hid hR
  clear hR
  go_enter Tryz.func12, Tryz.ntmps12
  go_upto_region 1 with (fail)
  generalize (w.alloc (.cells #[.int .u8 0, .int .u8 0, .int .u8 0, .int .u8 0, .int .u8 0, .int .u8 0, .int .u8 0, .int .u8 0, .int .u8 0, .int .u8 0, .int .u8 0, .int .u8 0, .int .u8 0, .int .u8 0, .int .u8 0, .int .u8 0, .int .u8 0, .int .u8 0, .int .u8 0, .int .u8 0, .int .u8 0, .int .u8 0, .int .u8 0, .int .u8 0, .int .u8 0, .int .u8 0, .int .u8 0, .int .u8 0, .int .u8 0, .int .u8 0, .int .u8 0, .int .u8 0] 37)) = w1 at *
  go_wp2_with fail
  refine (canonBytes_any hSS tb mo L w1 HT.out).mono ?_
  rintro e w2 ⟨A, c, l, rfl, hl, ho, hb2⟩
  have hw2 := hw1.trans (hb2.mono hw1.size)
  have hlen : l.length ≤ 1000000 := by
    rw [hl.out]
    exact HLEN.out
  have HS := sumB_any A c l _ w2 (BV.ok.of_own' ho) (HG.out.below hb2) (by omega)
  rw [hl.out, ← HR.out] at HS
  replace HS := Lib.hid HS
  have x2 := x0.below hb2
  rw [hl.out]
  clear x0 hb2
  go_wp2_with fail
  refine HS.out.mono ?_
  rintro e w4 ⟨rfl, hb4⟩
  have x4 := x2.below hb4
  have hRl : R.length = 32 := by rw [HR.out]; exact sha_len _
  have hsz : (R.map bv).toArray.size = 32 := by simp [hRl]
  have HSI : Hid ((Tryz.prog.info? 37).map (·.size) = some (R.map bv).toArray.size) := Lib.hid (by rw [hsz]; kernel_rfl)
  have HSZ : Hid ((((List.replicate 32 (0 : UInt8)).map bv).toArray).size = (R.map bv).toArray.size) := Lib.hid (by rw [hsz]; rfl)
  have HO : Hid (((R.map bv).toArray).all (·.oneCell') = true) := Lib.hid (by
    rw [List.all_toArray, List.all_eq_true]
    exact fun u hu => bv_one R u hu)
  have hw4 := hw2.trans (hb4.mono hw2.size)
  have hwE := hw4.trans (((Fr.refl (fun x => x = w.heap.size) w4).setRow w.heap.size rfl (R.map bv).toArray).below (B := w.heap.size) hw4.size (fun k hk e => by omega))
  clear HS x2 hb4 hsz hRl
  go_wp2_with (refine wpList_store_row rfl 37 _ _ rfl w.heap.size _ rfl rfl 37 _ x4 HSI.out HSZ.out HO.out ?_)
  refine bodyPost_ret (results_cell_row Tryz.results12 _ _ w.heap.size 37 _ (0, 0) _ rfl (x4.setRow _) Tryz.underlying37 rfl HSI.out) rfl ?_
  exact ⟨rfl, hwE⟩


set_option maxRecDepth 100000 in
set_option maxHeartbeats 2000000 in
theorem canonSum_nil  (w : World)  (hG : Globs w) :
    Calls Tryz.prog 12 #[.pointer none] w fun e w' => e = .returned (.agg ((shaS (canonB [])).map bv).toArray) ∧ Below w.heap.size w w' := by
  have x0 : Blk (w.alloc (.cells #[.int .u8 0, .int .u8 0, .int .u8 0, .int .u8 0, .int .u8 0, .int .u8 0, .int .u8 0, .int .u8 0, .int .u8 0, .int .u8 0, .int .u8 0, .int .u8 0, .int .u8 0, .int .u8 0, .int .u8 0, .int .u8 0, .int .u8 0, .int .u8 0, .int .u8 0, .int .u8 0, .int .u8 0, .int .u8 0, .int .u8 0, .int .u8 0, .int .u8 0, .int .u8 0, .int .u8 0, .int .u8 0, .int .u8 0, .int .u8 0, .int .u8 0, .int .u8 0] 37)) w.heap.size 37 (((List.replicate 32 (0 : UInt8)).map bv).toArray) := Blk.new w 37 #[.int .u8 0, .int .u8 0, .int .u8 0, .int .u8 0, .int .u8 0, .int .u8 0, .int .u8 0, .int .u8 0, .int .u8 0, .int .u8 0, .int .u8 0, .int .u8 0, .int .u8 0, .int .u8 0, .int .u8 0, .int .u8 0, .int .u8 0, .int .u8 0, .int .u8 0, .int .u8 0, .int .u8 0, .int .u8 0, .int .u8 0, .int .u8 0, .int .u8 0, .int .u8 0, .int .u8 0, .int .u8 0, .int .u8 0, .int .u8 0, .int .u8 0, .int .u8 0]
  have hw1 : Below w.heap.size w (w.alloc (.cells #[.int .u8 0, .int .u8 0, .int .u8 0, .int .u8 0, .int .u8 0, .int .u8 0, .int .u8 0, .int .u8 0, .int .u8 0, .int .u8 0, .int .u8 0, .int .u8 0, .int .u8 0, .int .u8 0, .int .u8 0, .int .u8 0, .int .u8 0, .int .u8 0, .int .u8 0, .int .u8 0, .int .u8 0, .int .u8 0, .int .u8 0, .int .u8 0, .int .u8 0, .int .u8 0, .int .u8 0, .int .u8 0, .int .u8 0, .int .u8 0, .int .u8 0, .int .u8 0] 37)) := (Below.refl _ _).alloc (Nat.le_refl _) _
  have HG := Lib.hid (hG.below hw1)
  have HLEN : Hid ((canonB []).length ≤ 1000000) := Lib.hid (by rw [canonB_nil]; decide)
  clear hG
  obtain ⟨R, hR⟩ : ∃ R, R = shaS (canonB []) := ⟨_, rfl⟩
  rw [← hR]
  have HR := Lib.hid hR
  clear hR
  go_enter Tryz.func12, Tryz.ntmps12
  go_upto_region 1 with (fail)
  generalize (w.alloc (.cells #[.int .u8 0, .int .u8 0, .int .u8 0, .int .u8 0, .int .u8 0, .int .u8 0, .int .u8 0, .int .u8 0, .int .u8 0, .int .u8 0, .int .u8 0, .int .u8 0, .int .u8 0, .int .u8 0, .int .u8 0, .int .u8 0, .int .u8 0, .int .u8 0, .int .u8 0, .int .u8 0, .int .u8 0, .int .u8 0, .int .u8 0, .int .u8 0, .int .u8 0, .int .u8 0, .int .u8 0, .int .u8 0, .int .u8 0, .int .u8 0, .int .u8 0, .int .u8 0] 37)) = w1 at *
  go_wp2_with fail
  refine (canonBytes_nil w1).mono ?_
  rintro e w2 ⟨A, c, l, rfl, hl, ho, hb2⟩
  have hw2 := hw1.trans (hb2.mono hw1.size)
  have hlen : l.length ≤ 1000000 := by
    rw [hl.out]
    exact HLEN.out
  have HS := sumB_any A c l _ w2 (BV.ok.of_own' ho) (HG.out.below hb2) (by omega)
  rw [hl.out, ← HR.out] at HS
  replace HS := Lib.hid HS
  have x2 := x0.below hb2
  rw [hl.out]
  clear x0 hb2
  go_wp2_with fail
  refine HS.out.mono ?_
  rintro e w4 ⟨rfl, hb4⟩
  have x4 := x2.below hb4
  have hRl : R.length = 32 := by rw [HR.out]; exact sha_len _
  have hsz : (R.map bv).toArray.size = 32 := by simp [hRl]
  have HSI : Hid ((Tryz.prog.info? 37).map (·.size) = some (R.map bv).toArray.size) := Lib.hid (by rw [hsz]; kernel_rfl)
  have HSZ : Hid ((((List.replicate 32 (0 : UInt8)).map bv).toArray).size = (R.map bv).toArray.size) := Lib.hid (by rw [hsz]; rfl)
  have HO : Hid (((R.map bv).toArray).all (·.oneCell') = true) := Lib.hid (by
    rw [List.all_toArray, List.all_eq_true]
    exact fun u hu => bv_one R u hu)
  have hw4 := hw2.trans (hb4.mono hw2.size)
  have hwE := hw4.trans (((Fr.refl (fun x => x = w.heap.size) w4).setRow w.heap.size rfl (R.map bv).toArray).below (B := w.heap.size) hw4.size (fun k hk e => by omega))
  clear HS x2 hb4 hsz hRl
  go_wp2_with (refine wpList_store_row rfl 37 _ _ rfl w.heap.size _ rfl rfl 37 _ x4 HSI.out HSZ.out HO.out ?_)
  refine bodyPost_ret (results_cell_row Tryz.results12 _ _ w.heap.size 37 _ (0, 0) _ rfl (x4.setRow _) Tryz.underlying37 rfl HSI.out) rfl ?_
  exact ⟨rfl, hwE⟩

end Go.Proofs.YtjcfphdjgagimaaGreatDoor

/- tenderlaw08: lives. -/
namespace Go.Proofs.YtjcfphdjgagimaaGreatDoor
open Go.RowKit Go.Maps

/-- a row of bytes that is marked -/
def BlkM (w : World) (g : Nat) (cs : Array Value) (f : Nat × Nat) : Prop := w.heap[g]? = some (.cells cs 5 f)
theorem BlkM.lt {w : World} {g : Nat} {cs : Array Value} {f : Nat × Nat} (h : BlkM w g cs f) : g < w.heap.size := (Array.getElem?_eq_some_iff.1 h).1
theorem BlkM.fr {w w' : World} {g : Nat} {cs : Array Value} {f : Nat × Nat} {S : Nat → Prop} (h : BlkM w g cs f) (k : Fr S w w') (hs : ¬ S g) : BlkM w' g cs f := (k.block g h.lt hs).trans h
end Go.Proofs.YtjcfphdjgagimaaGreatDoor

/- tenderlaw09.lives. -/
namespace Go.Proofs.YtjcfphdjgagimaaGreatDoor
open Go.RowKit Go.Maps

/-- two digests, the same -/
theorem digest_same (R : List UInt8) (h : R.length = 32) (w : World) : (Op.equalIn 10000 37 (.agg (R.map bv).toArray) (.agg (R.map bv).toArray)).run Tryz.prog w = .ok true w := by
  have h1 := run_equalIn_bytes (P := Tryz.prog) w 9998 37 5 32 Tryz.underlying37 Tryz.underlying5 (fun w => by kernel_rfl) R R h h
  rw [show (R == R) = true by simp] at h1
  exact h1

theorem zero_by (w : World) : By (w.alloc (.cells #[.int .u8 0] 5)) (fun b => w.heap.size ≤ b) (some ⟨w.heap.size, 0, none⟩) [0] := Rd.lit (w := w) (t := 5) (size := 1) (n := 1) (xs := [.int .u8 0]) rfl rfl rfl
set_option maxRecDepth 100000 in
set_option maxHeartbeats 2000000 in
theorem lives09_any (w : World) (hG : Globs w) :
    Calls Tryz.prog 6 #[] w fun e w' => e = .returned (.bool true) ∧ Below w.heap.size w w' := by
  have hw1 : Below w.heap.size w (w.alloc (.cells #[.int .u8 0] 5)) := (Below.refl _ _).alloc (Nat.le_refl _) _
  have HG1 := Lib.hid (hG.below hw1)
  have HRD := Lib.hid (canonRead_good sortsT (some ⟨w.heap.size, 0, none⟩) 1 [0] [] _ (Lib.hid canonB_nil.symm) TreeOk.nil DirsOk.nil ((zero_by w).mono (fun b hb _ => hb)) (by decide) (by decide))
  obtain ⟨R, hR⟩ : ∃ R, R = shaS [0] := ⟨_, rfl⟩
  have hRl : R.length = 32 := by rw [hR]; exact sha_len _
  have hds := fun w => digest_same R hRl w
  obtain ⟨D, hD⟩ : ∃ D, D = (R.map bv).toArray := ⟨_, rfl⟩
  rw [← hD] at hds
  have HD : Hid (((shaS [0]).map bv).toArray = D) := Lib.hid (by rw [hD, hR])
  clear hR hD hRl hG
  go_enter Tryz.func6, Tryz.ntmps6
  go_wp2_with fail
  generalize w.alloc (.cells #[.int .u8 0] 5) = w1 at *
  refine HRD.out.mono ?_
  rintro e w2 ⟨tb, mo, LL, rfl, ht, hpl, hb2⟩
  have hw2 := hw1.trans (hb2.mono hw1.size)
  have HG2 := Lib.hid (HG1.out.below hb2)
  have HT2 := Lib.hid ht
  have hLL : LL.length = 0 := by have := congrArg List.length hpl.out; rwa [plain_len] at this
  clear HRD ht hb2 HG1
  go_wp2_with fail
  refine (canonBytes_nil w2).mono ?_
  rintro e w3 ⟨A3, c3, l3, rfl, hl3, ho3, hb3⟩
  have k3 := conv_by ho3.rd c3
  have HL3 : Hid (l3 = [0]) := Lib.hid (by rw [hl3.out, canonB_nil])
  rw [HL3.out] at k3 ⊢
  replace k3 : (convert 29 9 (.slice A3 1 c3)).run Tryz.prog w3 = .ok (.string ⟨#[0]⟩) w3 := k3
  have hw3 := hw2.trans (hb3.mono hw2.size)
  have HG3 := Lib.hid (HG2.out.below hb3)
  have HT3 := Lib.hid (HT2.out.below hb3)
  clear HT2 HG2 ho3 hb3
  go_wp2_with fail
  refine (treeLen_any tb mo LL w3 HT3.out).mono ?_
  rintro e w4 ⟨rfl, rfl⟩
  rw [hLL]
  clear k3 hl3 HL3 HT3 hpl
  go_wp2_with fail
  refine (canonSum_nil w3 HG3.out).mono ?_
  rw [canonB_nil, HD.out]
  rintro e w5 ⟨rfl, hb5⟩
  have hw5 := hw3.trans (hb5.mono hw3.size)
  have HG5 := Lib.hid (HG3.out.below hb5)
  have hw6 : Below w5.heap.size w5 (w5.alloc (.cells #[.int .u8 0] 5)) := (Below.refl _ _).alloc (Nat.le_refl _) _
  have HS := Lib.hid (sumB_any (some ⟨w5.heap.size, 0, none⟩) 1 [0] _ _ ⟨zero_by w5, Nat.le_refl _, show (1 : Nat) ≤ maxLen by decide⟩ (HG5.out.below hw6) (by decide))
  have hw56 := hw5.trans (hw6.mono hw5.size)
  rw [HD.out] at HS
  clear HG3 hb5 HG5 hw6 HD
  go_wp2_with fail
  generalize w5.alloc (.cells #[.int .u8 0] 5) = w6 at *
  refine HS.out.mono ?_
  rintro e w7 ⟨rfl, hb7⟩
  have hw7 := hw56.trans (hb7.mono hw56.size)
  clear HS hb7
  go_wp2_with fail
  go_ret
  exact ⟨rfl, hw7⟩

end Go.Proofs.YtjcfphdjgagimaaGreatDoor

/- tenderref09.Bytes; canon.Bytes at none; canon.Sum. -/
namespace Go.Proofs.YtjcfphdjgagimaaGreatDoor
open Go.RowKit Go.Maps


set_option maxRecDepth 100000 in
set_option maxHeartbeats 2000000 in
theorem refBytes09_any (A : Option Addr) (c : Nat) (M : List (List UInt8 × LV)) (w : World) (h : Its w A M) (hg : ∀ x ∈ M, goodB x.1 = true ∧ checkN x.2.k x.2.x.l.length = 0) (hl : M.length ≤ 128) :
    Calls Tryz.prog 11 #[.slice A M.length c] w fun e w' => ∃ (A' : Option Addr) (c' : Nat) (l : List UInt8), e = .returned (.slice A' l.length c') ∧ Hid (l = canonB (plainL M)) ∧ OwB w' w.heap.size (.slice A' l.length c') l ∧ Below w.heap.size w w' := by
  have HE := Lib.hid h
  have HG := Lib.hid hg
  have hcv := IntWalk.u64_in (M.length : Int) ⟨by omega, by omega⟩
  clear h hg
  go_enter Tryz.func11, Tryz.ntmps11
  go_wp2_with fail
  refine (refNum_any M.length w (by omega)).mono ?_
  rintro e w2 ⟨v2, rfl, ho2, hb2⟩
  obtain ⟨A2, c2, rfl, _, _, _⟩ := ho2.form
  have n2 := numB_len M.length
  go_wp2_with fail
  go_loopw [3, 4] (fun wv iv wr => ∃ (i : Nat) (L : List UInt8) (Aw : Option Addr) (cw : Nat), i ≤ M.length ∧ iv = .int .i64 (i : Int) ∧ wv = .slice Aw L.length cw ∧ OwB wr w.heap.size (.slice Aw L.length cw) L ∧ Hid (L = numB M.length ++ itemsB (plainL (M.take i))) ∧ Below w.heap.size w wr) (fun _ iv _ => M.length - (intOf iv).toNat)
  case atStart => exact ⟨0, numB M.length, A2, c2, Nat.zero_le _, rfl, rfl, ho2, Lib.hid (by simp [itemsB, plainL]), hb2⟩
  case round =>
    obtain ⟨i, L, Aw, cw, hi, rfl, rfl, hown, hL, hb⟩ := hrel
    have hsr := hb.size
    by_cases hlt : i < M.length
    · obtain ⟨b, off, hA, hbb, c0, c1, c2'⟩ := HE.out.at_ hlt
      have hxo := HE.out.ok _ (List.getElem_mem hlt)
      obtain ⟨g1, g2⟩ := HG.out _ (List.getElem_mem hlt)
      have g3 := goodB_len g1
      have g4 := checkN_small g2
      have hsn := itemsB_snoc M i hlt
      have hLl : L.length ≤ 700000 := by
        have h1 := itemsB_len (plainL (M.take i)) (fun y hy => by
          obtain ⟨x, hx, rfl⟩ := List.mem_map.1 hy
          exact HG.out x (List.mem_of_mem_take hx))
        rw [plain_len, List.length_take] at h1
        rw [hL.out, List.length_append]
        omega
      generalize M[i] = x at *
      obtain ⟨pl, k, xA, xc, xl⟩ := x
      dsimp only at c0 c1 c2' hxo g2 g4 g3 hsn
      replace c0 : wr.cell? ⟨b, off + i * 3, none⟩ = some (.string ⟨⟨pl⟩⟩) := cellAt hb hbb c0
      have hk := checkN_kind g2
      have HCE : Hid (∀ W, Below w.heap.size w W → W.cell? ⟨b, off + i * 3 + 1, none⟩ = some (.int .i64 k) ∧ W.cell? ⟨b, off + i * 3 + 2, none⟩ = some (.slice xA xl.length xc) ∧ b < W.heap.size) := Lib.hid (fun W hW => ⟨cellAt hW hbb c1, cellAt hW hbb c2', Nat.lt_of_lt_of_le hbb hW.size⟩)
      have HLB := Lib.hid (fun W (hW : Below w.heap.size w W) => leafBytes_any k xA xc xl _ W (hxo.1.below hW) (by omega) (by omega))
      have hbbr := Nat.lt_of_lt_of_le hbb hsr
      have hel := leafB_len k xl
      have hxn := numB_len pl.length
      have HSN := Lib.hid hsn
      subst hA
      clear hsn hxo g1 g2
      obtain ⟨cc, W2, hcv2, hby2, hcc1, hcc2, hlow2, hs2⟩ := conv_str wr pl (by simp only [maxLen]; omega)
      go_wp2_with fail
      clear hcv2
      refine (refText_any _ cc pl _ W2 hby2 (by omega)).mono ?_
      rintro e w3 ⟨v3, rfl, ho3, hb3⟩
      obtain ⟨A3, c3, rfl, _, _, _⟩ := ho3.form
      have htl : (textB pl).length ≤ 9 + pl.length := by unfold textB; rw [List.length_append]; omega
      have hlow3 : Below wr.heap.size wr w3 := hlow2.trans (hb3.mono hlow2.size)
      have hown3 := hown.below hlow3
      have hb3w := hb.trans (hlow3.mono hsr)
      have hs3 := hb3w.size
      clear hown hb3 hlow2 hby2 hb hsr c0 hbb c1 c2'
      go_wp2_with (at_builtin; refine wpList_append_by rfl (.tmp 15) (.tmp 22) rfl (v := .slice Aw L.length cw) rfl hown3 rfl ho3.rd (by omega) hs3 ?_; intro L4 A4 c4 w4 hL4 hown4 hg4 _; have hb34 := grown_below hg4 hs3 (fun g e => (hown3.lt g e).1); have hb4 : Below w.heap.size w w4 := hb3w.trans hb34; obtain ⟨d1, d2, hb4l⟩ := HCE.out w4 hb4; have hs4 := hb4.size; have hL4l : L4.length ≤ 800000 := by (rw [hL4.out, List.length_append]; omega))
      refine (HLB.out _ hb4).mono ?_
      rintro e w5 ⟨A5, c5, l5, rfl, hl5, ho5, hb5⟩
      have hl5l : l5.length ≤ 10000 := by rw [hl5.out]; omega
      have hown5 := hown4.below hb5
      have hb5w := hb4.trans (hb5.mono hs4)
      have hs5 := hb5w.size
      go_wp2_with (at_builtin; refine wpList_append_by rfl (.tmp 24) (.tmp 30) rfl (v := .slice A4 L4.length c4) rfl hown5 rfl ho5.rd (by omega) hs5 ?_; intro L6 A6 c6 w6 hL6 hown6 hg6 _; have hb56 := grown_below hg6 hs5 (fun g e => (hown5.lt g e).1); have hb6 : Below w.heap.size w w6 := hb5w.trans hb56)
      have HN : Hid (L6 = numB M.length ++ itemsB (plainL (M.take (i + 1)))) := Lib.hid (by rw [hL6.out, hL4.out, hl5.out, hL.out, HSN.out]; simp only [List.append_assoc])
      go_roundw
      case rel => exact ⟨i + 1, L6, A6, c6, hlt, by go_num, rfl, hown6, HN.out, hb6⟩
      case measure => simp [intOf]; omega
    · have e : i = M.length := by omega
      subst e
      go_wp2_with fail
      go_ret
      refine ⟨Aw, cw, L, rfl, ?_, hown, hb⟩
      show _ = _
      rw [hL.out, List.take_length]
      unfold canonB
      rw [plain_len]

end Go.Proofs.YtjcfphdjgagimaaGreatDoor

/- CanonWrites is true for every input: the bytes and the digest of any tree are the document's, and the tree is read of them as it was. -/
namespace Go.Proofs.YtjcfphdjgagimaaGreatDoor
open Go.RowKit Go.Maps

theorem ItsOwn.its9 {w : World} {base : Nat} {A : Option Addr} {c : Nat} {M : List (List UInt8 × LV)} {T : List (List UInt8 × LP)} (h : ItsOwn w base A c M) (hM : Hid (plainL M = T)) (hok : TreeOk T) : Its w A M := by
  refine h.its ?_ ?_
  · have := hok.len
    rw [← hM.out, plain_len] at this
    omega
  · intro x hx
    have hm : (x.1, x.2.p) ∈ T := by rw [← hM.out]; exact List.mem_map.2 ⟨x, hx, rfl⟩
    obtain ⟨g1, g2, g3⟩ := hok.good _ hm
    have h1 := goodB_len g1
    have h2 : x.2.x.l.length ≤ 4096 := by
      unfold checkN LV.p at g3
      dsimp only at g3
      by_cases h1 : x.2.k = 1
      · rw [if_pos h1] at g3
        by_cases h2 : x.2.x.l.length ≤ 4096
        · exact h2
        · rw [if_neg h2] at g3; simp at g3
      · rw [if_neg h1] at g3
        by_cases h3 : x.2.k = 0 ∨ x.2.k = 2
        · rw [if_pos h3] at g3
          by_cases h4 : x.2.x.l.length = 0
          · omega
          · rw [if_neg h4] at g3; simp at g3
        · rw [if_neg h3] at g3; simp at g3
    dsimp only at h1
    omega


set_option maxRecDepth 100000 in
set_option maxHeartbeats 2000000 in
theorem canonWrites_any (A : Option Addr) (c : Nat) (l : List (List UInt8 × LV)) (w : World) (h : ItA w A l) (hG : Globs w) :
    Calls Tryz.prog 3 #[.slice A l.length c] w fun e w' => e = .returned (.bool true) ∧ Below w.heap.size w w' := by
  have HL := Lib.hid (lightI_any A c l w h)
  have HA := Lib.hid h
  have HG := Lib.hid hG
  clear h hG
  rcases hli : lightI l with _ | _
  · rw [hli] at HL
    go_enter Tryz.func3, Tryz.ntmps3
    go_wp2_with fail
    refine HL.out.mono ?_
    rintro e w1 ⟨rfl, hwE⟩
    have HGE := Lib.hid (HG.out.below hwE)
    go_wp2_with fail
    refine (lives09_any _ HGE.out).mono ?_
    rintro e wz ⟨rfl, hbz⟩
    go_wp2_with fail
    go_ret
    exact ⟨rfl, hwE.trans (hbz.mono hwE.size)⟩
  · rw [hli] at HL
    have hll := lightI_len hli
    go_enter Tryz.func3, Tryz.ntmps3
    go_wp2_with fail
    refine HL.out.mono ?_
    rintro e w1 ⟨rfl, hw1⟩
    go_wp2_with fail
    refine (plays08_any A c l w1 (HA.out.below hw1) hll).mono ?_
    rintro e w2 ⟨tb, mo, L, B, d, M, rfl, hP, htb, hmo, hb2⟩
    have hw2 := hw1.trans (hb2.mono hw1.size)
    have HG2 := Lib.hid (HG.out.below hw2)
    have hdirs := play_dirs [] (plainL l) DirsOk.nil
    generalize playS [] (plainL l) = T at *
    have hok : TreeOk T := by rw [← hP.plain.out]; exact hP.tree.plain
    have HOK := Lib.hid hok
    have HP := Lib.hid hP
    have HD := Lib.hid hdirs
    have hlen := canonB_len hok
    obtain ⟨C, hC⟩ : ∃ C, C = canonB T := ⟨_, rfl⟩
    have HC := Lib.hid hC
    rw [← hC] at hlen
    obtain ⟨R, hR⟩ : ∃ R, R = shaS C := ⟨_, rfl⟩
    have hRl : R.length = 32 := by rw [hR]; exact sha_len _
    have hds := fun w => digest_same R hRl w
    obtain ⟨D, hD⟩ : ∃ D, D = (R.map bv).toArray := ⟨_, rfl⟩
    rw [← hD] at hds
    have HDD : Hid (((shaS C).map bv).toArray = D) := Lib.hid (by rw [hD, hR])
    clear hP hb2 hll hli htb hmo hdirs hok HL HA HG hC hR hD hRl hw1
    go_wp2_with fail
    refine (canonBytes_any sortsT tb mo L w2 HP.out.tree).mono ?_
    rw [HP.out.plain.out, ← HC.out]
    rintro e w3 ⟨A3, c3, l3, rfl, hl3, ho3, hb3⟩
    obtain rfl := hl3.out
    have hw3 := hw2.trans (hb3.mono hw2.size)
    have HP3 := Lib.hid (HP.out.below hb3)
    have HG3 := Lib.hid (HG2.out.below hb3)
    have hv3 := BV.ok.of_own' ho3
    have HR3 := Lib.hid (canonRead_good sortsT A3 c3 l3 T w3 HC HOK.out HD.out (hv3.1.mono (fun b hb _ => hb)) hv3.2.1 hv3.2.2)
    have HV3 := Lib.hid (hv3.mono (Z' := fun _ => True) (fun _ _ _ => trivial))
    clear HP HG2 hl3 ho3 hb3 hv3 HD
    go_wp2_with fail
    refine HR3.out.mono ?_
    rintro e w4 ⟨ub, uo, U, rfl, hu, hUP, hb4⟩
    have hw4 := hw3.trans (hb4.mono hw3.size)
    have HP4 := Lib.hid (HP3.out.below hb4)
    have HG4 := Lib.hid (HG3.out.below hb4)
    have HV4 := Lib.hid (HV3.out.below hb4)
    have HU4 := Lib.hid hu
    have hMl : M.length ≤ 128 := by
      have := HOK.out.len
      rw [← HP4.out.same.out, plain_len] at this
      exact this
    have HMG : Hid (∀ x ∈ M, goodB x.1 = true ∧ checkN x.2.k x.2.x.l.length = 0) := Lib.hid (fun x hx => by
      have h1 : (x.1, x.2.p) ∈ T := by rw [← HP4.out.same.out]; exact List.mem_map.2 ⟨x, hx, rfl⟩
      have h2 := HOK.out.good _ h1
      exact ⟨h2.1, h2.2.2⟩)
    clear HR3 hu hb4 HP3 HG3 HV3
    go_wp2_with fail
    refine (refBytes09_any B d M w4 HP4.out.its HMG.out hMl).mono ?_
    rw [HP4.out.same.out, ← HC.out]
    rintro e w5 ⟨A5, c5, l5, rfl, hl5, ho5, hb5⟩
    obtain rfl := hl5.out
    have hw5 := hw4.trans (hb5.mono hw4.size)
    have HP5 := Lib.hid (HP4.out.below hb5)
    have HG5 := Lib.hid (HG4.out.below hb5)
    have HV5 := Lib.hid (HV4.out.below hb5)
    have HU5 := Lib.hid (HU4.out.below hb5)
    have HO5 := Lib.hid ho5.rd
    clear HP4 HG4 HV4 HU4 hl5 ho5 hb5
    go_wp2_with fail
    refine (refSame_any A3 A5 c3 c5 l5 l5 _ _ w5 HV5.out.1 HO5.out).mono ?_
    rw [show (l5 == l5) = true by simp]
    rintro e wq ⟨rfl, rfl⟩
    clear HO5
    go_wp2_with fail
    refine (canonSum_any sortsT tb mo L w5 HP5.out.tree HG5.out).mono ?_
    rw [HP5.out.plain.out, ← HC.out, HDD.out]
    rintro e w6 ⟨rfl, hb6⟩
    have hw6 := hw5.trans (hb6.mono hw5.size)
    have HP6 := Lib.hid (HP5.out.below hb6)
    have HG6 := Lib.hid (HG5.out.below hb6)
    have HV6 := Lib.hid (HV5.out.below hb6)
    have HU6 := Lib.hid (HU5.out.below hb6)
    have HS := Lib.hid (sumB_any A3 c3 l5 _ w6 HV6.out HG6.out (by omega))
    rw [HDD.out] at HS
    clear HP5 HG5 HV5 HU5 hb6 HDD
    go_wp2_with fail
    refine HS.out.mono ?_
    rintro e w7 ⟨rfl, hb7⟩
    have hw7 := hw6.trans (hb7.mono hw6.size)
    have HP7 := Lib.hid (HP6.out.below hb7)
    have HG7 := Lib.hid (HG6.out.below hb7)
    have HU7 := Lib.hid (HU6.out.below hb7)
    clear HS HP6 HG6 HV6 HU6 hb7
    go_wp2_with fail
    refine (treeItems_any sortsT ub uo U w7 HU7.out).mono ?_
    rintro e w8 ⟨A8, c8, M8, rfl, hM8, hO8, hb8⟩
    have hw8 := hw7.trans (hb8.mono hw7.size)
    have HP8 := Lib.hid (HP7.out.below hb8)
    have HGE := Lib.hid (HG7.out.below hb8)
    have hM8' : Hid (plainL M8 = T) := Lib.hid (hM8.out.trans hUP.out)
    have hsm := refSame08_any A8 B c8 d M8 M w8 (hO8.its9 hM8' HOK.out) HP8.out.its
    rw [hM8'.out, HP8.out.same.out, show decide (T = T) = true by simp] at hsm
    have HSM := Lib.hid hsm
    clear HP7 HG7 HU7 hM8 hO8 hb8 hsm
    go_wp2_with fail
    refine HSM.out.mono ?_
    rintro e w9 ⟨rfl, hb9⟩
    have hwE := hw8.trans (hb9.mono hw8.size)
    replace HGE := Lib.hid (HGE.out.below hb9)
    clear HSM hb9
    go_wp2_with fail
    refine (lives09_any _ HGE.out).mono ?_
    rintro e wz ⟨rfl, hbz⟩
    go_wp2_with fail
    go_ret
    exact ⟨rfl, hwE.trans (hbz.mono hwE.size)⟩

end Go.Proofs.YtjcfphdjgagimaaGreatDoor

/- From a law's contract to its row, where the row lists the two tables of package sha as they are laid. -/
namespace Go.Proofs.YtjcfphdjgagimaaGreatDoor
open Go.RowKit Go.WideShapes Go.ChangeShapes Go.ChangeAt

def firstZ : List Int := first8.l.map fun n : Nat => (n : Int)
def rootsZ : List Int := rootsK.map fun n : Nat => (n : Int)
theorem first_laid : (Rows.laid_tender_sha_first : DataW Unit) = Lib.tabData .u32 firstZ := by kernel_rfl
theorem roots_laid : (Rows.laid_tender_sha_roots : DataW Unit) = Lib.tabData .u32 rootsZ := by kernel_rfl
abbrev laidSha : List (String × DataW Unit) := [("tender/sha.first", Rows.laid_tender_sha_first), ("tender/sha.roots", Rows.laid_tender_sha_roots)]
theorem map_at (L : List Nat) (i : Nat) : (L.map fun n : Nat => (n : Int)).getD i 0 = ((L.getD i 0 : Nat) : Int) := by
  rw [List.getD_eq_getElem?_getD, List.getD_eq_getElem?_getD, List.getElem?_map]
  cases L[i]? <;> rfl
/-- what is listed is met: the tables lie as laid -/
theorem globs_laid {W : World} (h : laidMet Tryz.prog laidSha W) : Globs W := by
  have hg0 : Tryz.prog.globalNamed "tender/sha.first" = some 0 := by kernel_rfl
  have hg1 : Tryz.prog.globalNamed "tender/sha.roots" = some 1 := by kernel_rfl
  have ht0 : (Tryz.prog.globals[0]?).map (·.type) = some 77 := by kernel_rfl
  have ht1 : (Tryz.prog.globals[1]?).map (·.type) = some 127 := by kernel_rfl
  have hce : Tryz.prog.cellsOf 76 = 1 := by kernel_rfl
  have hc0 : Tryz.prog.cellsOf 77 = 8 := by kernel_rfl
  have hc1 : Tryz.prog.cellsOf 127 = 64 := by kernel_rfl
  obtain ⟨ps, ⟨g, t, cs, fuel, p, q, a1, a2, a3, a4, ⟨g', t', cs', fuel', p', q', b1, b2, b3, b4, b5, b6⟩, a6⟩, _⟩ := h
  obtain rfl := Option.some.inj (hg0.symm.trans a1)
  obtain rfl := Option.some.inj (ht0.symm.trans a2)
  obtain rfl := Option.some.inj (hg1.symm.trans b1)
  obtain rfl := Option.some.inj (ht1.symm.trans b2)
  rw [first_laid] at a4
  rw [roots_laid] at b4
  have h0 : Lib.TabIs Tryz.prog W "tender/sha.first" .u32 firstZ := by
    unfold Lib.TabIs
    rw [a3, ← Lib.cells_of_tab Tryz.underlying77 Tryz.underlying76 hce hc0 a4]
  have h1 : Lib.TabIs Tryz.prog W "tender/sha.roots" .u32 rootsZ := by
    unfold Lib.TabIs
    rw [b3, ← Lib.cells_of_tab Tryz.underlying127 Tryz.underlying76 hce hc1 b4]
  have hb : ∀ i, i < 64 → W.cell? ⟨1, i, none⟩ = some (.int .u32 ((rootsK.getD i 0 : Nat) : Int)) := fun i hi => by
    rw [h1.cell hg1 i (by rw [show rootsZ.length = 64 by kernel_rfl]; exact hi), rootsZ, map_at]
  exact ⟨fun i hi => by rw [h0.cell hg0 i (by rw [show firstZ.length = 8 by kernel_rfl]; exact hi), firstZ, map_at], hb, by
    have := World.block_lt_of_cell? _ _ (hb 0 (by omega))
    exact this⟩

/-- a block's cells set anew -/
def setCells (cs : Array Value) : Obj → Obj
  | .cells _ t frozen => .cells cs t frozen
  | o => o
/-- the settled world, the tables as their initialisers lay them -/
noncomputable def laidWorld (os : Os) : World :=
  { World.holding Tryz.prog os ⟨#[], #[], []⟩ with heap := ((World.holding Tryz.prog os ⟨#[], #[], []⟩).heap.modify 0 (setCells (firstZ.map fun z => Value.int .u32 z).toArray)).modify 1 (setCells (rootsZ.map fun z => Value.int .u32 z).toArray) }
theorem laid_met (os : Os) (args : Array Value) : laidMet Tryz.prog laidSha ((laidWorld os).forCall (fun _ _ => 0) ⟨#[], args, []⟩).memory :=
  laidMet_of_run' 8 (by kernel_rfl) (by kernel_rfl)

set_option maxRecDepth 100000 in
theorem law_lift_laid {os : Os} (started : os.Started) {H : Type} {enc : TypeId × Value → H} {k : FuncId} {fn : Func} {s : ChangeSpec}
    (noInit : Tryz.checked.prog.inits.idxOf? k = none) (hfn : Tryz.prog.funcs[k]? = some fn)
    (hrt : fn.resultTypes = #[4]) (hvars : s.vars = [])
    (hread : ∀ t ∈ fn.params.toList, Tryz.prog.readableRec t = true ∧ t < Tryz.prog.types.size)
    (hs : ∀ ds : List (DataW H), ds.length = fn.params.toList.length → s.fn H ds = { results := [.lit (.bool true)], args := ds })
    (witness : ∃ (w : World) (tape : Tape) (i : Input), w.os = os ∧ (w.forCall tape i).Shaped Tryz.checked.prog ∧ i.vars = [] ∧ Input.okWide Tryz.checked.prog (w.forCall tape i) .any w.heap.size k i ∧
      ((s.pre enc Tryz.checked.prog fn [] false (w.forCall tape i).memory i.args ∧ laidMet Tryz.prog laidSha (w.forCall tape i).memory) ∧ sizedMet enc Tryz.checked.prog fn (OpenSpec.ofChange s) false (w.forCall tape i).memory i.args) ∧ ({} : Assume).holds Tryz.checked.prog (lone (Frame.enter Tryz.checked.prog k i.args .normal) [] (w.forCall tape i)))
    (contract : ∀ (W : World) (base : Nat) (args : Array Value) (ds : List (DataW H)) (ps : List MemPlace),
      (∀ (j : Nat) t v, fn.params[j]? = some t → args[j]? = some v → Value.okWide Tryz.prog W .any base t v) →
      DataW.TrodAll enc Tryz.prog W 0 (fun _ => true) true fn.params.toList args.toList ds ps →
      (∀ p ∈ ps, p.block < W.heap.size) →
      (DataW.weightsEach Tryz.prog fn.params.toList ds).all (· ≤ reachBytes) = true → Globs W →
      Calls Tryz.prog k args W fun e W' => e = .returned (.bool true) ∧ Below W.heap.size W W') :
    ReturnsInHanded {} Tryz.checked os k .any (fun w args => (s.pre enc Tryz.checked.prog fn [] false w args ∧ laidMet Tryz.prog laidSha w) ∧ sizedMet enc Tryz.checked.prog fn (OpenSpec.ofChange s) false w args) (s.post enc Tryz.checked.prog fn false true false false) := by
  refine returnsInHanded_of_change_and (C := Tryz.checked) (X := fun w _ => laidMet Tryz.prog laidSha w) (fun _ _ _ hh h => h.of_heap hh) Tryz.own started noInit hfn witness ?_
  intro W base args ds gs before hval hW _ hsz hL _
  have hW' := hW
  obtain ⟨p, q, hA, hV, rfl, hfz, hnd⟩ := hW
  rw [hvars] at hV
  obtain ⟨rfl, rfl⟩ := trodVars_none hV
  have hlt : ∀ x ∈ p, x.block < W.heap.size := fun x hx => hW'.lt x (by simp [hx])
  have hlen : ds.length = fn.params.toList.length := trodAll_len _ _ _ _ hA
  have hsz' : (DataW.weightsEach Tryz.prog fn.params.toList ds).all (· ≤ reachBytes) = true := by
    have hv : s.plain.varTypes Tryz.checked.prog = [] := by simp only [ChangeSpec.plain, hvars]; rfl
    rw [hv, List.append_nil, List.append_nil] at hsz
    exact hsz
  refine (contract W base args ds p hval hA hlt hsz' (globs_laid hL)).mono fun e W' ⟨he, hb⟩ => ?_
  have e1 : s.fn H (ds ++ []) = { results := [.lit (.bool true)], args := ds } := by rw [List.append_nil]; exact hs ds hlen
  refine ⟨_, he, post_below (pa := p) (pv := []) hW' ?_ ?_ ?_ rfl hb ?_⟩
  · intro b sp hd
    rw [e1, hrt]
    exact trodAll_mk1 (shut_bool Tryz.underlying4 true)
  · intro sp hsp
    rw [e1]
    exact trodAll_stays hb _ _ _ _ hread hA (fun x hx => ⟨hlt x hx, hsp x (by simp [hx])⟩)
  · intro sp hsp
    rw [e1, hvars]
    rfl
  · exact ok_one hrt rfl (okWide_bool_mk Tryz.underlying4 true)
end Go.Proofs.YtjcfphdjgagimaaGreatDoor
