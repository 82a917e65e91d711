/- sha.Hash.Clone, Sum; sha.Sum. -/
import Derived.Test.YtjcfphdjgagimaaGreatDoorA05
import Derived.Maps.RangeWalk
import Derived.Sort.KeysCollected

namespace Go.Proofs.YtjcfphdjgagimaaGreatDoor
open Go.RowKit

theorem digest_get (v : V8) {i k : Nat} (hi : i < 8) (hk : k < 4) : (digestS v).getD (4 * i + k) 0 = UInt8.ofNat (v.l.getD i 0 / 2 ^ (24 - 8 * k)) := by
  obtain rfl | rfl | rfl | rfl | rfl | rfl | rfl | rfl : i = 0 ∨ i = 1 ∨ i = 2 ∨ i = 3 ∨ i = 4 ∨ i = 5 ∨ i = 6 ∨ i = 7 := by omega
  all_goals
    obtain rfl | rfl | rfl | rfl : k = 0 ∨ k = 1 ∨ k = 2 ∨ k = 3 := by omega
    all_goals first | rfl | (simp [digestS, V8.l, wordS])
theorem hash_len (S : List Nat) (P : List UInt8) (n : Int) (h1 : S.length = 8) (h2 : P.length = 64) : (hashCells S P n).toArray.size = 73 := by
  simp [hashCells, h1, h2]
theorem hash_one (S : List Nat) (P : List UInt8) (n : Int) : ((hashCells S P n).toArray).all (·.oneCell') = true := by
  rw [List.all_toArray, List.all_eq_true]
  intro x hx
  unfold hashCells at hx
  rcases List.mem_append.1 hx with hx | hx
  · obtain ⟨m, _, rfl⟩ := List.mem_map.1 hx; rfl
  · rcases List.mem_append.1 hx with hx | hx
    · obtain ⟨m, _, rfl⟩ := List.mem_map.1 hx; rfl
    · rw [List.mem_singleton.1 hx]; rfl
theorem HashAt.of_blk {w : World} {g : Nat} {S : List Nat} {P : List UInt8} {n : Int} (h1 : S.length = 8) (h2 : P.length = 64) (h : Blk w g 80 (hashCells S P n).toArray) : HashAt w g S P n := ⟨h, h1, h2⟩

theorem hash_zero : (Tryz.prog.info? 80).map (fun i => (i.zero, i.size)) = some (some (.agg #[.int .u32 0, .int .u32 0, .int .u32 0, .int .u32 0, .int .u32 0, .int .u32 0, .int .u32 0, .int .u32 0, .int .u8 0, .int .u8 0, .int .u8 0, .int .u8 0, .int .u8 0, .int .u8 0, .int .u8 0, .int .u8 0, .int .u8 0, .int .u8 0, .int .u8 0, .int .u8 0, .int .u8 0, .int .u8 0, .int .u8 0, .int .u8 0, .int .u8 0, .int .u8 0, .int .u8 0, .int .u8 0, .int .u8 0, .int .u8 0, .int .u8 0, .int .u8 0, .int .u8 0, .int .u8 0, .int .u8 0, .int .u8 0, .int .u8 0, .int .u8 0, .int .u8 0, .int .u8 0, .int .u8 0, .int .u8 0, .int .u8 0, .int .u8 0, .int .u8 0, .int .u8 0, .int .u8 0, .int .u8 0, .int .u8 0, .int .u8 0, .int .u8 0, .int .u8 0, .int .u8 0, .int .u8 0, .int .u8 0, .int .u8 0, .int .u8 0, .int .u8 0, .int .u8 0, .int .u8 0, .int .u8 0, .int .u8 0, .int .u8 0, .int .u8 0, .int .u8 0, .int .u8 0, .int .u8 0, .int .u8 0, .int .u8 0, .int .u8 0, .int .u8 0, .int .u8 0, .int .i64 0]), 73) := by kernel_rfl
theorem zero_cells : (#[.int .u32 0, .int .u32 0, .int .u32 0, .int .u32 0, .int .u32 0, .int .u32 0, .int .u32 0, .int .u32 0, .int .u8 0, .int .u8 0, .int .u8 0, .int .u8 0, .int .u8 0, .int .u8 0, .int .u8 0, .int .u8 0, .int .u8 0, .int .u8 0, .int .u8 0, .int .u8 0, .int .u8 0, .int .u8 0, .int .u8 0, .int .u8 0, .int .u8 0, .int .u8 0, .int .u8 0, .int .u8 0, .int .u8 0, .int .u8 0, .int .u8 0, .int .u8 0, .int .u8 0, .int .u8 0, .int .u8 0, .int .u8 0, .int .u8 0, .int .u8 0, .int .u8 0, .int .u8 0, .int .u8 0, .int .u8 0, .int .u8 0, .int .u8 0, .int .u8 0, .int .u8 0, .int .u8 0, .int .u8 0, .int .u8 0, .int .u8 0, .int .u8 0, .int .u8 0, .int .u8 0, .int .u8 0, .int .u8 0, .int .u8 0, .int .u8 0, .int .u8 0, .int .u8 0, .int .u8 0, .int .u8 0, .int .u8 0, .int .u8 0, .int .u8 0, .int .u8 0, .int .u8 0, .int .u8 0, .int .u8 0, .int .u8 0, .int .u8 0, .int .u8 0, .int .u8 0, .int .i64 0] : Array Value) = (hashCells (List.replicate 8 0) (List.replicate 64 0) 0).toArray := by kernel_rfl
set_option maxRecDepth 100000 in
set_option maxHeartbeats 2000000 in
theorem hclone_any (hb : Nat) (S : List Nat) (P : List UInt8) (n : Int) (w : World) (h : HashAt w hb S P n) :
    Calls Tryz.prog 69 #[.pointer (some ⟨hb, 0, none⟩)] w fun e w' => e = .returned (.pointer (some ⟨w.heap.size, 0, none⟩)) ∧ HashAt w' w.heap.size S P n ∧ Below w.heap.size w w' := by
  obtain ⟨hz, hi⟩ := zero_of_info (P := Tryz.prog) hash_zero
  have hsz := hash_len S P n h.ls h.lp
  have HB := Lib.hid h.blk
  have HSI : Hid ((Tryz.prog.info? 80).map (·.size) = some (hashCells S P n).toArray.size) := Lib.hid (by rw [hsz]; exact hi)
  have HSZ : Hid ((#[.int .u32 0, .int .u32 0, .int .u32 0, .int .u32 0, .int .u32 0, .int .u32 0, .int .u32 0, .int .u32 0, .int .u8 0, .int .u8 0, .int .u8 0, .int .u8 0, .int .u8 0, .int .u8 0, .int .u8 0, .int .u8 0, .int .u8 0, .int .u8 0, .int .u8 0, .int .u8 0, .int .u8 0, .int .u8 0, .int .u8 0, .int .u8 0, .int .u8 0, .int .u8 0, .int .u8 0, .int .u8 0, .int .u8 0, .int .u8 0, .int .u8 0, .int .u8 0, .int .u8 0, .int .u8 0, .int .u8 0, .int .u8 0, .int .u8 0, .int .u8 0, .int .u8 0, .int .u8 0, .int .u8 0, .int .u8 0, .int .u8 0, .int .u8 0, .int .u8 0, .int .u8 0, .int .u8 0, .int .u8 0, .int .u8 0, .int .u8 0, .int .u8 0, .int .u8 0, .int .u8 0, .int .u8 0, .int .u8 0, .int .u8 0, .int .u8 0, .int .u8 0, .int .u8 0, .int .u8 0, .int .u8 0, .int .u8 0, .int .u8 0, .int .u8 0, .int .u8 0, .int .u8 0, .int .u8 0, .int .u8 0, .int .u8 0, .int .u8 0, .int .u8 0, .int .u8 0, .int .i64 0] : Array Value).size = (hashCells S P n).toArray.size) := Lib.hid (by rw [hsz]; rfl)
  have HO := Lib.hid (hash_one S P n)
  have HLS := Lib.hid h.ls
  have HLP := Lib.hid h.lp
  obtain ⟨cs, hcs⟩ : ∃ cs, cs = (hashCells S P n).toArray := ⟨_, rfl⟩
  rw [← hcs] at HB HSI HSZ HO
  have HCS := Lib.hid hcs
  clear h hi hsz hcs
  go_enter Tryz.func69, Tryz.ntmps69
  go_wp2_with (first | (refine wpList_load_row rfl 80 _ rfl hb rfl 80 _ (0, 0) _ HB.out Tryz.underlying80 rfl HSI.out ?_) | (refine wpList_store_row rfl 80 _ _ rfl w.heap.size _ rfl rfl 80 _ (heap_alloc_last w _) HSI.out HSZ.out HO.out ?_))
  rw [World.setRow_alloc_new]
  go_ret
  refine ⟨rfl, ⟨?_, HLS.out, HLP.out⟩, (Below.refl _ _).alloc (Nat.le_refl _) _⟩
  rw [← HCS.out]
  exact Blk.new w 80 cs


set_option maxRecDepth 100000 in
set_option maxHeartbeats 8000000 in
theorem hsum_any (hb : Nat) (s : V8) (P M : List UInt8) (w : World) (h : HashAt w hb s.l P (M.length : Int)) (hM : HashOf M s P) (hG : Globs w) (hl : M.length ≤ 288230376151711744) :
    Calls Tryz.prog 38 #[.pointer (some ⟨hb, 0, none⟩)] w fun e w' => e = .returned (.agg ((shaS M).map bv).toArray) ∧ Below w.heap.size w w' := by
  obtain ⟨R, hR⟩ : ∃ R, R = shaS M := ⟨_, rfl⟩
  rw [← hR]
  have HR := Lib.hid hR
  obtain ⟨db, hdb⟩ : ∃ db, db = w.heap.size := ⟨_, rfl⟩
  have x0 : Blk (w.alloc (.cells #[.int .u8 0, .int .u8 0, .int .u8 0, .int .u8 0, .int .u8 0, .int .u8 0, .int .u8 0, .int .u8 0, .int .u8 0, .int .u8 0, .int .u8 0, .int .u8 0, .int .u8 0, .int .u8 0, .int .u8 0, .int .u8 0, .int .u8 0, .int .u8 0, .int .u8 0, .int .u8 0, .int .u8 0, .int .u8 0, .int .u8 0, .int .u8 0, .int .u8 0, .int .u8 0, .int .u8 0, .int .u8 0, .int .u8 0, .int .u8 0, .int .u8 0, .int .u8 0] 37)) w.heap.size 37 (((List.replicate 32 (0 : UInt8)).map bv).toArray) := Blk.new w 37 #[.int .u8 0, .int .u8 0, .int .u8 0, .int .u8 0, .int .u8 0, .int .u8 0, .int .u8 0, .int .u8 0, .int .u8 0, .int .u8 0, .int .u8 0, .int .u8 0, .int .u8 0, .int .u8 0, .int .u8 0, .int .u8 0, .int .u8 0, .int .u8 0, .int .u8 0, .int .u8 0, .int .u8 0, .int .u8 0, .int .u8 0, .int .u8 0, .int .u8 0, .int .u8 0, .int .u8 0, .int .u8 0, .int .u8 0, .int .u8 0, .int .u8 0, .int .u8 0]
  have hw1 : Below w.heap.size w (w.alloc (.cells #[.int .u8 0, .int .u8 0, .int .u8 0, .int .u8 0, .int .u8 0, .int .u8 0, .int .u8 0, .int .u8 0, .int .u8 0, .int .u8 0, .int .u8 0, .int .u8 0, .int .u8 0, .int .u8 0, .int .u8 0, .int .u8 0, .int .u8 0, .int .u8 0, .int .u8 0, .int .u8 0, .int .u8 0, .int .u8 0, .int .u8 0, .int .u8 0, .int .u8 0, .int .u8 0, .int .u8 0, .int .u8 0, .int .u8 0, .int .u8 0, .int .u8 0, .int .u8 0] 37)) := (Below.refl _ _).alloc (Nat.le_refl _) _
  have HH := Lib.hid (h.below hw1)
  have HG1 := Lib.hid (hG.below hw1)
  have HM := Lib.hid hM
  have hgl := hG.lt
  rw [← hdb] at x0
  clear h hM hG hR
  go_enter Tryz.func38, Tryz.ntmps38
  go_upto_region 1 with (fail)
  rw [← hdb]
  generalize w.alloc (.cells #[.int .u8 0, .int .u8 0, .int .u8 0, .int .u8 0, .int .u8 0, .int .u8 0, .int .u8 0, .int .u8 0, .int .u8 0, .int .u8 0, .int .u8 0, .int .u8 0, .int .u8 0, .int .u8 0, .int .u8 0, .int .u8 0, .int .u8 0, .int .u8 0, .int .u8 0, .int .u8 0, .int .u8 0, .int .u8 0, .int .u8 0, .int .u8 0, .int .u8 0, .int .u8 0, .int .u8 0, .int .u8 0, .int .u8 0, .int .u8 0, .int .u8 0, .int .u8 0] 37) = w1 at *
  have hdl : db < w1.heap.size := x0.lt
  have hd2 : 2 ≤ db := by omega
  have hdw : w.heap.size ≤ db := by omega
  clear hdb
  go_wp2_with fail
  refine (hclone_any hb s.l P (M.length : Int) w1 HH.out).mono ?_
  rintro e w2 ⟨rfl, hc2, hb2⟩
  have hw2 := hw1.trans (hb2.mono hw1.size)
  obtain ⟨cb, hcb⟩ : ∃ cb, cb = w1.heap.size := ⟨_, rfl⟩
  rw [← hcb] at hc2 ⊢
  have hcd : db ≠ cb := by omega
  have hhc : hb ≠ cb := by have := HH.out.blk.lt; omega
  have hc2' : 2 ≤ cb := by omega
  have hcw : w.heap.size ≤ cb := by omega
  have HC2 := Lib.hid hc2
  have HH2 := Lib.hid (HH.out.below hb2)
  have HG2 := Lib.hid (HG1.out.below hb2)
  have x2 := x0.below hb2
  have hcbl := hc2.blk.lt
  have hs12 := hb2.size
  have hlong := HH2.out.long
  have hhl2 := HH2.out.blk.lt
  obtain ⟨m, hm⟩ : ∃ m, m = M.length := ⟨_, rfl⟩
  have HMM := Lib.hid hm
  rw [← hm] at hlong
  obtain ⟨z, hz⟩ : ∃ z, z = zerosN M.length := ⟨_, rfl⟩
  have HZ := Lib.hid hz
  have hzz : z = (119 - m % 64) % 64 := by rw [hz, hm]; rfl
  obtain ⟨q, hq⟩ : ∃ q, q = m % 64 := ⟨_, rfl⟩
  have e1 : (m : Int) % 64 = (q : Int) := by omega
  have e2 : IntKind.i64.wrap (119 - (q : Int)) = ((119 - q : Nat) : Int) := by rw [IntKind.wrap_i64]; omega
  obtain ⟨r, hr⟩ : ∃ r, r = 119 - q := ⟨_, rfl⟩
  rw [← hr] at e2
  have e3 : (r : Int) % 64 = (z : Int) := by omega
  have e4 : IntKind.i64.wrap (1 + (z : Int)) = ((z + 1 : Nat) : Int) := by rw [IntKind.wrap_i64]; omega
  obtain ⟨p, hp⟩ : ∃ p, p = z + 1 := ⟨_, rfl⟩
  rw [← hp] at e4
  have hz64 : z < 64 := by omega
  have hpp : p ≤ 64 := by omega
  have hp0 : 0 < p := by omega
  have HPZ := Lib.hid hp
  obtain ⟨m8, hm8⟩ : ∃ m8, m8 = 8 * m := ⟨_, rfl⟩
  have e5 : IntKind.i64.wrap (8 * (m : Int)) = (m8 : Int) := by rw [IntKind.wrap_i64]; omega
  have HM8 := Lib.hid hm8
  have hm8l : m8 < 9223372036854775808 := by omega
  clear hzz hr hq hp hz hm hm8 hcb x0 hc2 hb2 hw1
  go_upto_region 5 with (refine wpList_make_bytes rfl _ _ rfl (p : Int) (p : Int) p rfl rfl rfl rfl (by omega) (Nat.le_refl _) ?_; intro w3 ho3 hb3)
  have hw3 := hw2.trans (hb3.mono hw2.size)
  obtain ⟨pb, hpb⟩ : ∃ pb, pb = w2.heap.size := ⟨_, rfl⟩
  rw [← hpb] at ho3 ⊢
  obtain ⟨padL, hpad⟩ : ∃ padL, padL = (128 : UInt8) :: List.replicate z 0 := ⟨_, rfl⟩
  have hpl : padL.length = p := by rw [hpad, List.length_cons, List.length_replicate, HPZ.out]
  have hset : (List.replicate p (0 : UInt8)).set 0 128 = padL := by rw [hpad, HPZ.out]; rfl
  have ho3' : OwB w3 pb (.slice (some ⟨pb, 0, none⟩) (List.replicate p (0 : UInt8)).length p) (List.replicate p 0) := by rw [List.length_replicate]; exact ho3
  have hput := ho3'.put 0 128
  rw [hset, hpl] at hput
  obtain ⟨y, hcell⟩ : ∃ y : UInt8, w3.cell? ⟨pb, 0, none⟩ = some (.int .u8 (y.toNat : Int)) := ⟨_, ho3'.cellAt (by rw [List.length_replicate]; exact hp0)⟩
  have fz := ho3'.frozenAt 0
  have hcp : cb ≠ pb := by omega
  have hdp : db ≠ pb := by omega
  have hhp : hb ≠ pb := by omega
  have kf : Fr (fun x => x = pb) w3 (w3.setCell ⟨pb, 0, none⟩ (.int .u8 128)) := (Fr.refl (fun x => x = pb) w3).setAt pb 0 rfl _
  have HC4 := Lib.hid ((HC2.out.below hb3).fr kf hcp)
  have HH4 := Lib.hid ((HH2.out.below hb3).fr kf hhp)
  have hp2 : 2 ≤ pb := by omega
  have HG4 := Lib.hid ((HG2.out.below hb3).fr kf (by omega) (by omega))
  have x4 := (x2.below hb3).fr kf hdp
  have hw4 := hw3.trans (kf.below (B := w.heap.size) hw3.size (fun k hk e => by omega))
  have HP4 : Hid (OwB (w3.setCell ⟨pb, 0, none⟩ (.int .u8 128)) pb (.slice (some ⟨pb, 0, none⟩) p p) padL) := Lib.hid hput
  have HPAD := Lib.hid hpad
  have HPL := Lib.hid hpl
  clear hpad hpl hset ho3 ho3' hput kf hb3 hpb HC2 HH2 HG2 x2 hlong
  go_upto_region 6 with (fail)
  generalize w3.setCell ⟨pb, 0, none⟩ (.int .u8 128) = w4 at *
  clear hcell fz
  have HW := write_any cb s P M (some ⟨pb, 0, none⟩) p padL _ w4 HC4.out HM.out HG4.out ⟨by
    have := HP4.out
    rw [← HPL.out] at this
    exact this.rd, by show padL.length ≤ p; rw [HPL.out]; exact Nat.le_refl _, by show p ≤ maxLen; simp only [maxLen]; omega⟩ (fun x hx e => hcp (e.symm.trans (by simpa [ablk] using hx.symm))) hc2' (by rw [HPL.out]; omega)
  rw [HPL.out] at HW
  replace HW := Lib.hid HW
  go_wp2_with fail
  refine HW.out.mono ?_
  rintro e w5 ⟨rfl, ⟨s1, P1, hc5, hm5⟩, hf5⟩
  have hw5 := hw4.trans (hf5.below (B := w.heap.size) hw4.size (fun k hk e => by omega))
  have HH5 := HH4.out.fr hf5 hhc
  have HG5 := Lib.hid (HG4.out.fr hf5 (by omega) (by omega))
  have x5 := x4.fr hf5 hcd
  have hlong := HH5.long
  rw [← HMM.out] at hlong
  have hhl := HH5.blk.lt
  have HC5 := Lib.hid hc5
  have HM5 := Lib.hid hm5
  have hdl5 := x5.lt
  clear HW HC4 HG4 x4 hf5 hc5 hm5 HP4
  go_wp2_with fail
  refine (eight_any m8 hm8l w5).mono ?_
  rintro e w6 ⟨A6, l6, rfl, hl6, ho6, hb6⟩
  have hl6l : l6.length = 8 := by rw [hl6.out]; exact eightB_len _
  have hw6 := hw5.trans (hb6.mono hw5.size)
  have hc5l := HC5.out.blk.lt
  have HW := write_any cb s1 P1 (M ++ padL) A6 8 l6 _ w6 (by
    have := HC5.out.below hb6
    rw [List.length_append, HPL.out]
    exact this) HM5.out (HG5.out.below hb6) ⟨by
    have h1 : OwB w6 w5.heap.size (.slice A6 l6.length 8) l6 := by rw [hl6l]; exact ho6
    exact h1.rd, by show l6.length ≤ 8; omega, by show 8 ≤ maxLen; simp [maxLen]⟩ (fun x hx e => by
      have h1 : OwB w6 w5.heap.size (.slice A6 l6.length 8) l6 := by rw [hl6l]; exact ho6
      have := ((Row.of_own h1).lt x hx).1
      omega) hc2' (by rw [List.length_append, HPL.out, hl6l]; omega)
  rw [hl6l] at HW
  replace HW := Lib.hid HW
  have x6 := x5.below hb6
  have HG6 := Lib.hid (HG5.out.below hb6)
  have HL6 := Lib.hid (show M ++ padL ++ l6 = padS M by
    rw [hl6.out, HPAD.out, HM8.out, HMM.out, HZ.out]
    unfold padS
    simp)
  clear HC5 HM5 HG5 x5 hlong hb6 ho6 hl6l hl6
  go_wp2_with fail
  refine HW.out.mono ?_
  rintro e w7 ⟨rfl, ⟨s2, P2, hc7, hm7⟩, hf7⟩
  rw [HL6.out] at hm7
  have hw7 := hw6.trans (hf7.below (B := w.heap.size) hw6.size (fun k hk e => by omega))
  have x7 := x6.fr hf7 hcd
  have HG7 := Lib.hid (HG6.out.fr hf7 (by omega) (by omega))
  obtain ⟨X, hX⟩ : ∃ X, X = add8 s2 first8 := ⟨_, rfl⟩
  have HX := Lib.hid hX
  have hRX : R = digestS X := by rw [HR.out, hX, hm7.whole]
  have HRX := Lib.hid hRX
  have hix := fun (i : Nat) (hi : i < 8) (W : World) => index8 s2 i hi W
  have HIX := Lib.hid hix
  have c0 : w7.cell? ⟨cb, 0, none⟩ = some (.int .u32 (s2.a : Int)) := hc7.st (i := 0) (by omega)
  have c1 : w7.cell? ⟨cb, 1, none⟩ = some (.int .u32 (s2.b : Int)) := hc7.st (i := 1) (by omega)
  have c2 : w7.cell? ⟨cb, 2, none⟩ = some (.int .u32 (s2.c : Int)) := hc7.st (i := 2) (by omega)
  have c3 : w7.cell? ⟨cb, 3, none⟩ = some (.int .u32 (s2.d : Int)) := hc7.st (i := 3) (by omega)
  have c4 : w7.cell? ⟨cb, 4, none⟩ = some (.int .u32 (s2.e : Int)) := hc7.st (i := 4) (by omega)
  have c5 : w7.cell? ⟨cb, 5, none⟩ = some (.int .u32 (s2.f : Int)) := hc7.st (i := 5) (by omega)
  have c6 : w7.cell? ⟨cb, 6, none⟩ = some (.int .u32 (s2.g : Int)) := hc7.st (i := 6) (by omega)
  have c7 : w7.cell? ⟨cb, 7, none⟩ = some (.int .u32 (s2.h : Int)) := hc7.st (i := 7) (by omega)
  have hcl7 := hc7.blk.lt
  have hRl : R.length = 32 := by rw [hRX]; exact digest_len X
  have HRL := Lib.hid hRl
  clear HW HG6 x6 hf7 hX hRX hix hm7 hRl HL6
  go_wp2_with fail
  clear c0 c1 c2 c3 c4 c5 c6 c7 hc7
  go_loopw [39] (fun iv wr => ∃ (i : Nat) (D : List UInt8), i ≤ 8 ∧ iv = .int .i64 (i : Int) ∧ Blk wr db 37 (D.map bv).toArray ∧ D.length = 32 ∧ Hid (D.take (4 * i) = R.take (4 * i)) ∧ Fr (fun x => x = db) w7 wr) (fun iv _ => 8 - (intOf iv).toNat)
  case atStart => exact ⟨0, List.replicate 32 0, Nat.zero_le _, rfl, x7, rfl, Lib.hid rfl, Fr.refl _ _⟩
  case round =>
    obtain ⟨i, D, hi, rfl, hB, hD, hT, hf⟩ := hrel
    have HGr := Lib.hid (HG7.out.fr hf (by omega) (by omega))
    by_cases hlt : i < 8
    · have hlti : (i : Int) < 8 := by omega
      have hgl7 := HGr.out.lt
      have hg0 := HGr.out.f i hlt
      obtain ⟨p1, hp1⟩ : ∃ p, p = s2.l.getD i 0 := ⟨_, rfl⟩
      obtain ⟨p2, hp2⟩ : ∃ p, p = first8.l.getD i 0 := ⟨_, rfl⟩
      obtain ⟨p3, hp3⟩ : ∃ p, p = X.l.getD i 0 := ⟨_, rfl⟩
      have hadd : IntKind.u32.wrap ((p1 : Int) + (p2 : Int)) = (p3 : Int) := by rw [add_u32, hp1, hp2, hp3, HX.out, add8_get s2 first8 hlt]
      have hxi := fun W => HIX.out i hlt W
      rw [← hp1] at hxi
      rw [← hp2] at hg0
      unfold u32v at hxi
      have HP3 : Hid (p3 = X.l.getD i 0) := Lib.hid hp3
      obtain ⟨q4, hq4⟩ : ∃ q, q = 4 * i := ⟨_, rfl⟩
      have hw4 : IntKind.i64.wrap (4 * (i : Int)) = (q4 : Int) := by rw [IntKind.wrap_i64]; omega
      rw [← hq4] at hT
      have HQ4 := Lib.hid hq4
      have hq28 : q4 ≤ 28 := by omega
      have HB := Lib.hid hB
      have HDL := Lib.hid hD
      have HF := Lib.hid hf
      clear hp1 hp2 hp3 hq4 hB hD hf
      go_wp2_with fail
      rename World => wo
      clear hg0 hxi
      go_loopw [48] (fun kv wr => ∃ (k : Nat) (D : List UInt8), k ≤ 4 ∧ kv = .int .i64 (k : Int) ∧ Blk wr db 37 (D.map bv).toArray ∧ D.length = 32 ∧ Hid (D.take (q4 + k) = R.take (q4 + k)) ∧ Fr (fun x => x = db) w7 wr) (fun kv _ => 4 - (intOf kv).toNat)
      case atStart => exact ⟨0, D, Nat.zero_le _, rfl, HB.out, HDL.out, hT, HF.out⟩
      case round =>
        obtain ⟨k, D, hk, rfl, hB, hD, hT, hf⟩ := hrel
        by_cases hk4 : k < 4
        · have hk4i : (k : Int) < 4 := by omega
          obtain ⟨j, hj⟩ : ∃ j, j = q4 + k := ⟨_, rfl⟩
          have w1' : IntKind.i64.wrap ((q4 : Int) + (k : Int)) = (j : Int) := by rw [IntKind.wrap_i64]; omega
          obtain ⟨k8, hk8⟩ : ∃ x, x = 8 * k := ⟨_, rfl⟩
          have w2' : IntKind.i64.wrap (8 * (k : Int)) = (k8 : Int) := by rw [IntKind.wrap_i64]; omega
          obtain ⟨sh, hsh⟩ : ∃ x, x = 24 - k8 := ⟨_, rfl⟩
          have w3' : IntKind.i64.wrap (24 - (k8 : Int)) = (sh : Int) := by rw [IntKind.wrap_i64]; omega
          obtain ⟨v, hv⟩ : ∃ v, v = p3 / 2 ^ sh := ⟨_, rfl⟩
          have w4' : (p3 : Int) / 2 ^ min sh 32 = (v : Int) := by rw [show min sh 32 = sh by omega, hv]; simp
          have w4'' : (p3 : Int) / 2 ^ sh = (v : Int) := by rw [hv]; simp
          obtain ⟨x, hx⟩ : ∃ x, x = UInt8.ofNat v := ⟨_, rfl⟩
          have w5' : IntKind.u8.wrap (v : Int) = (x.toNat : Int) := by rw [u8_wrap, hx]
          have hs0 : ¬ (sh : Int) < 0 := by omega
          have hj32 : j < 32 := by omega
          have hj32i : (j : Int) < 32 := by omega
          have hxg : x = R.getD j 0 := by
            rw [HRX.out, hj, HQ4.out, digest_get X hlt hk4, ← HP3.out, hx, hv, hsh, hk8]
          have HTT : Hid ((D.set j x).take (q4 + (k + 1)) = R.take (q4 + (k + 1))) := Lib.hid (by
            rw [← hj] at hT
            rw [show q4 + (k + 1) = j + 1 by omega, hxg]
            exact take_stepB hT.out (by omega) (by rw [HRL.out]; exact hj32))
          have hcl : wr.cell? ⟨db, j, none⟩ = some (bv (D[j]'(by omega))) := by
            rw [hB.cell, List.getElem?_toArray, List.getElem?_map, List.getElem?_eq_getElem (by omega)]
            rfl
          obtain ⟨y, hcell⟩ : ∃ y : UInt8, wr.cell? ⟨db, j, none⟩ = some (.int .u8 (y.toNat : Int)) := ⟨_, hcl⟩
          have fz := hB.frozen j
          have hst := hB.set_ j (bv x)
          rw [List.setIfInBounds_toArray, ← List.map_set] at hst
          have HST : Hid (Blk (wr.setCell ⟨db, j, none⟩ (.int .u8 (x.toNat : Int))) db 37 ((D.set j x).map bv).toArray) := Lib.hid hst
          have HDS : Hid ((D.set j x).length = 32) := Lib.hid (by rw [List.length_set, hD])
          have hf2 := hf.trans ((Fr.refl (fun x => x = db) wr).setAt db j rfl (.int .u8 (x.toNat : Int))) (fun _ _ e => e)
          have hsb : sh < 32 := by omega
          clear hcl hj hk8 hsh hv hx hxg hst hB hD hT hf
          go_wp2_with fail
          go_roundw
          case rel => exact ⟨k + 1, D.set j x, hk4, by go_num, HST.out, HDS.out, HTT, hf2⟩
          case measure => simp [intOf]; omega
        · have hk4e : k = 4 := by omega
          have HT4 : Hid (D.take (4 * (i + 1)) = R.take (4 * (i + 1))) := Lib.hid (by
            have := hT.out
            rw [hk4e, HQ4.out] at this
            rw [show 4 * (i + 1) = 4 * i + 4 by omega]
            exact this)
          clear hT hk4e hk
          go_wp2_with fail
          go_roundw
          case rel => exact ⟨i + 1, D, hlt, by go_num, hB, hD, HT4, hf⟩
          case measure => simp [intOf]; omega
    · have h8 : i = 8 := by omega
      have hDR : D = R := by
        have := hT.out
        rw [h8, List.take_of_length_le (by omega), List.take_of_length_le (by rw [HRL.out]; exact Nat.le_refl _)] at this
        exact this
      subst hDR
      have hsz : (D.map bv).toArray.size = 32 := by simp [hD]
      have HSI : Hid ((Tryz.prog.info? 37).map (·.size) = some (D.map bv).toArray.size) := Lib.hid (by rw [hsz]; kernel_rfl)
      have HO : Hid (((D.map bv).toArray).all (·.oneCell') = true) := Lib.hid (by
        rw [List.all_toArray, List.all_eq_true]
        exact fun u hu => bv_one D u hu)
      have hwE := hw7.trans ((hf.setRow db rfl (D.map bv).toArray).below (B := w.heap.size) hw7.size (fun k hk e => by omega))
      clear hT h8 hsz hi
      go_wp2_with (first | (refine wpList_load_row rfl 37 _ rfl db rfl 37 _ (0, 0) _ hB Tryz.underlying37 rfl HSI.out ?_) | (refine wpList_store_row rfl 37 _ _ rfl db _ rfl rfl 37 _ hB HSI.out rfl HO.out ?_))
      refine bodyPost_ret (results_cell_row Tryz.results38 _ _ db 37 _ (0, 0) _ rfl (hB.setRow _) Tryz.underlying37 rfl HSI.out) rfl ?_
      exact ⟨rfl, hwE⟩

end Go.Proofs.YtjcfphdjgagimaaGreatDoor

/- tenderref05: Consts, Sum, Parts. -/
namespace Go.Proofs.YtjcfphdjgagimaaGreatDoor
open Go.RowKit

def lenV : Value → Nat | .slice _ n _ => n | _ => 0

theorem first_arr : (#[.int .u32 1779033703, .int .u32 3144134277, .int .u32 1013904242, .int .u32 2773480762, .int .u32 1359893119, .int .u32 2600822924, .int .u32 528734635, .int .u32 1541459225] : Array Value) = (first8.l.map u32v).toArray := by kernel_rfl
theorem roots_arr : (#[.int .u32 1116352408, .int .u32 1899447441, .int .u32 3049323471, .int .u32 3921009573, .int .u32 961987163, .int .u32 1508970993, .int .u32 2453635748, .int .u32 2870763221, .int .u32 3624381080, .int .u32 310598401, .int .u32 607225278, .int .u32 1426881987, .int .u32 1925078388, .int .u32 2162078206, .int .u32 2614888103, .int .u32 3248222580, .int .u32 3835390401, .int .u32 4022224774, .int .u32 264347078, .int .u32 604807628, .int .u32 770255983, .int .u32 1249150122, .int .u32 1555081692, .int .u32 1996064986, .int .u32 2554220882, .int .u32 2821834349, .int .u32 2952996808, .int .u32 3210313671, .int .u32 3336571891, .int .u32 3584528711, .int .u32 113926993, .int .u32 338241895, .int .u32 666307205, .int .u32 773529912, .int .u32 1294757372, .int .u32 1396182291, .int .u32 1695183700, .int .u32 1986661051, .int .u32 2177026350, .int .u32 2456956037, .int .u32 2730485921, .int .u32 2820302411, .int .u32 3259730800, .int .u32 3345764771, .int .u32 3516065817, .int .u32 3600352804, .int .u32 4094571909, .int .u32 275423344, .int .u32 430227734, .int .u32 506948616, .int .u32 659060556, .int .u32 883997877, .int .u32 958139571, .int .u32 1322822218, .int .u32 1537002063, .int .u32 1747873779, .int .u32 1955562222, .int .u32 2024104815, .int .u32 2227730452, .int .u32 2361852424, .int .u32 2428436474, .int .u32 2756734187, .int .u32 3204031479, .int .u32 3329325298] : Array Value) = (rootsK.map u32v).toArray := by kernel_rfl
set_option maxRecDepth 100000 in
set_option maxHeartbeats 2000000 in
theorem consts_any (w : World) : Calls Tryz.prog 76 #[] w fun e w' => ∃ A1 A2, e = .returned (.tuple #[.slice A1 8 8, .slice A2 64 64]) ∧ Rd w' (fun b => w.heap.size ≤ b) 1 A1 first8.l.length (first8.l.map u32v) ∧ Rd w' (fun b => w.heap.size ≤ b) 1 A2 rootsK.length (rootsK.map u32v) ∧ Below w.heap.size w w' := by
  have hR1 : Rd (w.alloc (.cells #[.int .u32 1779033703, .int .u32 3144134277, .int .u32 1013904242, .int .u32 2773480762, .int .u32 1359893119, .int .u32 2600822924, .int .u32 528734635, .int .u32 1541459225] 76)) (fun b => w.heap.size ≤ b) 1 (some ⟨w.heap.size, 0, none⟩) first8.l.length (first8.l.map u32v) := by
    rw [first_arr]
    exact Rd.lit (w := w) (t := 76) (size := 1) (n := 8) (xs := first8.l.map u32v) rfl rfl rfl
  have hb1 : Below w.heap.size w (w.alloc (.cells #[.int .u32 1779033703, .int .u32 3144134277, .int .u32 1013904242, .int .u32 2773480762, .int .u32 1359893119, .int .u32 2600822924, .int .u32 528734635, .int .u32 1541459225] 76)) := (Below.refl _ _).alloc (Nat.le_refl _) _
  have hz1 : (w.alloc (.cells #[.int .u32 1779033703, .int .u32 3144134277, .int .u32 1013904242, .int .u32 2773480762, .int .u32 1359893119, .int .u32 2600822924, .int .u32 528734635, .int .u32 1541459225] 76)).heap.size = w.heap.size + 1 := by simp
  have HR1 := Lib.hid hR1
  clear hR1
  go_enter Tryz.func76, Tryz.ntmps76
  go_upto_region 2 with (fail)
  generalize w.alloc (.cells #[.int .u32 1779033703, .int .u32 3144134277, .int .u32 1013904242, .int .u32 2773480762, .int .u32 1359893119, .int .u32 2600822924, .int .u32 528734635, .int .u32 1541459225] 76) = w1 at *
  have hR2 : Rd (w1.alloc (.cells #[.int .u32 1116352408, .int .u32 1899447441, .int .u32 3049323471, .int .u32 3921009573, .int .u32 961987163, .int .u32 1508970993, .int .u32 2453635748, .int .u32 2870763221, .int .u32 3624381080, .int .u32 310598401, .int .u32 607225278, .int .u32 1426881987, .int .u32 1925078388, .int .u32 2162078206, .int .u32 2614888103, .int .u32 3248222580, .int .u32 3835390401, .int .u32 4022224774, .int .u32 264347078, .int .u32 604807628, .int .u32 770255983, .int .u32 1249150122, .int .u32 1555081692, .int .u32 1996064986, .int .u32 2554220882, .int .u32 2821834349, .int .u32 2952996808, .int .u32 3210313671, .int .u32 3336571891, .int .u32 3584528711, .int .u32 113926993, .int .u32 338241895, .int .u32 666307205, .int .u32 773529912, .int .u32 1294757372, .int .u32 1396182291, .int .u32 1695183700, .int .u32 1986661051, .int .u32 2177026350, .int .u32 2456956037, .int .u32 2730485921, .int .u32 2820302411, .int .u32 3259730800, .int .u32 3345764771, .int .u32 3516065817, .int .u32 3600352804, .int .u32 4094571909, .int .u32 275423344, .int .u32 430227734, .int .u32 506948616, .int .u32 659060556, .int .u32 883997877, .int .u32 958139571, .int .u32 1322822218, .int .u32 1537002063, .int .u32 1747873779, .int .u32 1955562222, .int .u32 2024104815, .int .u32 2227730452, .int .u32 2361852424, .int .u32 2428436474, .int .u32 2756734187, .int .u32 3204031479, .int .u32 3329325298] 76)) (fun b => w1.heap.size ≤ b) 1 (some ⟨w1.heap.size, 0, none⟩) rootsK.length (rootsK.map u32v) := by
    rw [roots_arr]
    exact Rd.lit (w := w1) (t := 76) (size := 1) (n := 64) (xs := rootsK.map u32v) rfl rfl rfl
  have hb2 : Below w1.heap.size w1 (w1.alloc (.cells #[.int .u32 1116352408, .int .u32 1899447441, .int .u32 3049323471, .int .u32 3921009573, .int .u32 961987163, .int .u32 1508970993, .int .u32 2453635748, .int .u32 2870763221, .int .u32 3624381080, .int .u32 310598401, .int .u32 607225278, .int .u32 1426881987, .int .u32 1925078388, .int .u32 2162078206, .int .u32 2614888103, .int .u32 3248222580, .int .u32 3835390401, .int .u32 4022224774, .int .u32 264347078, .int .u32 604807628, .int .u32 770255983, .int .u32 1249150122, .int .u32 1555081692, .int .u32 1996064986, .int .u32 2554220882, .int .u32 2821834349, .int .u32 2952996808, .int .u32 3210313671, .int .u32 3336571891, .int .u32 3584528711, .int .u32 113926993, .int .u32 338241895, .int .u32 666307205, .int .u32 773529912, .int .u32 1294757372, .int .u32 1396182291, .int .u32 1695183700, .int .u32 1986661051, .int .u32 2177026350, .int .u32 2456956037, .int .u32 2730485921, .int .u32 2820302411, .int .u32 3259730800, .int .u32 3345764771, .int .u32 3516065817, .int .u32 3600352804, .int .u32 4094571909, .int .u32 275423344, .int .u32 430227734, .int .u32 506948616, .int .u32 659060556, .int .u32 883997877, .int .u32 958139571, .int .u32 1322822218, .int .u32 1537002063, .int .u32 1747873779, .int .u32 1955562222, .int .u32 2024104815, .int .u32 2227730452, .int .u32 2361852424, .int .u32 2428436474, .int .u32 2756734187, .int .u32 3204031479, .int .u32 3329325298] 76)) := (Below.refl _ _).alloc (Nat.le_refl _) _
  have HR2 := Lib.hid (hR2.mono (Z' := fun b => w.heap.size ≤ b) (fun b _ hb => Nat.le_trans hb1.size hb))
  have HR1' := Lib.hid (HR1.out.below hb2)
  have hw2 := hb1.trans (hb2.mono hb1.size)
  clear hR2 HR1 hb2 hz1
  go_upto_region 3 with (fail)
  generalize w1.alloc (.cells #[.int .u32 1116352408, .int .u32 1899447441, .int .u32 3049323471, .int .u32 3921009573, .int .u32 961987163, .int .u32 1508970993, .int .u32 2453635748, .int .u32 2870763221, .int .u32 3624381080, .int .u32 310598401, .int .u32 607225278, .int .u32 1426881987, .int .u32 1925078388, .int .u32 2162078206, .int .u32 2614888103, .int .u32 3248222580, .int .u32 3835390401, .int .u32 4022224774, .int .u32 264347078, .int .u32 604807628, .int .u32 770255983, .int .u32 1249150122, .int .u32 1555081692, .int .u32 1996064986, .int .u32 2554220882, .int .u32 2821834349, .int .u32 2952996808, .int .u32 3210313671, .int .u32 3336571891, .int .u32 3584528711, .int .u32 113926993, .int .u32 338241895, .int .u32 666307205, .int .u32 773529912, .int .u32 1294757372, .int .u32 1396182291, .int .u32 1695183700, .int .u32 1986661051, .int .u32 2177026350, .int .u32 2456956037, .int .u32 2730485921, .int .u32 2820302411, .int .u32 3259730800, .int .u32 3345764771, .int .u32 3516065817, .int .u32 3600352804, .int .u32 4094571909, .int .u32 275423344, .int .u32 430227734, .int .u32 506948616, .int .u32 659060556, .int .u32 883997877, .int .u32 958139571, .int .u32 1322822218, .int .u32 1537002063, .int .u32 1747873779, .int .u32 1955562222, .int .u32 2024104815, .int .u32 2227730452, .int .u32 2361852424, .int .u32 2428436474, .int .u32 2756734187, .int .u32 3204031479, .int .u32 3329325298] 76) = w2 at *
  go_wp2_with fail
  refine bodyPost_ret (v := .tuple #[.slice (some ⟨w.heap.size, 0, none⟩) 8 8, .slice (some ⟨w1.heap.size, 0, none⟩) 64 64]) (by simp [results, Tryz.results76, go_sem]) rfl ?_
  exact ⟨_, _, rfl, HR1'.out, HR2.out, hw2⟩

end Go.Proofs.YtjcfphdjgagimaaGreatDoor

/- tenderref05.Sum. -/
namespace Go.Proofs.YtjcfphdjgagimaaGreatDoor
open Go.RowKit

theorem zeros_pad (b : List UInt8) : b ++ [128] ++ List.replicate (zerosN b.length) 0 ++ eightB (8 * b.length) = padS b := rfl
theorem blocksN_snoc (n : Nat) (v : V8) (l : List UInt8) (h : 64 * n + 64 ≤ l.length) : compress (blocksN n v (l.take (64 * n))) ((l.drop (64 * n)).take 64) = blocksN (n + 1) v (l.take (64 * (n + 1))) := by
  have e : l.take (64 * (n + 1)) = l.take (64 * n) ++ (l.drop (64 * n)).take 64 := by
    rw [show 64 * (n + 1) = 64 * n + 64 by omega, List.take_add]
  rw [e, blocksN_append n 1 v _ _ (by rw [List.length_take]; omega)]
  show _ = compress _ (((l.drop (64 * n)).take 64).take 64)
  rw [List.take_take, Nat.min_self]
theorem By.part {w : World} {Z : Nat → Prop} {g o : Nat} {M : List UInt8} (h : By w Z (some ⟨g, o, none⟩) M) {p n : Nat} (hp : p + n ≤ M.length) : By w Z (some ⟨g, o + p, none⟩) ((M.drop p).take n) := by
  have hl : ((M.drop p).take n).length = n := by rw [List.length_take, List.length_drop]; omega
  refine ⟨by simp, fun hn => ?_⟩
  obtain ⟨b, off, e, hz, hlt, hc⟩ := h.2 (by omega)
  injection e with e
  injection e with e1 e2
  subst e1 e2
  refine ⟨_, _, rfl, hz, hlt, fun j u hu => ?_⟩
  rw [Nat.add_assoc]
  refine hc (p + j) u ?_
  have hj : j < n := by
    have := (List.getElem?_eq_some_iff.1 hu).1
    rw [List.length_map, hl] at this
    exact this
  rw [List.getElem?_map, List.getElem?_take, if_pos hj, List.getElem?_drop] at hu
  rw [List.getElem?_map]
  exact hu
set_option maxRecDepth 100000 in
set_option maxHeartbeats 4000000 in
theorem sumR_any (A : Option Addr) (c : Nat) (b : List UInt8) (Z : Nat → Prop) (w : World) (hy : By w Z A b) (hl : b.length ≤ 1099511627776) :
    Calls Tryz.prog 46 #[.slice A b.length c] w fun e w' => e = .returned (.agg ((shaS b).map bv).toArray) ∧ Below w.heap.size w w' := by
  have x0 : Blk (w.alloc (.cells #[.int .u8 0, .int .u8 0, .int .u8 0, .int .u8 0, .int .u8 0, .int .u8 0, .int .u8 0, .int .u8 0, .int .u8 0, .int .u8 0, .int .u8 0, .int .u8 0, .int .u8 0, .int .u8 0, .int .u8 0, .int .u8 0, .int .u8 0, .int .u8 0, .int .u8 0, .int .u8 0, .int .u8 0, .int .u8 0, .int .u8 0, .int .u8 0, .int .u8 0, .int .u8 0, .int .u8 0, .int .u8 0, .int .u8 0, .int .u8 0, .int .u8 0, .int .u8 0] 36)) w.heap.size 36 (((List.replicate 32 (0 : UInt8)).map bv).toArray) := Blk.new w 36 #[.int .u8 0, .int .u8 0, .int .u8 0, .int .u8 0, .int .u8 0, .int .u8 0, .int .u8 0, .int .u8 0, .int .u8 0, .int .u8 0, .int .u8 0, .int .u8 0, .int .u8 0, .int .u8 0, .int .u8 0, .int .u8 0, .int .u8 0, .int .u8 0, .int .u8 0, .int .u8 0, .int .u8 0, .int .u8 0, .int .u8 0, .int .u8 0, .int .u8 0, .int .u8 0, .int .u8 0, .int .u8 0, .int .u8 0, .int .u8 0, .int .u8 0, .int .u8 0]
  have hw1 : Below w.heap.size w (w.alloc (.cells #[.int .u8 0, .int .u8 0, .int .u8 0, .int .u8 0, .int .u8 0, .int .u8 0, .int .u8 0, .int .u8 0, .int .u8 0, .int .u8 0, .int .u8 0, .int .u8 0, .int .u8 0, .int .u8 0, .int .u8 0, .int .u8 0, .int .u8 0, .int .u8 0, .int .u8 0, .int .u8 0, .int .u8 0, .int .u8 0, .int .u8 0, .int .u8 0, .int .u8 0, .int .u8 0, .int .u8 0, .int .u8 0, .int .u8 0, .int .u8 0, .int .u8 0, .int .u8 0] 36)) := (Below.refl _ _).alloc (Nat.le_refl _) _
  have HY := Lib.hid ((hy.mono (Z' := fun x => x < w.heap.size) (fun x hx _ => hx)))
  have hz1 : (w.alloc (.cells #[.int .u8 0, .int .u8 0, .int .u8 0, .int .u8 0, .int .u8 0, .int .u8 0, .int .u8 0, .int .u8 0, .int .u8 0, .int .u8 0, .int .u8 0, .int .u8 0, .int .u8 0, .int .u8 0, .int .u8 0, .int .u8 0, .int .u8 0, .int .u8 0, .int .u8 0, .int .u8 0, .int .u8 0, .int .u8 0, .int .u8 0, .int .u8 0, .int .u8 0, .int .u8 0, .int .u8 0, .int .u8 0, .int .u8 0, .int .u8 0, .int .u8 0, .int .u8 0] 36)).heap.size = w.heap.size + 1 := by simp
  clear hy
  obtain ⟨R, hR⟩ : ∃ R, R = shaS b := ⟨_, rfl⟩
  rw [← hR]
  have HR := Lib.hid hR
  clear hR
  go_enter Tryz.func46, Tryz.ntmps46
  go_upto_region 1 with (fail)
  generalize (w.alloc (.cells #[.int .u8 0, .int .u8 0, .int .u8 0, .int .u8 0, .int .u8 0, .int .u8 0, .int .u8 0, .int .u8 0, .int .u8 0, .int .u8 0, .int .u8 0, .int .u8 0, .int .u8 0, .int .u8 0, .int .u8 0, .int .u8 0, .int .u8 0, .int .u8 0, .int .u8 0, .int .u8 0, .int .u8 0, .int .u8 0, .int .u8 0, .int .u8 0, .int .u8 0, .int .u8 0, .int .u8 0, .int .u8 0, .int .u8 0, .int .u8 0, .int .u8 0, .int .u8 0] 36)) = w1 at *
  go_wp2_with fail
  refine (consts_any w1).mono ?_
  rintro e w2 ⟨A1, A2, rfl, hr1, hr2, hb2⟩
  have hw2 := hw1.trans (hb2.mono hw1.size)
  have X2 := Lib.hid (x0.below hb2)
  have hz2 := hb2.size
  have HR1 := Lib.hid hr1
  have HR2 := Lib.hid hr2
  have hol := OwB.lit0 w2 (base := w2.heap.size) (Nat.le_refl _)
  have hba : Below w2.heap.size w2 (w2.alloc (.cells #[] 5)) := (Below.refl _ _).alloc (Nat.le_refl _) _
  have hy2 := HY.out.below (hw2.trans (hba.mono hw2.size))
  have hs2 := hba.size
  clear x0 hr1 hr2 hb2
  have harm : ∀ (A6 : Option Addr) (c6 : Nat) (L6 : List UInt8) (w6 : World), OwB w6 w2.heap.size (.slice A6 L6.length c6) L6 → OwB (w6.alloc (.cells #[.int .u8 128] 5)) w2.heap.size (.slice A6 L6.length c6) L6 := fun A6 c6 L6 w6 h => h.alloc _
  have hlit : ∀ w6 : World, By (w6.alloc (.cells #[.int .u8 128] 5)) (fun b => w6.heap.size ≤ b) (some ⟨w6.heap.size, 0, none⟩) [128] := fun w6 => Rd.lit (w := w6) (t := 5) (size := 1) (n := 1) (xs := [.int .u8 128]) rfl rfl rfl
  go_wp2_with (first
    | (at_builtin; refine wpList_append_by rfl (.tmp 15) (.tmp 16) rfl (v := .slice (some ⟨w2.heap.size, 0, none⟩) 0 0) rfl hol rfl hy2 (by simp; omega) hs2 ?_; intro L6 A6 c6 w6 hL6 hown6 hg6 _; rw [List.nil_append] at hL6; have hb6 : Below w2.heap.size w2 w6 := hba.trans (grown_below hg6 hs2 (fun g e => (hol.lt g e).1)); have hs6 : w2.heap.size ≤ (w6.alloc (.cells #[.int .u8 128] 5)).heap.size := Nat.le_trans hb6.size (by simp); have hL6l : L6.length ≤ 1099511627776 := (by rw [hL6.out]; exact hl); have hoa6 := harm A6 c6 L6 w6 hown6; have hba6 : Below w6.heap.size w6 (w6.alloc (.cells #[.int .u8 128] 5)) := (Below.refl _ _).alloc (Nat.le_refl _) _)
    | (at_builtin; refine wpList_append_by rfl (.tmp 17) (.tmp 18) rfl (v := .slice A6 L6.length c6) rfl hoa6 rfl (hlit w6) (by simp only [List.length_singleton]; omega) hs6 ?_; intro L7 A7 c7 w7 hL7 hown7 hg7 _; have hb7 : Below w2.heap.size w2 w7 := (hb6.trans (hba6.mono hb6.size)).trans (grown_below hg7 hs6 (fun g e => (hoa6.lt g e).1))))
  have HL7 : Hid (L7 = b ++ [128] ++ List.replicate 0 0) := Lib.hid (by rw [hL7.out, hL6.out]; simp)
  have HO7 := Lib.hid hown7
  have HB7 := Lib.hid hb7
  clear hol hba hy2 hs2 harm hlit hown7 hg7 hL7 hL6 hown6 hg6 hb6 hs6 hL6l hoa6 hba6 hb7
  obtain ⟨zn, hzn⟩ : ∃ zn, zn = zerosN b.length := ⟨_, rfl⟩
  have hze := zeros_end b.length
  have hzs := @zeros_step b.length
  rw [← hzn] at hze hzs
  have HZN := Lib.hid hzn
  have hznl : zn < 64 := by rw [hzn]; unfold zerosN; omega
  clear hzn
  go_loopw [5] (fun mv wr => ∃ (k : Nat) (L : List UInt8) (A : Option Addr) (c : Nat), k ≤ zn ∧ mv = .slice A L.length c ∧ OwB wr w2.heap.size (.slice A L.length c) L ∧ Hid (L = b ++ [128] ++ List.replicate k 0) ∧ Below w2.heap.size w2 wr) (fun mv _ => zn + b.length + 1 - lenV mv)
  case atStart => exact ⟨0, L7, A7, c7, Nat.zero_le _, rfl, HO7.out, HL7, HB7.out⟩
  case round =>
    clear HO7 HL7 HB7
    obtain ⟨k, L, A3, c3, hk, rfl, hown, hL, hb⟩ := hrel
    have hLl : Hid (L.length = b.length + 1 + k) := Lib.hid (by rw [hL.out]; simp; omega)
    have hLl2 : L.length ≤ 2000000000000 := by have := hLl.out; omega
    by_cases hlt : k < zn
    · have hm : ((L.length : Int) % 64 != 56) = true := by
        have h1 := hzs hlt
        have h2 := hLl.out
        simp
        omega
      have hm2 : ¬ ((L.length : Int) % 64 = 56) := by simpa using hm
      have hba : Below wr.heap.size wr (wr.alloc (.cells #[.int .u8 0] 5)) := (Below.refl _ _).alloc (Nat.le_refl _) _
      have hoa := hown.alloc (.cells #[.int .u8 0] 5)
      have hli : By (wr.alloc (.cells #[.int .u8 0] 5)) (fun b => wr.heap.size ≤ b) (some ⟨wr.heap.size, 0, none⟩) [0] := Rd.lit (w := wr) (t := 5) (size := 1) (n := 1) (xs := [.int .u8 0]) rfl rfl rfl
      have hbw := hb.trans (hba.mono hb.size)
      have hs := hbw.size
      go_wp2_with (at_builtin; refine wpList_append_by rfl (.tmp 24) (.tmp 25) rfl (v := .slice A3 L.length c3) rfl hoa rfl hli (by simp only [List.length_singleton]; omega) hs ?_; intro L9 A9 c9 w9 hL9 hown9 hg9 _; have hb9 : Below w2.heap.size w2 w9 := hbw.trans (grown_below hg9 hs (fun g e => (hoa.lt g e).1)))
      have HN : Hid (L9 = b ++ [128] ++ List.replicate (k + 1) 0) := Lib.hid (by rw [hL9.out, hL.out, List.replicate_succ', ← List.append_assoc])
      have HNL : L9.length = b.length + 1 + k + 1 := by rw [hL9.out, List.length_append, hLl.out]; rfl
      have HHL := hLl.out
      go_roundw
      case rel => exact ⟨k + 1, L9, A9, c9, hlt, rfl, hown9, HN, hb9⟩
      case measure => simp [lenV]; omega
    · have hkz : k = zn := by omega
      have hm : ((L.length : Int) % 64 != 56) = false := by
        have h2 := hLl.out
        simp
        omega
      have hm2 : ((L.length : Int) % 64 = 56) := by simpa using hm
      have hL56 : L.length = b.length + 1 + zn := by rw [hLl.out, hkz]
      have HL56 : Hid (L = b ++ [128] ++ List.replicate zn 0) := Lib.hid (by rw [hL.out, hkz])
      obtain ⟨n8, hn8⟩ : ∃ n8, n8 = 8 * b.length := ⟨_, rfl⟩
      have hw8 : IntKind.i64.wrap (8 * (b.length : Int)) = (n8 : Int) := by rw [IntWalk.i64_in _ ⟨by omega, by omega⟩]; omega
      have HN8 := Lib.hid hn8
      have HE8 := Lib.hid (eightR_any n8 (by omega) wr)
      clear hn8 hL hLl hze hzs hL56
      go_wp2_with fail
      refine HE8.out.mono ?_
      rintro e wa ⟨A8, c8, l8, rfl, hl8, ho8, hb8⟩
      have hl8l : l8.length ≤ 8 := by rw [hl8.out, eightB_len]; exact Nat.le_refl _
      have hoa := hown.below hb8
      have hba := hb.trans (hb8.mono hb.size)
      have hs := hba.size
      clear HE8 hown hb8 hb
      go_wp2_with (at_builtin; refine wpList_append_by rfl (.tmp 27) (.tmp 31) rfl (v := .slice A3 L.length c3) rfl hoa rfl ho8.rd (by omega) hs ?_; intro L9 A9 c9 w9 hL9 hown9 hg9 _; have hb9 : Below w2.heap.size w2 w9 := hba.trans (grown_below hg9 hs (fun g e => (hoa.lt g e).1)))
      have HP : Hid (L9 = padS b) := Lib.hid (by rw [hL9.out, HL56.out, hl8.out, HN8.out, HZN.out, zeros_pad])
      have h64 : L9.length % 64 = 0 := by rw [HP.out]; exact pad_len b
      have hL9l : L9.length ≤ 2000000000100 := by rw [hL9.out, List.length_append]; omega
      obtain ⟨nb, hnb⟩ : ∃ nb, nb = L9.length / 64 := ⟨_, rfl⟩
      have hnb2 : L9.length = 64 * nb := by omega
      have HNB := Lib.hid hnb2
      have hw9 := hw2.trans (hb9.mono hw2.size)
      have HM := Lib.hid hown9
      have hs9 := hb9.size
      have HR9 := Lib.hid (HR1.out.below hb9)
      have HK9 := Lib.hid (HR2.out.below hb9)
      have HX9 := Lib.hid (X2.out.below hb9)
      have hln : (L9.length : Int) = ((64 * nb : Nat) : Int) := by omega
      have hnbs : nb ≤ 40000000000 := by omega
      have hL0 : 0 < L9.length := by
        have h1 := HP.out
        have h2 : (padS b).length ≠ 0 := by
          unfold padS
          simp
        rw [h1]; omega
      obtain ⟨gm, hAm, hgm, hgml⟩ := hown9.block hL0
      subst hAm
      have hcap : L9.length ≤ c9 ∧ c9 ≤ maxLen := by
        obtain ⟨A', c', e, h1, h2, _⟩ := own_form hown9
        injection e with _ _ e3
        rw [e3]
        exact ⟨h1, h2⟩
      have hmx : maxLen = 9223372036854775807 := rfl
      rw [hmx] at hcap
      clear hmx
      clear hoa hba hs hg9 hL9 ho8 hl8 hm hm2 hlt hnb h64 hL9l HR1 HR2 X2 hown9 hln hnb2
      rename World => wm
      go_wp2_with fail
      go_loopw [3, 6] (fun hv iv wr => ∃ (i : Nat) (B : Option Addr) (d : Nat) (u : V8), i ≤ nb ∧ iv = .int .i64 ((64 * i : Nat) : Int) ∧ hv = .slice B 8 d ∧ Rd wr (fun b => w1.heap.size ≤ b) 1 B u.l.length (u.l.map u32v) ∧ u.ok ∧ Hid (u = blocksN i first8 (L9.take (64 * i))) ∧ Below wm.heap.size wm wr) (fun _ iv _ => 64 * nb - (intOf iv).toNat)
      case atStart => exact ⟨0, A1, 8, first8, Nat.zero_le _, rfl, rfl, HR9.out, first_ok, Lib.hid rfl, Below.refl _ _⟩
      case round =>
        obtain ⟨i, B, d, u, hi, rfl, rfl, hru, huo, hu, hbm⟩ := hrel
        obtain ⟨at_, hat⟩ : ∃ a, a = 64 * i := ⟨_, rfl⟩
        rw [← hat]
        by_cases hlt : i < nb
        · have hll := HNB.out
          have hlat : (at_ : Int) < (L9.length : Int) := by omega
          obtain ⟨a64, ha64⟩ : ∃ a, a = at_ + 64 := ⟨_, rfl⟩
          have hw64 : IntKind.i64.wrap ((at_ : Int) + 64) = (a64 : Int) := by rw [IntWalk.i64_in _ ⟨by omega, by omega⟩]; omega
          have hq1 : a64 ≤ c9 := by omega
          have hq2 : at_ ≤ a64 := by omega
          have hq3 : a64 - at_ = 64 := by omega
          obtain ⟨mb, hmb⟩ : ∃ mb, mb = (L9.drop at_).take 64 := ⟨_, rfl⟩
          have hmbl : mb.length = 64 := by rw [hmb, List.length_take, List.length_drop]; omega
          have hmr := By.part ((HM.out.below hbm).rd) (p := at_) (n := 64) (by omega)
          rw [← hmb, Nat.zero_add] at hmr
          have HBL := Lib.hid (blockR_any B A2 (some ⟨gm, at_, none⟩) d 64 (c9 - at_) u mb _ _ _ wr hru (HK9.out.below hbm) hmr hmbl huo)
          have HUN : Hid (compress u mb = blocksN (i + 1) first8 (L9.take (64 * (i + 1)))) := Lib.hid (by
            rw [hu.out, hmb, hat]
            exact blocksN_snoc i first8 L9 (by omega))
          have hco := compress_ok u mb
          have hwrs := hbm.size
          have hw1s : w1.heap.size ≤ wr.heap.size := by omega
          have HAT := Lib.hid hat
          have HA64 := Lib.hid ha64
          clear hat ha64
          clear hru huo hu hmb hmr hmbl hll
          go_wp2_with fail
          refine HBL.out.mono ?_
          rintro e wx ⟨B2, d2, LB, rfl, hLB, hoB, hbx⟩
          obtain ⟨v9, hv9⟩ : ∃ v9, v9 = compress u mb := ⟨_, rfl⟩
          rw [← hv9] at hLB hco HUN
          obtain rfl := hLB.out
          have hrB := (OwW.rd hoB).mono (Z' := fun b => w1.heap.size ≤ b) (fun b _ hb => Nat.le_trans hw1s hb)
          have hbm2 := hbm.trans (hbx.mono hwrs)
          rw [show v9.l.length = 8 from rfl]
          clear HBL hLB hoB hbx hv9
          go_wp2_with fail
          go_roundw
          case rel => exact ⟨i + 1, B2, d2, v9, hlt, by (rw [show 64 * (i + 1) = a64 by (rw [HA64.out, HAT.out]; omega)]), rfl, hrB, hco, HUN, hbm2⟩
          case measure =>
            have h1 := HAT.out
            have h2 := HA64.out
            simp [intOf]
            omega
        · have hie : i = nb := by omega
          have hll := HNB.out
          have hlat : ¬ (at_ : Int) < (L9.length : Int) := by omega
          have HUE : Hid (u = hashed (padS b)) := Lib.hid (by
            rw [hu.out, hie, ← HNB.out, List.take_length, ← HP.out]
            unfold hashed
            rw [HNB.out, show 64 * nb / 64 = nb by omega])
          clear hu
          obtain ⟨gu, ou, eu, hzu, hgu, hcu⟩ := RdW.at_ hru (show 0 < 8 by omega)
          subst eu
          have hwr := hw9.trans (hbm.mono hw9.size)
          have XR := Lib.hid (HX9.out.below hbm)
          have hgw : w.heap.size < gu := by have : w1.heap.size ≤ gu := hzu; omega
          have HUR : Hid (R = digestS u) := Lib.hid (by rw [HR.out, HUE.out]; rfl)
          have hba : Below wr.heap.size wr (wr.alloc (.cells #[.int .u8 0, .int .u8 0, .int .u8 0, .int .u8 0, .int .u8 0, .int .u8 0, .int .u8 0, .int .u8 0, .int .u8 0, .int .u8 0, .int .u8 0, .int .u8 0, .int .u8 0, .int .u8 0, .int .u8 0, .int .u8 0, .int .u8 0, .int .u8 0, .int .u8 0, .int .u8 0, .int .u8 0, .int .u8 0, .int .u8 0, .int .u8 0, .int .u8 0, .int .u8 0, .int .u8 0, .int .u8 0, .int .u8 0, .int .u8 0, .int .u8 0, .int .u8 0] 36)) := (Below.refl _ _).alloc (Nat.le_refl _) _
          have y0 : Blk (wr.alloc (.cells #[.int .u8 0, .int .u8 0, .int .u8 0, .int .u8 0, .int .u8 0, .int .u8 0, .int .u8 0, .int .u8 0, .int .u8 0, .int .u8 0, .int .u8 0, .int .u8 0, .int .u8 0, .int .u8 0, .int .u8 0, .int .u8 0, .int .u8 0, .int .u8 0, .int .u8 0, .int .u8 0, .int .u8 0, .int .u8 0, .int .u8 0, .int .u8 0, .int .u8 0, .int .u8 0, .int .u8 0, .int .u8 0, .int .u8 0, .int .u8 0, .int .u8 0, .int .u8 0] 36)) wr.heap.size 36 (((List.replicate 32 (0 : UInt8)).map bv).toArray) := Blk.new wr 36 #[.int .u8 0, .int .u8 0, .int .u8 0, .int .u8 0, .int .u8 0, .int .u8 0, .int .u8 0, .int .u8 0, .int .u8 0, .int .u8 0, .int .u8 0, .int .u8 0, .int .u8 0, .int .u8 0, .int .u8 0, .int .u8 0, .int .u8 0, .int .u8 0, .int .u8 0, .int .u8 0, .int .u8 0, .int .u8 0, .int .u8 0, .int .u8 0, .int .u8 0, .int .u8 0, .int .u8 0, .int .u8 0, .int .u8 0, .int .u8 0, .int .u8 0, .int .u8 0]
          have XA := Lib.hid (XR.out.below hba)
          have hwa := hwr.trans (hba.mono hwr.size)
          have HCA : Hid (∀ k, k < 8 → (wr.alloc (.cells #[.int .u8 0, .int .u8 0, .int .u8 0, .int .u8 0, .int .u8 0, .int .u8 0, .int .u8 0, .int .u8 0, .int .u8 0, .int .u8 0, .int .u8 0, .int .u8 0, .int .u8 0, .int .u8 0, .int .u8 0, .int .u8 0, .int .u8 0, .int .u8 0, .int .u8 0, .int .u8 0, .int .u8 0, .int .u8 0, .int .u8 0, .int .u8 0, .int .u8 0, .int .u8 0, .int .u8 0, .int .u8 0, .int .u8 0, .int .u8 0, .int .u8 0, .int .u8 0] 36)).cell? ⟨gu, ou + k, none⟩ = some (.int .u32 ((u.l.getD k 0 : Nat) : Int))) := Lib.hid (fun k hk => cell_later hba (hcu k hk))
          have hwrs := hwr.size
          have hgua : gu < (wr.alloc (.cells #[.int .u8 0, .int .u8 0, .int .u8 0, .int .u8 0, .int .u8 0, .int .u8 0, .int .u8 0, .int .u8 0, .int .u8 0, .int .u8 0, .int .u8 0, .int .u8 0, .int .u8 0, .int .u8 0, .int .u8 0, .int .u8 0, .int .u8 0, .int .u8 0, .int .u8 0, .int .u8 0, .int .u8 0, .int .u8 0, .int .u8 0, .int .u8 0, .int .u8 0, .int .u8 0, .int .u8 0, .int .u8 0, .int .u8 0, .int .u8 0, .int .u8 0, .int .u8 0] 36)).heap.size := Nat.lt_of_lt_of_le hgu hba.size
          obtain ⟨db, hdb⟩ : ∃ db, db = wr.heap.size := ⟨_, rfl⟩
          rw [← hdb] at y0
          have hdu : gu ≠ db := by omega
          have hdw : w.heap.size ≠ db := by omega
          have hdw2 : w.heap.size ≤ db := by omega
          clear hru hcu hzu hgu HX9 XR HR9 HK9 HM hba hbm hcap hll hie hlt
          go_upto_region 11 with (fail)
          rw [← hdb]
          generalize wr.alloc (.cells #[.int .u8 0, .int .u8 0, .int .u8 0, .int .u8 0, .int .u8 0, .int .u8 0, .int .u8 0, .int .u8 0, .int .u8 0, .int .u8 0, .int .u8 0, .int .u8 0, .int .u8 0, .int .u8 0, .int .u8 0, .int .u8 0, .int .u8 0, .int .u8 0, .int .u8 0, .int .u8 0, .int .u8 0, .int .u8 0, .int .u8 0, .int .u8 0, .int .u8 0, .int .u8 0, .int .u8 0, .int .u8 0, .int .u8 0, .int .u8 0, .int .u8 0, .int .u8 0] 36) = wn at *
          have hdl := y0.lt
          clear hdb
          go_wp2_with fail
          go_loopw [8] (fun iv W => ∃ (i : Nat) (D : List UInt8), i ≤ 8 ∧ iv = .int .i64 (i : Int) ∧ Blk W db 36 (D.map bv).toArray ∧ Hid (D.length = 32) ∧ Hid (∀ k, k < 4 * i → D.getD k 0 = R.getD k 0) ∧ Fr (fun x => x = db) wn W) (fun iv _ => 8 - (intOf iv).toNat)
          case atStart => exact ⟨0, List.replicate 32 0, Nat.zero_le _, rfl, y0, Lib.hid rfl, Lib.hid (fun k hk => by omega), Fr.refl _ _⟩
          case round =>
            clear y0
            obtain ⟨i, D, hi, rfl, hB, hDl, hT, hf⟩ := hrel
            by_cases hlt : i < 8
            · have hlti : (i : Int) < 8 := by omega
              obtain ⟨p, hp⟩ : ∃ p, p = u.l.getD i 0 := ⟨_, rfl⟩
              have hpl : p < 4294967296 := by
                rw [hp]
                have huo2 := huo
                obtain ⟨ua, ub, uc, ud, ue, uf, ug, uh⟩ := u
                obtain ⟨a1, a2, a3, a4, a5, a6, a7, a8⟩ := huo2
                unfold W32 at *
                obtain rfl | rfl | rfl | rfl | rfl | rfl | rfl | rfl : i = 0 ∨ i = 1 ∨ i = 2 ∨ i = 3 ∨ i = 4 ∨ i = 5 ∨ i = 6 ∨ i = 7 := by omega
                all_goals assumption
              have qc := (hf.cell (p := ⟨gu, ou + i, none⟩) (show gu < _ from hgua) hdu).trans (HCA.out i hlt)
              rw [← hp] at qc
              obtain ⟨q4, hq4⟩ : ∃ q, q = 4 * i := ⟨_, rfl⟩
              have hw4 : IntKind.i64.wrap (4 * (i : Int)) = (q4 : Int) := by rw [IntWalk.i64_in _ ⟨by omega, by omega⟩]; omega
              have hq28 : q4 ≤ 28 := by omega
              have HDG : Hid (∀ j, j < 4 → R.getD (q4 + j) 0 = UInt8.ofNat (p / 256 ^ (3 - j))) := Lib.hid (fun j hj => by
                rw [HUR.out, hq4, digest_get u hlt hj, hp, show 24 - 8 * j = 8 * (3 - j) by omega, Nat.pow_mul])
              rw [← hq4] at hT
              have HQ4 := Lib.hid hq4
              have HB := Lib.hid hB
              have HF := Lib.hid hf
              clear hp hq4 hB hf
              go_wp2_with fail
              clear qc
              go_loopw [9, 10] (fun xv jv W => ∃ (m x : Nat) (z : Int) (D : List UInt8), m ≤ 4 ∧ jv = .int .i64 z ∧ Hid (z = (m : Int) - 1) ∧ xv = .int .u32 (x : Int) ∧ Hid (x = p / 256 ^ (4 - m)) ∧ x < 4294967296 ∧ Blk W db 36 (D.map bv).toArray ∧ Hid (D.length = 32) ∧ Hid (∀ k, (k < q4 ∨ (q4 + m ≤ k ∧ k < q4 + 4)) → D.getD k 0 = R.getD k 0) ∧ Fr (fun x => x = db) wn W) (fun _ jv _ => (intOf jv + 1).toNat)
              case atStart => exact ⟨4, p, 3, D, Nat.le_refl _, rfl, Lib.hid rfl, rfl, Lib.hid (by simp), hpl, HB.out, hDl, Lib.hid (fun k hk => hT.out k (by omega)), HF.out⟩
              case round =>
                clear HB HF hT hDl
                obtain ⟨m, x, z, D, hm, rfl, hz, rfl, hx, hxl, hB, hDl, hT, hf⟩ := hrel
                by_cases hm0 : 0 < m
                · obtain ⟨j, rfl⟩ : ∃ j, m = j + 1 := ⟨m - 1, by omega⟩
                  obtain rfl : z = (j : Int) := by rw [hz.out]; omega
                  have hj0 : (0 : Int) ≤ (j : Int) := by omega
                  obtain ⟨n, hn⟩ : ∃ n, n = q4 + j := ⟨_, rfl⟩
                  have hw5 : IntKind.i64.wrap ((q4 : Int) + (j : Int)) = (n : Int) := by rw [IntWalk.i64_in _ ⟨by omega, by omega⟩]; omega
                  have hn32 : n < 32 := by omega
                  have hn32i : (n : Int) < 32 := by omega
                  obtain ⟨d, hd⟩ : ∃ d, d = UInt8.ofNat (x % 256) := ⟨_, rfl⟩
                  have hdv : (x : Int) % 256 = (d.toNat : Int) := by
                    rw [hd, UInt8.toNat_ofNat']
                    omega
                  have hd8 := d.toNat_lt
                  have hdr : d = R.getD n 0 := by
                    rw [hn, HDG.out j (by omega), hd, hx.out, show 4 - (j + 1) = 3 - j by omega]
                    rw [← UInt8.toNat_inj, UInt8.toNat_ofNat', UInt8.toNat_ofNat']
                    omega
                  have HTT : Hid (∀ k, (k < q4 ∨ (q4 + j ≤ k ∧ k < q4 + 4)) → (D.set n d).getD k 0 = R.getD k 0) := Lib.hid (fun k hk => by
                    by_cases e : k = n
                    · rw [e, List.getD_eq_getElem?_getD, List.getElem?_set_self (by rw [hDl.out]; exact hn32), ← hdr]
                      rfl
                    · rw [List.getD_eq_getElem?_getD, List.getElem?_set_ne (fun h => e h.symm), ← List.getD_eq_getElem?_getD]
                      exact hT.out k (by omega))
                  have hcl : wr.cell? ⟨db, n, none⟩ = some (bv (D[n]'(by rw [hDl.out]; exact hn32))) := by
                    rw [hB.cell, List.getElem?_toArray, List.getElem?_map, List.getElem?_eq_getElem (by rw [hDl.out]; exact hn32)]
                    rfl
                  obtain ⟨y, hcell⟩ : ∃ y : UInt8, wr.cell? ⟨db, n, none⟩ = some (.int .u8 (y.toNat : Int)) := ⟨_, hcl⟩
                  have fz := hB.frozen n
                  have hst := hB.set_ n (bv d)
                  rw [List.setIfInBounds_toArray, ← List.map_set] at hst
                  have HST : Hid (Blk (wr.setCell ⟨db, n, none⟩ (.int .u8 (d.toNat : Int))) db 36 ((D.set n d).map bv).toArray) := Lib.hid hst
                  have HDS : Hid ((D.set n d).length = 32) := Lib.hid (by rw [List.length_set, hDl.out])
                  have hf2 := hf.trans ((Fr.refl (fun x => x = db) wr).setAt db n rfl (.int .u8 (d.toNat : Int))) (fun _ _ e => e)
                  have HX1 : Hid (x / 256 = p / 256 ^ (4 - j)) := Lib.hid (by
                    rw [hx.out, show 4 - j = (4 - (j + 1)) + 1 by omega, Nat.pow_succ, Nat.div_div_eq_div_mul])
                  clear hcl hn hd hdr hst hB hT hf hDl hz hx
                  go_wp2_with fail
                  go_roundw
                  case rel => exact ⟨j, x / 256, (j : Int) - 1, D.set n d, by omega, rfl, Lib.hid rfl, by simp, HX1, by omega, HST.out, HDS, HTT, hf2⟩
                  case measure => simp [intOf]
                · obtain rfl : m = 0 := by omega
                  obtain rfl : z = -1 := by rw [hz.out]; rfl
                  have HT4 : Hid (∀ k, k < 4 * (i + 1) → D.getD k 0 = R.getD k 0) := Lib.hid (fun k hk => by
                    have := HQ4.out
                    exact hT.out k (by omega))
                  clear hT hz hx
                  go_wp2_with fail
                  go_roundw
                  case rel => exact ⟨i + 1, D, hlt, by go_num, hB, hDl, HT4, hf⟩
                  case measure => simp [intOf]; omega
            · have hi8 : ¬ (i : Int) < 8 := by omega
              have hRl : R.length = 32 := by rw [HR.out]; exact sha_len b
              have hDR : D = R := by
                apply List.ext_getElem?
                intro k
                by_cases hk : k < 32
                · have h9 := hT.out k (by omega)
                  rw [List.getD_eq_getElem?_getD, List.getD_eq_getElem?_getD, List.getElem?_eq_getElem (by rw [hDl.out]; exact hk), List.getElem?_eq_getElem (by rw [hRl]; exact hk)] at h9
                  rw [List.getElem?_eq_getElem (by rw [hDl.out]; exact hk), List.getElem?_eq_getElem (by rw [hRl]; exact hk)]
                  exact congrArg some h9
                · rw [List.getElem?_eq_none (by rw [hDl.out]; omega), List.getElem?_eq_none (by rw [hRl]; omega)]
              subst hDR
              have hsz : (D.map bv).toArray.size = 32 := by simp [hRl]
              have HSI : Hid ((Tryz.prog.info? 36).map (·.size) = some (D.map bv).toArray.size) := Lib.hid (by rw [hsz]; kernel_rfl)
              have HSZ : Hid ((((List.replicate 32 (0 : UInt8)).map bv).toArray).size = (D.map bv).toArray.size) := Lib.hid (by rw [hsz]; rfl)
              have HO : Hid (((D.map bv).toArray).all (·.oneCell') = true) := Lib.hid (by
                rw [List.all_toArray, List.all_eq_true]
                exact fun u hu => bv_one D u hu)
              have x4 := XA.out.fr hf hdw
              have hwz := hwa.trans (hf.below (B := w.heap.size) hwa.size (fun k hk e => by omega))
              have hwE := hwz.trans (((Fr.refl (fun x => x = w.heap.size) wr).setRow w.heap.size rfl (D.map bv).toArray).below (B := w.heap.size) hwz.size (fun k hk e => by omega))
              clear hT hDl hsz hRl
              go_wp2_with (first | (refine wpList_load_row rfl 36 _ rfl db rfl 36 _ (0, 0) _ hB Tryz.underlying36 rfl HSI.out ?_) | (refine wpList_store_row rfl 36 _ _ rfl w.heap.size _ rfl rfl 36 _ x4 HSI.out HSZ.out HO.out ?_))
              refine bodyPost_ret (results_cell_row Tryz.results46 _ _ w.heap.size 36 _ (0, 0) _ rfl (x4.setRow _) Tryz.underlying36 rfl HSI.out) rfl ?_
              exact ⟨rfl, hwE⟩

end Go.Proofs.YtjcfphdjgagimaaGreatDoor

/- sha.Sum: the digest of bytes. -/
namespace Go.Proofs.YtjcfphdjgagimaaGreatDoor
open Go.RowKit


set_option maxRecDepth 100000 in
set_option maxHeartbeats 4000000 in
theorem sumB_any (A : Option Addr) (c : Nat) (b : List UInt8) (Z : Nat → Prop) (w : World) (hy : BV.ok w Z ⟨A, c, b⟩) (hG : Globs w) (hl : b.length ≤ 288230376151711744) :
    Calls Tryz.prog 13 #[.slice A b.length c] w fun e w' => e = .returned (.agg ((shaS b).map bv).toArray) ∧ Below w.heap.size w w' := by
  obtain ⟨hz, hi⟩ := zero_of_info (P := Tryz.prog) hash_zero
  have x0 : Blk ((w.alloc (.cells #[.int .u8 0, .int .u8 0, .int .u8 0, .int .u8 0, .int .u8 0, .int .u8 0, .int .u8 0, .int .u8 0, .int .u8 0, .int .u8 0, .int .u8 0, .int .u8 0, .int .u8 0, .int .u8 0, .int .u8 0, .int .u8 0, .int .u8 0, .int .u8 0, .int .u8 0, .int .u8 0, .int .u8 0, .int .u8 0, .int .u8 0, .int .u8 0, .int .u8 0, .int .u8 0, .int .u8 0, .int .u8 0, .int .u8 0, .int .u8 0, .int .u8 0, .int .u8 0] 37)).alloc (.cells #[.int .u32 0, .int .u32 0, .int .u32 0, .int .u32 0, .int .u32 0, .int .u32 0, .int .u32 0, .int .u32 0, .int .u8 0, .int .u8 0, .int .u8 0, .int .u8 0, .int .u8 0, .int .u8 0, .int .u8 0, .int .u8 0, .int .u8 0, .int .u8 0, .int .u8 0, .int .u8 0, .int .u8 0, .int .u8 0, .int .u8 0, .int .u8 0, .int .u8 0, .int .u8 0, .int .u8 0, .int .u8 0, .int .u8 0, .int .u8 0, .int .u8 0, .int .u8 0, .int .u8 0, .int .u8 0, .int .u8 0, .int .u8 0, .int .u8 0, .int .u8 0, .int .u8 0, .int .u8 0, .int .u8 0, .int .u8 0, .int .u8 0, .int .u8 0, .int .u8 0, .int .u8 0, .int .u8 0, .int .u8 0, .int .u8 0, .int .u8 0, .int .u8 0, .int .u8 0, .int .u8 0, .int .u8 0, .int .u8 0, .int .u8 0, .int .u8 0, .int .u8 0, .int .u8 0, .int .u8 0, .int .u8 0, .int .u8 0, .int .u8 0, .int .u8 0, .int .u8 0, .int .u8 0, .int .u8 0, .int .u8 0, .int .u8 0, .int .u8 0, .int .u8 0, .int .u8 0, .int .i64 0] 80)) w.heap.size 37 (((List.replicate 32 (0 : UInt8)).map bv).toArray) := (Blk.new w 37 #[.int .u8 0, .int .u8 0, .int .u8 0, .int .u8 0, .int .u8 0, .int .u8 0, .int .u8 0, .int .u8 0, .int .u8 0, .int .u8 0, .int .u8 0, .int .u8 0, .int .u8 0, .int .u8 0, .int .u8 0, .int .u8 0, .int .u8 0, .int .u8 0, .int .u8 0, .int .u8 0, .int .u8 0, .int .u8 0, .int .u8 0, .int .u8 0, .int .u8 0, .int .u8 0, .int .u8 0, .int .u8 0, .int .u8 0, .int .u8 0, .int .u8 0, .int .u8 0]).below ((Below.refl _ _).alloc (Nat.le_refl _) _)
  have x1 : Blk ((w.alloc (.cells #[.int .u8 0, .int .u8 0, .int .u8 0, .int .u8 0, .int .u8 0, .int .u8 0, .int .u8 0, .int .u8 0, .int .u8 0, .int .u8 0, .int .u8 0, .int .u8 0, .int .u8 0, .int .u8 0, .int .u8 0, .int .u8 0, .int .u8 0, .int .u8 0, .int .u8 0, .int .u8 0, .int .u8 0, .int .u8 0, .int .u8 0, .int .u8 0, .int .u8 0, .int .u8 0, .int .u8 0, .int .u8 0, .int .u8 0, .int .u8 0, .int .u8 0, .int .u8 0] 37)).alloc (.cells #[.int .u32 0, .int .u32 0, .int .u32 0, .int .u32 0, .int .u32 0, .int .u32 0, .int .u32 0, .int .u32 0, .int .u8 0, .int .u8 0, .int .u8 0, .int .u8 0, .int .u8 0, .int .u8 0, .int .u8 0, .int .u8 0, .int .u8 0, .int .u8 0, .int .u8 0, .int .u8 0, .int .u8 0, .int .u8 0, .int .u8 0, .int .u8 0, .int .u8 0, .int .u8 0, .int .u8 0, .int .u8 0, .int .u8 0, .int .u8 0, .int .u8 0, .int .u8 0, .int .u8 0, .int .u8 0, .int .u8 0, .int .u8 0, .int .u8 0, .int .u8 0, .int .u8 0, .int .u8 0, .int .u8 0, .int .u8 0, .int .u8 0, .int .u8 0, .int .u8 0, .int .u8 0, .int .u8 0, .int .u8 0, .int .u8 0, .int .u8 0, .int .u8 0, .int .u8 0, .int .u8 0, .int .u8 0, .int .u8 0, .int .u8 0, .int .u8 0, .int .u8 0, .int .u8 0, .int .u8 0, .int .u8 0, .int .u8 0, .int .u8 0, .int .u8 0, .int .u8 0, .int .u8 0, .int .u8 0, .int .u8 0, .int .u8 0, .int .u8 0, .int .u8 0, .int .u8 0, .int .i64 0] 80)) (w.heap.size + 1) 80 (hashCells (List.replicate 8 0) (List.replicate 64 0) 0).toArray := by
    have := Blk.new (w.alloc (.cells #[.int .u8 0, .int .u8 0, .int .u8 0, .int .u8 0, .int .u8 0, .int .u8 0, .int .u8 0, .int .u8 0, .int .u8 0, .int .u8 0, .int .u8 0, .int .u8 0, .int .u8 0, .int .u8 0, .int .u8 0, .int .u8 0, .int .u8 0, .int .u8 0, .int .u8 0, .int .u8 0, .int .u8 0, .int .u8 0, .int .u8 0, .int .u8 0, .int .u8 0, .int .u8 0, .int .u8 0, .int .u8 0, .int .u8 0, .int .u8 0, .int .u8 0, .int .u8 0] 37)) 80 #[.int .u32 0, .int .u32 0, .int .u32 0, .int .u32 0, .int .u32 0, .int .u32 0, .int .u32 0, .int .u32 0, .int .u8 0, .int .u8 0, .int .u8 0, .int .u8 0, .int .u8 0, .int .u8 0, .int .u8 0, .int .u8 0, .int .u8 0, .int .u8 0, .int .u8 0, .int .u8 0, .int .u8 0, .int .u8 0, .int .u8 0, .int .u8 0, .int .u8 0, .int .u8 0, .int .u8 0, .int .u8 0, .int .u8 0, .int .u8 0, .int .u8 0, .int .u8 0, .int .u8 0, .int .u8 0, .int .u8 0, .int .u8 0, .int .u8 0, .int .u8 0, .int .u8 0, .int .u8 0, .int .u8 0, .int .u8 0, .int .u8 0, .int .u8 0, .int .u8 0, .int .u8 0, .int .u8 0, .int .u8 0, .int .u8 0, .int .u8 0, .int .u8 0, .int .u8 0, .int .u8 0, .int .u8 0, .int .u8 0, .int .u8 0, .int .u8 0, .int .u8 0, .int .u8 0, .int .u8 0, .int .u8 0, .int .u8 0, .int .u8 0, .int .u8 0, .int .u8 0, .int .u8 0, .int .u8 0, .int .u8 0, .int .u8 0, .int .u8 0, .int .u8 0, .int .u8 0, .int .i64 0]
    rw [zero_cells] at this ⊢
    rwa [show (w.alloc (.cells #[.int .u8 0, .int .u8 0, .int .u8 0, .int .u8 0, .int .u8 0, .int .u8 0, .int .u8 0, .int .u8 0, .int .u8 0, .int .u8 0, .int .u8 0, .int .u8 0, .int .u8 0, .int .u8 0, .int .u8 0, .int .u8 0, .int .u8 0, .int .u8 0, .int .u8 0, .int .u8 0, .int .u8 0, .int .u8 0, .int .u8 0, .int .u8 0, .int .u8 0, .int .u8 0, .int .u8 0, .int .u8 0, .int .u8 0, .int .u8 0, .int .u8 0, .int .u8 0] 37)).heap.size = w.heap.size + 1 by simp] at this
  have hw2 : Below w.heap.size w ((w.alloc (.cells #[.int .u8 0, .int .u8 0, .int .u8 0, .int .u8 0, .int .u8 0, .int .u8 0, .int .u8 0, .int .u8 0, .int .u8 0, .int .u8 0, .int .u8 0, .int .u8 0, .int .u8 0, .int .u8 0, .int .u8 0, .int .u8 0, .int .u8 0, .int .u8 0, .int .u8 0, .int .u8 0, .int .u8 0, .int .u8 0, .int .u8 0, .int .u8 0, .int .u8 0, .int .u8 0, .int .u8 0, .int .u8 0, .int .u8 0, .int .u8 0, .int .u8 0, .int .u8 0] 37)).alloc (.cells #[.int .u32 0, .int .u32 0, .int .u32 0, .int .u32 0, .int .u32 0, .int .u32 0, .int .u32 0, .int .u32 0, .int .u8 0, .int .u8 0, .int .u8 0, .int .u8 0, .int .u8 0, .int .u8 0, .int .u8 0, .int .u8 0, .int .u8 0, .int .u8 0, .int .u8 0, .int .u8 0, .int .u8 0, .int .u8 0, .int .u8 0, .int .u8 0, .int .u8 0, .int .u8 0, .int .u8 0, .int .u8 0, .int .u8 0, .int .u8 0, .int .u8 0, .int .u8 0, .int .u8 0, .int .u8 0, .int .u8 0, .int .u8 0, .int .u8 0, .int .u8 0, .int .u8 0, .int .u8 0, .int .u8 0, .int .u8 0, .int .u8 0, .int .u8 0, .int .u8 0, .int .u8 0, .int .u8 0, .int .u8 0, .int .u8 0, .int .u8 0, .int .u8 0, .int .u8 0, .int .u8 0, .int .u8 0, .int .u8 0, .int .u8 0, .int .u8 0, .int .u8 0, .int .u8 0, .int .u8 0, .int .u8 0, .int .u8 0, .int .u8 0, .int .u8 0, .int .u8 0, .int .u8 0, .int .u8 0, .int .u8 0, .int .u8 0, .int .u8 0, .int .u8 0, .int .u8 0, .int .i64 0] 80)) := ((Below.refl _ _).alloc (Nat.le_refl _) _).alloc (by simp) _
  have HH : Hid (HashAt ((w.alloc (.cells #[.int .u8 0, .int .u8 0, .int .u8 0, .int .u8 0, .int .u8 0, .int .u8 0, .int .u8 0, .int .u8 0, .int .u8 0, .int .u8 0, .int .u8 0, .int .u8 0, .int .u8 0, .int .u8 0, .int .u8 0, .int .u8 0, .int .u8 0, .int .u8 0, .int .u8 0, .int .u8 0, .int .u8 0, .int .u8 0, .int .u8 0, .int .u8 0, .int .u8 0, .int .u8 0, .int .u8 0, .int .u8 0, .int .u8 0, .int .u8 0, .int .u8 0, .int .u8 0] 37)).alloc (.cells #[.int .u32 0, .int .u32 0, .int .u32 0, .int .u32 0, .int .u32 0, .int .u32 0, .int .u32 0, .int .u32 0, .int .u8 0, .int .u8 0, .int .u8 0, .int .u8 0, .int .u8 0, .int .u8 0, .int .u8 0, .int .u8 0, .int .u8 0, .int .u8 0, .int .u8 0, .int .u8 0, .int .u8 0, .int .u8 0, .int .u8 0, .int .u8 0, .int .u8 0, .int .u8 0, .int .u8 0, .int .u8 0, .int .u8 0, .int .u8 0, .int .u8 0, .int .u8 0, .int .u8 0, .int .u8 0, .int .u8 0, .int .u8 0, .int .u8 0, .int .u8 0, .int .u8 0, .int .u8 0, .int .u8 0, .int .u8 0, .int .u8 0, .int .u8 0, .int .u8 0, .int .u8 0, .int .u8 0, .int .u8 0, .int .u8 0, .int .u8 0, .int .u8 0, .int .u8 0, .int .u8 0, .int .u8 0, .int .u8 0, .int .u8 0, .int .u8 0, .int .u8 0, .int .u8 0, .int .u8 0, .int .u8 0, .int .u8 0, .int .u8 0, .int .u8 0, .int .u8 0, .int .u8 0, .int .u8 0, .int .u8 0, .int .u8 0, .int .u8 0, .int .u8 0, .int .u8 0, .int .i64 0] 80)) (w.heap.size + 1) (⟨0, 0, 0, 0, 0, 0, 0, 0⟩ : V8).l (List.replicate 64 0) 0) := Lib.hid (HashAt.of_blk rfl (by simp) x1)
  have HY := Lib.hid ((hy.mono (Z' := fun x => x < w.heap.size) (fun x hx _ => hx)).below hw2)
  have HG := Lib.hid (hG.below hw2)
  have hgl := hG.lt
  have hxl := x1.lt
  clear hy hG hi x1
  obtain ⟨R, hR⟩ : ∃ R, R = shaS b := ⟨_, rfl⟩
  rw [← hR]
  have HR := Lib.hid hR
  clear hR
  go_enter Tryz.func13, Tryz.ntmps13
  go_upto_region 2 with (fail)
  generalize ((w.alloc (.cells #[.int .u8 0, .int .u8 0, .int .u8 0, .int .u8 0, .int .u8 0, .int .u8 0, .int .u8 0, .int .u8 0, .int .u8 0, .int .u8 0, .int .u8 0, .int .u8 0, .int .u8 0, .int .u8 0, .int .u8 0, .int .u8 0, .int .u8 0, .int .u8 0, .int .u8 0, .int .u8 0, .int .u8 0, .int .u8 0, .int .u8 0, .int .u8 0, .int .u8 0, .int .u8 0, .int .u8 0, .int .u8 0, .int .u8 0, .int .u8 0, .int .u8 0, .int .u8 0] 37)).alloc (.cells #[.int .u32 0, .int .u32 0, .int .u32 0, .int .u32 0, .int .u32 0, .int .u32 0, .int .u32 0, .int .u32 0, .int .u8 0, .int .u8 0, .int .u8 0, .int .u8 0, .int .u8 0, .int .u8 0, .int .u8 0, .int .u8 0, .int .u8 0, .int .u8 0, .int .u8 0, .int .u8 0, .int .u8 0, .int .u8 0, .int .u8 0, .int .u8 0, .int .u8 0, .int .u8 0, .int .u8 0, .int .u8 0, .int .u8 0, .int .u8 0, .int .u8 0, .int .u8 0, .int .u8 0, .int .u8 0, .int .u8 0, .int .u8 0, .int .u8 0, .int .u8 0, .int .u8 0, .int .u8 0, .int .u8 0, .int .u8 0, .int .u8 0, .int .u8 0, .int .u8 0, .int .u8 0, .int .u8 0, .int .u8 0, .int .u8 0, .int .u8 0, .int .u8 0, .int .u8 0, .int .u8 0, .int .u8 0, .int .u8 0, .int .u8 0, .int .u8 0, .int .u8 0, .int .u8 0, .int .u8 0, .int .u8 0, .int .u8 0, .int .u8 0, .int .u8 0, .int .u8 0, .int .u8 0, .int .u8 0, .int .u8 0, .int .u8 0, .int .u8 0, .int .u8 0, .int .u8 0, .int .i64 0] 80)) = w2 at *
  have HW := Lib.hid (write_any (w.heap.size + 1) ⟨0, 0, 0, 0, 0, 0, 0, 0⟩ (List.replicate 64 0) [] A c b _ w2 HH.out HashOf.new HG.out HY.out (fun x hx e => by omega) (by omega) (by simp; omega))
  clear hz
  go_wp2_with fail
  refine HW.out.mono ?_
  rintro e w3 ⟨rfl, ⟨s1, P1, hh, hm⟩, hf⟩
  rw [List.nil_append] at hm
  have hh2 : HashAt w3 (w.heap.size + 1) s1.l P1 (b.length : Int) := by
    have := hh
    rw [List.length_nil, Nat.zero_add] at this
    exact this
  have hw3 := hw2.trans (hf.below (B := w.heap.size) hw2.size (fun k hk e => by omega))
  have HS := hsum_any (w.heap.size + 1) s1 P1 b w3 hh2 hm (HG.out.fr hf (by omega) (by omega)) hl
  rw [← HR.out] at HS
  replace HS := Lib.hid HS
  have x3 := x0.fr hf (by omega)
  clear HW hh hh2 hm hf x0
  go_wp2_with fail
  refine HS.out.mono ?_
  rintro e w4 ⟨rfl, hb4⟩
  have x4 := x3.below hb4
  have hRl : R.length = 32 := by rw [HR.out]; exact sha_len b
  have hsz : (R.map bv).toArray.size = 32 := by simp [hRl]
  have HSI : Hid ((Tryz.prog.info? 37).map (·.size) = some (R.map bv).toArray.size) := Lib.hid (by rw [hsz]; kernel_rfl)
  have HSZ : Hid ((((List.replicate 32 (0 : UInt8)).map bv).toArray).size = (R.map bv).toArray.size) := Lib.hid (by rw [hsz]; rfl)
  have HO : Hid (((R.map bv).toArray).all (·.oneCell') = true) := Lib.hid (by
    rw [List.all_toArray, List.all_eq_true]
    exact fun u hu => bv_one R u hu)
  have hw4 := hw3.trans (hb4.mono hw3.size)
  have hwE := hw4.trans (((Fr.refl (fun x => x = w.heap.size) w4).setRow w.heap.size rfl (R.map bv).toArray).below (B := w.heap.size) hw4.size (fun k hk e => by omega))
  clear HS x3 hb4 hsz hRl
  go_wp2_with (refine wpList_store_row rfl 37 _ _ rfl w.heap.size _ rfl rfl 37 _ x4 HSI.out HSZ.out HO.out ?_)
  refine bodyPost_ret (results_cell_row Tryz.results13 _ _ w.heap.size 37 _ (0, 0) _ rfl (x4.setRow _) Tryz.underlying37 rfl HSI.out) rfl ?_
  exact ⟨rfl, hwE⟩

end Go.Proofs.YtjcfphdjgagimaaGreatDoor

/- Maps keyed by texts, as rows in the paths' order: whatever the elements are. No program. -/
namespace Go.Proofs.YtjcfphdjgagimaaGreatDoor
open Go.Maps (Keyed string_keyed)
open Go.WideShapes Go.MapKept Go.ChangeMaps

/-- an element as it is -/
def heldR : Value → Option (DataW Value × List MemPlace) := fun v => some (.held v, [])
/-- what a map's datum tells at each text is what the row tells -/
def Tells (D : DataW Value) (L : List (List UInt8 × Value)) : Prop := ∀ p z, D.atKey (.string p) z = ((getR L p).map DataW.held).getD z
theorem Tells.has {D : DataW Value} {L : List (List UInt8 × Value)} (h : Tells D L) (p : List UInt8) : Go.Maps.has D (.string p) = (getR L p).isSome := by
  rcases hg : getR L p with _ | v
  · exact Go.Maps.has_false_of_atKey fun z => by rw [h, hg]; rfl
  · exact Go.Maps.has_true_of_atKey (y := .held v) fun z => by rw [h, hg]; rfl
theorem Tells.nil : Tells (.map []) [] := fun _ _ => rfl
theorem Tells.put {D : DataW Value} {L : List (List UInt8 × Value)} (h : Tells D L) (hD : Go.Maps.IsMap D) (p : List UInt8) (v : Value) : Tells (D.put (.string p) (.held v)) (putR L p v) := fun q z => by
  rw [getR_put]
  by_cases hq : q = p
  · subst hq
    rw [if_pos rfl, Go.Maps.atKey_put_same hD (k := .string q) (show WideAt.IsKeyLit (.string q) from trivial)]
    rfl
  · rw [if_neg hq, Go.Maps.atKey_put_other (by simpa using hq), h]
theorem Tells.del {D : DataW Value} {L : List (List UInt8 × Value)} (h : Tells D L) (p : List UInt8) : Tells (D.del (.string p)) (withoutR L p) := fun q z => by
  rw [getR_without]
  by_cases hq : q = p
  · subst hq
    rw [if_pos rfl, Go.Maps.atKey_del_same]
    rfl
  · rw [if_neg hq, Go.Maps.atKey_del_other (by simpa using hq), h]

section
variable {P : Program} {K : TypeId} {w w' : World} {b : Nat} {L : List (List UInt8 × Value)}
/-- block b is a map of type K's keys that has what the row has -/
structure MapAt (w : World) (P : Program) (K : TypeId) (b : Nat) (L : List (List UInt8 × Value)) : Prop where
  sort : SortR L
  own : ∃ D, w.ownsMap P K heldR b L.length D ∧ Tells D L
  len : ∀ x ∈ L, x.1.length ≤ maxLen

theorem own_shrink {H : Type} {R : Value → Option (DataW H × List MemPlace)} {n : Nat} {D : DataW H} (h : w.ownsMap P K R b n D) : w.ownsMap P K R b (Go.Maps.size D) D := by
  obtain ⟨es, clock, hb, F, _, rfl⟩ := h
  exact ⟨es, clock, hb, F, by rw [Go.Maps.size_eq, length_sorted]; simp, rfl⟩
/-- what the datum has are the row's paths -/
theorem own_keys {n : Nat} {D : DataW Value} (h : w.ownsMap P K heldR b n D) (hk : P.underlying K = some .string) (ht : Tells D L) (hs : SortR L) : (keysR L).Perm (strKeys D) ∧ Go.Maps.size D = L.length := by
  have law : Keyed P K := string_keyed hk
  obtain ⟨es, hD, hpw, _⟩ := h.entries law
  obtain ⟨es', hD', hko⟩ := h.keysOf
  obtain rfl : es = es' := by rw [hD] at hD'; simpa using hD'
  have hp : (keysR L).Perm (strKeys D) := by
    rw [hD]
    refine perm_strKeys hpw (fun p hp => by obtain ⟨v, hv⟩ := hko p hp; obtain ⟨x, _, hx, _⟩ := Maps.keyOf_str hk hv; exact ⟨x, hx⟩) hs.nodup fun x => ?_
    rw [← hD, ht.has, getR_isSome]
  refine ⟨hp, ?_⟩
  have := hp.length_eq
  rw [keys_len] at this
  rw [this, hD]
  simp [Go.Maps.size, strKeys]
theorem MapAt.of {n : Nat} {D : DataW Value} (h : w.ownsMap P K heldR b n D) (hk : P.underlying K = some .string) (ht : Tells D L) (hs : SortR L) : MapAt w P K b L := by
  obtain ⟨hp, hz⟩ := own_keys h hk ht hs
  refine ⟨hs, ⟨D, by rw [← hz]; exact own_shrink h, ht⟩, fun x hx => strKeys_le h hk _ (hp.mem_iff.1 (List.mem_map.2 ⟨x, hx, rfl⟩))⟩
theorem MapAt.lt (h : MapAt w P K b L) : b < w.heap.size := by
  obtain ⟨D, h1, _⟩ := h.own
  exact h1.lt
theorem MapAt.kept {row : Option Nat} (h : MapAt w P K b L) (hg : w.grownBy w' row) (hne : some b ≠ row) : MapAt w' P K b L := by
  obtain ⟨D, h1, h2⟩ := h.own
  exact ⟨h.sort, ⟨D, h1.kept hg hne, h2⟩, h.len⟩
theorem MapAt.block (h : MapAt w P K b L) (hb : w'.heap[b]? = w.heap[b]?) : MapAt w' P K b L := by
  obtain ⟨D, ⟨es, clock, h1, r⟩, h2⟩ := h.own
  exact ⟨h.sort, ⟨D, ⟨es, clock, hb.trans h1, r⟩, h2⟩, h.len⟩
/-- a new one -/
theorem MapAt.made (w : World) (P : Program) (K : TypeId) : MapAt (w.alloc (.map #[] 0)) P K w.heap.size [] := ⟨sortR_nil, ⟨_, World.ownsMap_made w P K heldR, Tells.nil⟩, by simp⟩
theorem MapAt.not_cells (h : MapAt w P K b L) {cs : Array Value} {t : TypeId} {f : Nat × Nat} : w.heap[b]? ≠ some (.cells cs t f) := by
  obtain ⟨D, ⟨es, clock, h1, _⟩, _⟩ := h.own
  rw [h1]
  simp

/-- m[k] -/
theorem MapAt.look (h : MapAt w P K b L) (hk : P.underlying K = some .string) {t e : TypeId} (ht : P.underlying t = some (.map K e)) {z : Value} (hz : (zeroValue e).run P w = .ok z w) (p : List UInt8) (hp : p.length ≤ maxLen) :
    (Instr.lookup t (.map (some b)) (.string ⟨⟨p⟩⟩) false).run P w = .ok ((getR L p).getD z) w := by
  obtain ⟨D, h1, h2⟩ := h.own
  obtain ⟨v, ps, hrun, hv⟩ := h1.lookup (string_keyed hk) ht hz (zd := .held z) (zp := []) rfl (Go.WideMaps.keyOf_string_mk hk (s := ⟨⟨p⟩⟩) hp)
  rw [hrun]
  have : DataW.held v = D.atKey (.string p) (.held z) := by simpa [heldR] using congrArg (fun o => o.map Prod.fst) hv
  rw [h2] at this
  congr 1
  rcases hg : getR L p with _ | u
  · rw [hg] at this; simpa using this
  · rw [hg] at this; simpa using this
theorem MapAt.look_ok (h : MapAt w P K b L) (hk : P.underlying K = some .string) {t e : TypeId} (ht : P.underlying t = some (.map K e)) {z : Value} (hz : (zeroValue e).run P w = .ok z w) (p : List UInt8) (hp : p.length ≤ maxLen) :
    (Instr.lookup t (.map (some b)) (.string ⟨⟨p⟩⟩) true).run P w = .ok (.tuple #[(getR L p).getD z, .bool (getR L p).isSome]) w := by
  obtain ⟨D, h1, h2⟩ := h.own
  obtain ⟨v, ps, hrun, hv⟩ := h1.look_ok (string_keyed hk) ht hz (zd := .held z) (zp := []) rfl (Go.WideMaps.keyOf_string_mk hk (s := ⟨⟨p⟩⟩) hp)
  rw [h2.has p] at hrun
  rw [hrun]
  have : DataW.held v = D.atKey (.string p) (.held z) := by simpa [heldR] using congrArg (fun o => o.map Prod.fst) hv
  rw [h2] at this
  have e : v = (getR L p).getD z := by
    rcases hg : getR L p with _ | u
    · rw [hg] at this; simpa using this
    · rw [hg] at this; simpa using this
  rw [e]
/-- m[k] = v -/
theorem MapAt.store (h : MapAt w P K b L) (hk : P.underlying K = some .string) {t e : TypeId} (ht : P.underlying t = some (.map K e)) (p : List UInt8) (hp : p.length ≤ maxLen) (v : Value) (hn : L.length < maxLen) :
    ∃ w', (Instr.mapUpdate t (.map (some b)) (.string ⟨⟨p⟩⟩) v).run P w = .ok () w' ∧ MapAt w' P K b (putR L p v) ∧ w.grownBy w' (some b) ∧ w'.heap.size = w.heap.size := by
  obtain ⟨D, h1, h2⟩ := h.own
  obtain ⟨w', hrun, r1, r2⟩ := h1.store (string_keyed hk) ht hn (Go.WideMaps.keyOf_string_mk hk (s := ⟨⟨p⟩⟩) hp) (val := v) (d := .held v) (ps := []) rfl
  refine ⟨w', hrun, MapAt.of r1 hk (h2.put h1.isMap p v) (h.sort.put p v), r2.grown, ?_⟩
  obtain ⟨_, _, es', clock', _, rfl⟩ := r2
  simp [setBlock]
/-- delete(m, k) -/
theorem MapAt.drop (h : MapAt w P K b L) (hk : P.underlying K = some .string) {t e : TypeId} (ht : P.underlying t = some (.map K e)) (p : List UInt8) (hp : p.length ≤ maxLen) (ty : TypeId) :
    ∃ w', (Builtin.delete_ #[t, K] ty #[.map (some b), .string ⟨⟨p⟩⟩]).run P w = .ok (.tuple #[]) w' ∧ MapAt w' P K b (withoutR L p) ∧ w.grownBy w' (some b) ∧ w'.heap.size = w.heap.size := by
  obtain ⟨D, h1, h2⟩ := h.own
  obtain ⟨w', hrun, r1, r2⟩ := h1.drop (string_keyed hk) ht (Go.WideMaps.keyOf_string_mk hk (s := ⟨⟨p⟩⟩) hp) ty
  refine ⟨w', hrun, MapAt.of r1 hk (h2.del p) (h.sort.without p), r2.grown, ?_⟩
  obtain ⟨_, _, es', clock', _, rfl⟩ := r2
  simp [setBlock]
/-- len(m) -/
theorem MapAt.count (h : MapAt w P K b L) (hk : P.underlying K = some .string) {t e : TypeId} (ht : P.underlying t = some (.map K e)) (ty : TypeId) : (Builtin.len_ #[t] ty #[.map (some b)]).run P w = .ok (.int .i64 L.length) w := by
  obtain ⟨D, h1, h2⟩ := h.own
  rw [h1.len ht ty, (own_keys h1 hk h2 h.sort).2]

/-- 'for k, v := range m' under way: what has come, in the order in which it came; nothing of the row comes twice -/
structure Rng (w : World) (P : Program) (K : TypeId) (b r : Nat) (L : List (List UInt8 × Value)) (seen : List (List UInt8)) (cnt : Nat) : Prop where
  sort : SortR L
  rng : ∃ D left, w.ranges P K heldR b r L.length D left cnt ∧ Tells D L ∧ Collected D left seen
  len : ∀ x ∈ L, x.1.length ≤ maxLen
theorem Rng.at_ {r cnt : Nat} {seen : List (List UInt8)} (h : Rng w P K b r L seen cnt) : MapAt w P K b L := by
  obtain ⟨D, left, h1, h2, _⟩ := h.rng
  exact ⟨h.sort, ⟨D, h1.owns, h2⟩, h.len⟩
theorem Rng.left_eq {r cnt : Nat} {seen : List (List UInt8)} (h : Rng w P K b r L seen cnt) : w.rangeLeft b r = cnt := by
  obtain ⟨D, left, h1, _⟩ := h.rng
  exact h1.left_eq
theorem Rng.lt {r cnt : Nat} {seen : List (List UInt8)} (h : Rng w P K b r L seen cnt) : r < w.heap.size := by
  obtain ⟨D, left, h1, _⟩ := h.rng
  exact h1.lt
theorem Rng.kept {r cnt : Nat} {seen : List (List UInt8)} {row : Option Nat} (h : Rng w P K b r L seen cnt) (hg : w.grownBy w' row) (hb : some b ≠ row) (hr : some r ≠ row) : Rng w' P K b r L seen cnt := by
  obtain ⟨D, left, h1, h2, h3⟩ := h.rng
  exact ⟨h.sort, ⟨D, left, h1.kept hg hb hr, h2, h3⟩, h.len⟩
theorem MapAt.range (h : MapAt w P K b L) (hk : P.underlying K = some .string) {t e : TypeId} (ht : P.underlying t = some (.map K e)) :
    ∃ w', (Instr.range t (.map (some b))).run P w = .ok (.pointer (some ⟨w.heap.size, 0, none⟩)) w' ∧ Rng w' P K b w.heap.size L [] L.length ∧ w.grownBy w' none ∧ w'.heap.size = w.heap.size + 1 := by
  obtain ⟨D, h1, h2⟩ := h.own
  obtain ⟨w', hrun, r1, r2, r3⟩ := h1.range (string_keyed hk) ht
  rw [(own_keys h1 hk h2 h.sort).2] at r1
  exact ⟨w', hrun, ⟨h.sort, ⟨D, _, r1, h2, Collected.start D⟩, h.len⟩, r2, r3⟩
/-- the step: nothing is left, and all has come; or something comes -/
theorem Rng.next {r cnt : Nat} {seen : List (List UInt8)} (h : Rng w P K b r L seen cnt) (hk : P.underlying K = some .string) (ty : TypeId) :
    ((Instr.next (.pointer (some ⟨r, 0, none⟩)) false ty).run P w = .ok (.tuple #[.bool false]) w ∧ cnt = 0 ∧ seen.Nodup ∧ ∀ k, k ∈ seen ↔ k ∈ keysR L) ∨
    ∃ (p : List UInt8) (v : Value) (w' : World) (cnt' : Nat), (p, v) ∈ L ∧ p ∉ seen ∧ (Instr.next (.pointer (some ⟨r, 0, none⟩)) false ty).run P w = .ok (.tuple #[.bool true, .string ⟨⟨p⟩⟩, v]) w' ∧ Rng w' P K b r L (seen ++ [p]) cnt' ∧ cnt' < cnt ∧ w.grownBy w' (some r) ∧ w'.heap.size = w.heap.size ∧
      (Instr.entry (.pointer (some ⟨r, 0, none⟩))).run P w' = .ok (.tuple #[.string ⟨⟨p⟩⟩, v]) w' := by
  obtain ⟨D, left, h1, h2, h3⟩ := h.rng
  rcases h1.next (string_keyed hk) ty with ⟨h0, hl, hrun⟩ | ⟨key, v, kl, y, w', cnt', hkey, hlk, hv, hat, hrun, hrg, hlt, hgr, hsz, hen⟩
  · refine .inl ⟨hrun, h0, h3.1, fun k => ?_⟩
    rw [h3.2 k, h2.has, getR_isSome, hl]
    simp
  · obtain ⟨p, rfl, rfl, hp⟩ := Maps.keyOf_str hk hkey
    obtain rfl : (DataW.held v, []) = y := by simpa [heldR] using hv
    have hg : getR L p = some v := by
      have := hat .nil
      rw [h2] at this
      rcases hq : getR L p with _ | u
      · rw [hq] at this; simp at this
      · rw [hq] at this; simpa using this
    refine .inr ⟨p, v, w', cnt', getR_mem hg, fun hx => ?_, hrun, ⟨h.sort, ⟨D, _, hrg, h2, h3.step hlk hat⟩, h.len⟩, hlt, hgr, hsz, hen⟩
    have := ((h3.2 p).1 hx).2
    rw [hlk] at this
    cases this
end
end Go.Proofs.YtjcfphdjgagimaaGreatDoor

/- tenderref03: Under. -/
namespace Go.Proofs.YtjcfphdjgagimaaGreatDoor
open Go.RowKit

theorem refGood_yes (s : ByteArray) (hs : s.size ≤ 9223372036854775807) (h : goodB (tl s) = true) (w : World) : Calls Tryz.prog 50 #[.string s] w fun e w' => e = .returned (.bool true) ∧ Below w.heap.size w w' := by
  have := refGood_any s hs w
  rwa [h] at this
theorem refGood_no (s : ByteArray) (hs : s.size ≤ 9223372036854775807) (h : goodB (tl s) = false) (w : World) : Calls Tryz.prog 50 #[.string s] w fun e w' => e = .returned (.bool false) ∧ Below w.heap.size w w' := by
  have := refGood_any s hs w
  rwa [h] at this
/-- by parts -/
theorem preB_parts (p top : List UInt8) : preB p top = (decide ((cutL top).length < (cutL p).length) && ((cutL p).take (cutL top).length == cutL top)) := by
  rw [Bool.eq_iff_iff, preB_iff]
  simp only [Bool.and_eq_true, decide_eq_true_eq, beq_iff_eq]
  constructor
  · rintro ⟨T, hT, e⟩
    rw [e]
    have := List.length_pos_iff.2 hT
    exact ⟨by rw [List.length_append]; omega, List.take_left' rfl⟩
  · rintro ⟨h1, h2⟩
    refine ⟨(cutL p).drop (cutL top).length, fun e => ?_, ?_⟩
    · have := List.drop_eq_nil_iff.1 e
      omega
    · conv => lhs; rw [← List.take_append_drop (cutL top).length (cutL p), h2]

set_option maxRecDepth 100000 in
set_option maxHeartbeats 1000000 in
theorem refUnder_any (p top : ByteArray) (hp : p.size ≤ 9223372036854775807) (ht : top.size ≤ 9223372036854775807) (w : World) : Calls Tryz.prog 80 #[.string p, .string top] w fun e w' => e = .returned (.bool (underB (tl p) (tl top))) ∧ Below w.heap.size w w' := by
  obtain ⟨M, hM⟩ : ∃ M, M = underB (tl p) (tl top) := ⟨_, rfl⟩
  rw [← hM]
  cases gp : goodB (tl p)
  · have HP := Lib.hid (refGood_no p hp gp)
    have HM : Hid (M = false) := by show _ = _; rw [hM]; unfold underB; rw [gp]; rfl
    clear gp hM
    go_enter Tryz.func80, Tryz.ntmps80
    go_wp2_with fail
    refine (HP.out _).mono ?_
    rintro e w1 ⟨rfl, hb1⟩
    go_wp2_with fail
    go_ret
    exact ⟨ret_b HM.out.symm, hb1⟩
  have HP := Lib.hid (refGood_yes p hp gp)
  cases gt : goodB (tl top)
  · have HT := Lib.hid (refGood_no top ht gt)
    have HM : Hid (M = false) := by show _ = _; rw [hM]; unfold underB; rw [gp, gt]; rfl
    clear gp gt hM
    go_enter Tryz.func80, Tryz.ntmps80
    go_wp2_with fail
    refine (HP.out _).mono ?_
    rintro e w1 ⟨rfl, hb1⟩
    go_wp2_with fail
    refine (HT.out _).mono ?_
    rintro e w2 ⟨rfl, hb2⟩
    go_wp2_with fail
    go_ret
    exact ⟨ret_b HM.out.symm, bthen hb1 hb2⟩
  have HT := Lib.hid (refGood_yes top ht gt)
  have hp96 := goodB_len gp
  have ht96 := goodB_len gt
  rw [tl_len] at hp96 ht96
  have HM : Hid (M = (decide ((cutL (tl top)).length < (cutL (tl p)).length) && ((cutL (tl p)).take (cutL (tl top)).length == cutL (tl top)))) := by
    show _ = _; rw [hM]; unfold underB; rw [gp, gt, preB_parts]; rfl
  clear gp gt hM
  go_enter Tryz.func80, Tryz.ntmps80
  go_wp2_with fail
  refine (HP.out _).mono ?_
  rintro e w1 ⟨rfl, hb1⟩
  go_wp2_with fail
  refine (HT.out _).mono ?_
  rintro e w2 ⟨rfl, hb2⟩
  replace hb2 := bthen hb1 hb2
  go_wp2_with fail
  refine (refCut_any p (by omega) _).mono ?_
  rintro e w3 ⟨A, c, x, rfl, hx, hsx, hb3⟩
  replace hb3 := bthen hb2 hb3
  go_wp2_with fail
  refine (refCut_any top (by omega) _).mono ?_
  rintro e w4 ⟨A', c', y, rfl, hy, hsy, hb4⟩
  replace hsx := hsx.below hb4
  replace hb4 := bthen hb3 hb4
  have hxl : x.length ≤ 97 := by
    have := cutL_len (tl p)
    rw [hx.out]
    rw [tl_len] at this
    omega
  have hyl : y.length ≤ 97 := by
    have := cutL_len (tl top)
    rw [hy.out]
    rw [tl_len] at this
    omega
  have HR2 : Hid (M = (decide (y.length < x.length) && (x.take y.length == y))) := by show _ = _; rw [HM.out, hx.out, hy.out]
  clear HM hx hy hb1 hb2 hb3
  by_cases hle : x.length ≤ y.length
  · go_wp2_with fail
    go_ret
    refine ⟨ret_b ?_, hb4⟩
    rw [HR2.out, decide_eq_false (by omega)]; rfl
  · have hgt : (y.length : Int) < (x.length : Int) := by omega
    go_wp2_with fail
    go_loopw [7] (fun iv wr => ∃ i : Nat, i ≤ y.length ∧ iv = .int .i64 (i : Int) ∧ Hid (x.take i = y.take i) ∧ Qt w4 wr) (fun iv _ => y.length - (intOf iv).toNat)
    case atStart => exact ⟨0, Nat.zero_le _, rfl, rfl, Qt.refl _⟩
    case round =>
      obtain ⟨i, hi, rfl, hz, hq⟩ := hrel
      by_cases hlt : i < y.length
      · obtain ⟨xi, hxi⟩ : ∃ z, x[i]? = some z := ⟨_, List.getElem?_eq_getElem (by omega)⟩
        obtain ⟨yi, hyi⟩ : ∃ z, y[i]? = some z := ⟨_, List.getElem?_eq_getElem hlt⟩
        obtain ⟨g, off, rfl, hgb, hgl, hcell, hfz⟩ := (hsx.below hq.below).get hxi
        obtain ⟨g', off', rfl, hgb', hgl', hcell', hfz'⟩ := (hsy.below hq.below).get hyi
        have HN : Hid (xi = yi → x.take (i + 1) = y.take (i + 1)) := by
          intro e
          rw [List.take_add_one, List.take_add_one, hz.out, hxi, hyi, e]
        have HD : Hid (xi ≠ yi → M = false) := by
          intro hne
          rw [HR2.out, Bool.and_eq_false_iff]
          right
          rw [beq_eq_false_iff_ne]
          intro e
          have h1 : (x.take y.length)[i]? = x[i]? := by rw [List.getElem?_take, if_pos hlt]
          rw [e, hxi, hyi] at h1
          injection h1 with h1
          exact hne h1.symm
        have b1 : (i : Int) < (x.length : Int) := by omega
        clear hxi hyi hz hfz hfz'
        unfold stv at hcell hcell'
        by_cases hxy : xi = yi
        · have hn : (!xi == yi) = false := by simp [hxy]
          have HN2 := Lib.hid (HN.out hxy)
          clear HN HD hxy
          go_wp2_with fail
          go_quiet (fail)
          go_wp2_with fail
          go_roundw
          case rel => exact ⟨i + 1, hlt, by go_num, HN2.out, hq.trans ⟨_, rfl⟩⟩
          case measure => simp [intOf]; omega
        · have hn : (!xi == yi) = true := by simp [hxy]
          have HD2 := Lib.hid (HD.out hxy)
          clear HN HD hxy
          go_wp2_with fail
          go_quiet (fail)
          go_wp2_with fail
          go_ret
          exact ⟨ret_b HD2.out.symm, bthen hb4 (hq.trans ⟨_, rfl⟩).below⟩
      · go_wp2_with fail
        go_ret
        refine ⟨ret_b ?_, bthen hb4 hq.below⟩
        have e : i = y.length := by omega
        have h2 := hz.out
        rw [e, List.take_length] at h2
        rw [HR2.out, h2, decide_eq_true (by omega)]
        simp
end Go.Proofs.YtjcfphdjgagimaaGreatDoor
