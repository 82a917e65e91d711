/- canon.Read of a tree's own bytes. -/
import Derived.Test.YtjcfphdjgagimaaGreatDoorA07
import Derived.Lib.Hide
import Derived.Laws.BitsAllLaws
import Derived.IntWalk
import Derived.Deep.WholeRow
import Derived.Deep.Cut

namespace Go.Proofs.YtjcfphdjgagimaaGreatDoor
open Go.RowKit Go.Maps

/-- an eye and a tree -/
structure TrEye (w0 w : World) (eb : Nat) (L : List UInt8) (f : Int) (tb : Nat) (mo : Option Nat) (LL : List (List UInt8 × LV)) : Prop where
  e : ∃ A c, EyeAt w 107 eb (fun b => b < w0.heap.size) A c L f
  t : TreeAt w tb mo LL
  low : Below w0.heap.size w0 w
  he : w0.heap.size ≤ eb
  ht : w0.heap.size ≤ tb
  hm : ∀ m, mo = some m → w0.heap.size ≤ m
theorem TrEye.mem {w0 w w' : World} {eb : Nat} {L : List UInt8} {f : Int} {tb : Nat} {mo : Option Nat} {LL : List (List UInt8 × LV)} (h : TrEye w0 w eb L f tb mo LL) (k : Below w.heap.size w w') : TrEye w0 w' eb L f tb mo LL := by
  obtain ⟨⟨A, c, e⟩, b, l, h1, h2, h3⟩ := h
  exact ⟨⟨A, c, e.below k⟩, b.below k, l.trans (k.mono l.size), h1, h2, h3⟩
theorem TrEye.notT {w0 w : World} {eb : Nat} {L : List UInt8} {f : Int} {tb : Nat} {mo : Option Nat} {LL : List (List UInt8 × LV)} (h : TrEye w0 w eb L f tb mo LL) : ¬ (eb = tb ∨ mo = some eb) := by
  obtain ⟨⟨A, c, e⟩, b, l, h1, h2, h3⟩ := h
  rintro (e1 | e1)
  · exact e.1.ne_ b.blk (by decide) e1
  · rcases b.map with ⟨e0, _⟩ | ⟨mb, e0, hm⟩
    · rw [e0] at e1; cases e1
    · rw [e0] at e1
      injection e1 with e1
      subst e1
      exact hm.not_cells e.1
theorem TrEye.eye {w0 w w' : World} {eb : Nat} {L L' : List UInt8} {f f' : Int} {tb : Nat} {mo : Option Nat} {LL : List (List UInt8 × LV)} (h : TrEye w0 w eb L f tb mo LL) (k : EyeTo w 107 eb (fun b => b < w0.heap.size) L' f' w') : TrEye w0 w' eb L' f' tb mo LL := by
  have hn := h.notT
  obtain ⟨⟨A, c, e⟩, b, l, h1, h2, h3⟩ := h
  exact ⟨k.at_, b.fr k.fr (fun e => hn (.inl e.symm)) (fun m e1 e2 => hn (.inr (by rw [e1, e2]))) (fun x hx g hg e2 => by subst e2; exact e.1.own_ne (b.own x hx) (by decide) hg), l.trans (k.fr.below l.size (fun x _ e => by omega)), h1, h2, h3⟩
theorem TrEye.tree {w0 w w' : World} {eb : Nat} {L : List UInt8} {f : Int} {tb : Nat} {mo : Option Nat} {LL : List (List UInt8 × LV)} {T : List (List UInt8 × LP)} (h : TrEye w0 w eb L f tb mo LL) (k : TreeTo w tb mo T w') : ∃ mo' LL', TrEye w0 w' eb L f tb mo' LL' ∧ Hid (plainL LL' = T) := by
  have hn := h.notT
  obtain ⟨⟨A, c, e⟩, b, l, h1, h2, h3⟩ := h
  obtain ⟨⟨mo', L', hB, hL, hm⟩, hf⟩ := k
  refine ⟨mo', L', ⟨⟨A, c, e.fr hf hn (fun x hx hz hs => ?_)⟩, hB, l.trans (hf.below l.size (fun x hx hs => ?_)), h1, h2, fun m e => ?_⟩, hL⟩
  · rcases hs with hs | hs
    · have : x < w0.heap.size := hz; omega
    · have h4 := h3 _ hs; have : x < w0.heap.size := hz; omega
  · rcases hs with hs | hs
    · omega
    · have h4 := h3 _ hs; omega
  · rcases hm m e with h4 | h4
    · exact h3 m h4
    · have := l.size; omega
theorem itemsB_drop (T : List (List UInt8 × LP)) (i : Nat) (hi : i < T.length) : itemsB (T.drop i) = textB T[i].1 ++ (leafB T[i].2.1 T[i].2.2 ++ itemsB (T.drop (i + 1))) := by
  rw [List.drop_eq_getElem_cons hi]
  unfold itemsB
  rw [List.flatMap_cons, List.append_assoc]
theorem itemsB_part {T : List (List UInt8 × LP)} (h : TreeOk T) (i : Nat) : (itemsB (T.drop i)).length ≤ 700000 := by
  have h1 := itemsB_len (T.drop i) (fun x hx => ⟨(h.good x (List.mem_of_mem_drop hx)).1, (h.good x (List.mem_of_mem_drop hx)).2.2⟩)
  have h3 := h.len
  rw [List.length_drop] at h1
  omega

set_option maxRecDepth 100000 in
set_option maxHeartbeats 4000000 in
theorem canonRead_good (hS : SortsT) (A : Option Addr) (c : Nat) (l : List UInt8) (T : List (List UInt8 × LP)) (w : World) (hlT : Hid (l = canonB T)) (ht : TreeOk T) (hd : DirsOk T) (h : By w (fun b => b < w.heap.size) A l) (h1 : l.length ≤ c) (h2 : c ≤ maxLen) :
    Calls Tryz.prog 9 #[.slice A l.length c] w fun e w' => ∃ tb mo LL, e = .returned (.tuple #[.pointer (some ⟨tb, 0, none⟩), .int .i64 0]) ∧ TreeAt w' tb mo LL ∧ Hid (plainL LL = T) ∧ Below w.heap.size w w' := by
  have he1 := EyeAt.new w (T := 107) h h1 h2
  have hba : Below w.heap.size w (w.alloc (.cells #[.slice A l.length c, .int .i64 0] 107)) := (Below.refl _ _).alloc (Nat.le_refl _) _
  have hTl := ht.len
  have HZ : Hid (¬ (fun b => b < w.heap.size) w.heap.size) := Lib.hid (by simp)
  have HIN : Hid (intS l 0 128 = (T.length, itemsB (T.drop 0), 0)) := Lib.hid (by
    rw [hlT.out]
    unfold canonB
    rw [int_numB _ (by omega) (by omega), List.drop_zero])
  have HE1 := Lib.hid he1
  have HT := Lib.hid ht
  have HD := Lib.hid hd
  clear h he1 ht hd hlT
  go_enter Tryz.func9, Tryz.ntmps9
  go_wp2_with fail
  refine (open_any A c l.length w).mono ?_
  rintro e w1 ⟨rfl, rfl⟩
  generalize w.alloc (.cells #[.slice A l.length c, .int .i64 0] 107) = w1 at *
  have hbb : Below w1.heap.size w1 (w1.alloc (.cells #[.map none] 66)) := (Below.refl _ _).alloc (Nat.le_refl _) _
  have hK3 : TrEye w (w1.alloc (.cells #[.map none] 66)) w.heap.size l 0 w1.heap.size none [] := ⟨⟨A, c, HE1.out.below hbb⟩, TreeAt.new w1, hba.trans (hbb.mono hba.size), Nat.le_refl _, hba.size, by simp⟩
  obtain ⟨A3, c3, hA3⟩ := hK3.e
  have HIT := Lib.hid (int_any w.heap.size _ A3 c3 l 0 128 _ hA3 HZ.out (by decide))
  rw [HIN.out] at HIT
  have HK3 := Lib.hid hK3
  clear HE1 hbb hba hA3 hK3
  go_upto_region 4 with (fail)
  generalize w1.alloc (.cells #[.map none] 66) = w3 at *
  obtain ⟨tb, hbb⟩ : ∃ tb, tb = w1.heap.size := ⟨_, rfl⟩
  rw [← hbb] at HK3 ⊢
  clear hbb
  go_wp2_with fail
  refine HIT.out.mono ?_
  rintro e w4 ⟨rfl, ht4⟩
  have HK4 := Lib.hid (HK3.out.eye ht4)
  clear HIT ht4 HK3
  go_wp2_with fail
  go_loopw [6, 7] (fun lv iv wr => ∃ (m i : Nat) (last : ByteArray) (mo : Option Nat) (LL : List (List UInt8 × LV)), iv = .int .i64 (m : Int) ∧ lv = .string last ∧ i + m = T.length ∧ TrEye w wr w.heap.size (itemsB (T.drop i)) 0 tb mo LL ∧ Hid (plainL LL = T.take i) ∧ Hid (tl last = [] ∨ ∀ (hi : i < T.length), cmpT (tl last) T[i].1 < 0) ∧ (tl last).length ≤ 96) (fun _ iv _ => (intOf iv).toNat)
  case atStart => exact ⟨T.length, 0, ⟨#[]⟩, none, [], rfl, rfl, by omega, HK4.out, rfl, .inl rfl, by decide⟩
  case round =>
    obtain ⟨m, i, ⟨⟨lq⟩⟩, mo, LL, rfl, rfl, hm, hK, hpl, hlast, hlq⟩ := hrel
    replace hlq : lq.length ≤ 96 := hlq
    obtain ⟨A4, c4, hA4⟩ := hK.e
    have HFT := Lib.hid (fault_any w.heap.size _ A4 c4 (itemsB (T.drop i)) 0 wr hA4)
    have HKR := Lib.hid hK
    have helt := hA4.1.lt
    clear HK4
    by_cases hmf : 0 < m
    · obtain ⟨m, rfl⟩ : ∃ k, m = k + 1 := ⟨m - 1, by omega⟩
      have hi : i < T.length := by omega
      have hmay := build_may HT.out HD.out hi
      have hset := build_set HT.out HD.out hi
      rw [← hpl.out] at hmay hset
      have hdr := itemsB_drop T i hi
      have hRl := itemsB_part HT.out (i + 1)
      obtain ⟨hg1, hg2, hg3⟩ := HT.out.good _ (List.getElem_mem hi)
      have hgl := goodB_len hg1
      have hgn := checkN_small hg3
      have HNX : Hid (T[i].1 = [] ∨ ∀ (hj : i + 1 < T.length), cmpT T[i].1 T[i + 1].1 < 0) := Lib.hid (.inr fun hj => sort_at HT.out.sort hi hj (by omega))
      have hls := hlast.out
      replace hls : lq = [] ∨ cmpT lq T[i].1 < 0 := hls.imp id (fun h => h hi)
      generalize T[i] = y at hmay hset hdr hg1 hg2 hg3 hgl hgn HNX hls
      obtain ⟨pl, ky, ly⟩ := y
      dsimp only at hmay hset hdr hg1 hg2 hg3 hgl hgn hls
      obtain ⟨kn, rfl⟩ : ∃ kn : Nat, ky = (kn : Int) := ⟨ky.toNat, by rcases hg2 with e | e <;> rw [e] <;> rfl⟩
      have hkb : ((kn : Int) == 0) = false := by simp; omega
      have HLB : Hid (leafS (leafB (kn : Int) ly ++ itemsB (T.drop (i + 1))) 0 = (kn, ly, itemsB (T.drop (i + 1)), 0)) := Lib.hid (by
        rw [leafS_back]
        unfold backK backL
        rw [if_neg (by simpa using hg3), if_neg (by simpa using hg3), Int.toNat_natCast])
      obtain ⟨R, hR⟩ : ∃ R, R = itemsB (T.drop (i + 1)) := ⟨_, rfl⟩
      have HRR := Lib.hid hR
      rw [← hR] at hdr HLB hRl
      have HMAY := Lib.hid hmay
      have HSET := Lib.hid hset
      rw [hdr] at hA4 hK
      have hll := leafB_len (kn : Int) ly
      have htl : (textB pl).length ≤ 9 + pl.length := by unfold textB; rw [List.length_append]; have := numB_len pl.length; omega
      have HTX := Lib.hid (text_any w.heap.size _ A4 c4 _ 0 96 wr hA4 HZ.out (by decide) (by rw [List.length_append, List.length_append]; omega))
      rw [text_textB _ (by omega) (by omega)] at HTX
      have HLS := Lib.hid hls
      clear hmay hset hdr hg1 hg2 hg3 hlast hR hA4 hls
      go_wp2_with fail
      refine HFT.out.mono ?_
      rintro e wf ⟨rfl, rfl⟩
      go_wp2_with fail
      refine HTX.out.mono ?_
      rintro e w5 ⟨A2, c2, l2, rfl, hl2, ho2, ht5⟩
      have hK5 := hK.eye ht5
      have k1 := conv_by ho2.rd c2
      replace hl2 : Hid (l2 = pl) := hl2
      rw [hl2.out] at k1 ⊢
      obtain ⟨A6, c6, hA6⟩ := hK5.e
      have HRD := Lib.hid (leafRead_any w.heap.size _ A6 c6 (leafB (kn : Int) ly ++ R) 0 w5 hA6 HZ.out (by rw [List.length_append]; omega))
      rw [HLB.out] at HRD
      clear hK HTX HFT HKR ht5 hA6
      go_wp2_with fail
      refine HRD.out.mono ?_
      rintro e w6 ⟨A5, c5, l5, rfl, hl5, ho5, ht6⟩
      have hl5l : l5.length ≤ 140737488355328 := by rw [hl5.out]; omega
      replace hl5 : Hid (l5 = ly) := hl5
      have hK6 := hK5.eye ht6
      have hba : Below w6.heap.size w6 (w6.alloc (.cells #[.int .i64 (kn : Int), .slice A5 l5.length c5] 46)) := (Below.refl _ _).alloc (Nat.le_refl _) _
      have z7 := Blk.new w6 46 #[.int .i64 (kn : Int), .slice A5 l5.length c5]
      have HK7 := Lib.hid (hK6.mem hba)
      have HO7 := Lib.hid (ho5.below hba)
      have HY7 := Lib.hid HO7.out.rd
      clear hK5 hK6 ho5 ht6 HRD k1 ho2 hl2
      go_upto_region 10 with (fail)
      obtain ⟨xb, hxb⟩ : ∃ xb, xb = w6.heap.size := ⟨_, rfl⟩
      rw [← hxb] at z7 ⊢
      generalize w6.alloc (.cells #[.int .i64 (kn : Int), .slice A5 l5.length c5] 46) = w7 at *
      clear hba hxb
      have HMAY2 : Hid (mayS (plainL LL) pl ((kn : Int), l5) = 0) := Lib.hid (by rw [hl5.out]; exact HMAY.out)
      have HSET2 : Hid (setS (plainL LL) pl ((kn : Int), l5) = T.take (i + 1)) := Lib.hid (by rw [hl5.out]; exact HSET.out)
      obtain ⟨A7, c7, hA7⟩ := HK7.out.e
      have HFT7 := Lib.hid (fault_any w.heap.size _ A7 c7 R 0 w7 hA7)
      have hxl := z7.lt
      have q0 := z7.cell 0
      simp only [List.getElem?_toArray, List.getElem?_cons_zero] at q0
      clear hA7 HMAY HSET
      go_wp2_with fail
      refine HFT7.out.mono ?_
      rintro e wf ⟨rfl, rfl⟩
      by_cases hq : lq = []
      · subst hq
        clear HLS HFT7
        have HPT := Lib.hid (treeSet_any hS tb mo LL pl (kn : Int) A5 c5 l5 _ w7 HK7.out.t HY7.out (by omega) (by omega))
        rw [HMAY2.out, HSET2.out] at HPT
        have HBK := Lib.hid HK7.out
        have p0 := z7.cell 0
        have p1 := z7.cell 1
        simp only [List.getElem?_toArray, List.getElem?_cons_zero, List.getElem?_cons_succ] at p0 p1
        go_wp2_with fail
        refine HPT.out.mono ?_
        rintro e w9 ⟨rfl, hto⟩
        obtain ⟨mo', LL', hK9, hL9⟩ := HBK.out.tree hto
        obtain ⟨A9, c9, hA9⟩ := hK9.e
        have HFL := Lib.hid (fail_any w.heap.size _ A9 c9 R 0 0 w9 hA9)
        clear HPT hto p0 p1
        go_wp2_with fail
        refine HFL.out.mono ?_
        rintro e w10 ⟨rfl, ht10⟩
        have hK10 := hK9.eye ht10
        go_wp2_with fail
        go_roundw
        case rel => exact ⟨m, i + 1, ⟨⟨pl⟩⟩, mo', LL', by go_num, rfl, by omega, by rw [← HRR.out]; exact hK10, hL9, HNX.out, by show pl.length ≤ _; omega⟩
        case measure => simp [intOf]
      · have hcm : cmpT lq pl < 0 := by
          rcases HLS.out with e | e
          · exact absurd e hq
          · exact e
        have hqn : (lq != []) = true := by simpa using hq
        have hq3 : (lq == []) = false := by simpa using hq
        have HCP := Lib.hid (compare_any ⟨⟨lq⟩⟩ ⟨⟨pl⟩⟩ (by show lq.length ≤ _; omega) (by show pl.length ≤ _; omega) w7)
        rw [show cmpT (tl ⟨⟨lq⟩⟩) (tl ⟨⟨pl⟩⟩) = cmpT lq pl from rfl] at HCP
        clear HLS HFT7
        generalize cmpT lq pl = cm at *
        have hcd : decide (0 ≤ cm) = false := decide_eq_false (by omega)
        go_wp2_with fail
        refine HCP.out.mono ?_
        rintro e w8 ⟨rfl, hq8⟩
        have HK8 := Lib.hid (HK7.out.mem hq8.below)
        have z8 := z7.below hq8.below
        have HY8 := Lib.hid (HO7.out.below hq8.below).rd
        clear HCP q0 z7 HO7 HK7 HY7
        have HPT := Lib.hid (treeSet_any hS tb mo LL pl (kn : Int) A5 c5 l5 _ w8 HK8.out.t HY8.out (by omega) (by omega))
        rw [HMAY2.out, HSET2.out] at HPT
        have HBK := Lib.hid HK8.out
        have p0 := z8.cell 0
        have p1 := z8.cell 1
        simp only [List.getElem?_toArray, List.getElem?_cons_zero, List.getElem?_cons_succ] at p0 p1
        go_wp2_with fail
        refine HPT.out.mono ?_
        rintro e w9 ⟨rfl, hto⟩
        obtain ⟨mo', LL', hK9, hL9⟩ := HBK.out.tree hto
        obtain ⟨A9, c9, hA9⟩ := hK9.e
        have HFL := Lib.hid (fail_any w.heap.size _ A9 c9 R 0 0 w9 hA9)
        clear HPT hto p0 p1
        go_wp2_with fail
        refine HFL.out.mono ?_
        rintro e w10 ⟨rfl, ht10⟩
        have hK10 := hK9.eye ht10
        go_wp2_with fail
        go_roundw
        case rel => exact ⟨m, i + 1, ⟨⟨pl⟩⟩, mo', LL', by go_num, rfl, by omega, by rw [← HRR.out]; exact hK10, hL9, HNX.out, by show pl.length ≤ _; omega⟩
        case measure => simp [intOf]
    · obtain rfl : m = 0 := by omega
      obtain rfl : i = T.length := by omega
      have hnil : itemsB (T.drop T.length) = [] := by rw [List.drop_length]; rfl
      rw [hnil] at hA4 HKR
      rw [List.take_length] at hpl
      have HCL := Lib.hid (close_any w.heap.size _ A4 c4 [] 0 wr hA4)
      rw [show closeS [] 0 = 0 from rfl] at HCL
      clear hK hnil hA4 hlast
      go_wp2_with fail
      refine HCL.out.mono ?_
      rintro e wf ⟨rfl, rfl⟩
      go_wp2_with fail
      refine bodyPost_ret (v := .tuple #[.pointer (some ⟨tb, 0, none⟩), .int .i64 0]) (by simp [results, Tryz.results9, go_sem]) rfl ?_
      exact ⟨tb, mo, LL, rfl, HKR.out.t, hpl, HKR.out.low⟩

end Go.Proofs.YtjcfphdjgagimaaGreatDoor

/- SHA-256, plainly, and the ways in which it may be reckoned. No program. -/
namespace Go.Proofs.YtjcfphdjgagimaaGreatDoor

def W32 : Nat := 4294967296
/-- a word turned right -/
def rotr (x a : Nat) : Nat := x / 2 ^ a + x % 2 ^ a * 2 ^ (32 - a)
theorem rotr_lt {x a : Nat} (hx : x < W32) (ha : a ≤ 32) : rotr x a < W32 := by
  unfold rotr W32 at *
  have e : (2 : Nat) ^ a * 2 ^ (32 - a) = 4294967296 := by rw [← Nat.pow_add, show a + (32 - a) = 32 by omega]
  have hp : 0 < 2 ^ a := Nat.pow_pos (by decide)
  have h1 : x / 2 ^ a < 2 ^ (32 - a) := by rw [Nat.div_lt_iff_lt_mul hp, Nat.mul_comm, e]; exact hx
  have h2 : x % 2 ^ a + 1 ≤ 2 ^ a := Nat.mod_lt _ hp
  have h3 : (x % 2 ^ a + 1) * 2 ^ (32 - a) ≤ 2 ^ a * 2 ^ (32 - a) := Nat.mul_le_mul_right _ h2
  rw [e, Nat.succ_mul] at h3
  omega
/-- as the program turns it -/
theorem rotr_or {x a : Nat} (hx : x < W32) (h0 : 0 < a) (ha : a < 32) : (x <<< (32 - a)) % W32 ||| x >>> a = rotr x a := by
  unfold W32 at *
  rw [Nat.shiftLeft_eq, Nat.shiftRight_eq_div_pow]
  have e : (4294967296 : Nat) = 2 ^ a * 2 ^ (32 - a) := by rw [← Nat.pow_add, show a + (32 - a) = 32 by omega]
  have hp : 0 < 2 ^ a := Nat.pow_pos (by decide)
  have h1 : x / 2 ^ a < 2 ^ (32 - a) := by rw [Nat.div_lt_iff_lt_mul hp, Nat.mul_comm, ← e]; exact hx
  have h2 : x * 2 ^ (32 - a) % 4294967296 = x % 2 ^ a * 2 ^ (32 - a) := by rw [e, Nat.mul_mod_mul_right]
  rw [h2, Nat.mul_comm (x % 2 ^ a), ← Nat.two_pow_add_eq_or_of_lt h1]
  unfold rotr
  rw [Nat.mul_comm (x % 2 ^ a)]
  omega
def bigS0 (x : Nat) : Nat := rotr x 2 ^^^ rotr x 13 ^^^ rotr x 22
def bigS1 (x : Nat) : Nat := rotr x 6 ^^^ rotr x 11 ^^^ rotr x 25
def smS0 (x : Nat) : Nat := rotr x 7 ^^^ rotr x 18 ^^^ x / 8
def smS1 (x : Nat) : Nat := rotr x 17 ^^^ rotr x 19 ^^^ x / 1024
def chF (e f g : Nat) : Nat := (e &&& f) ^^^ ((4294967295 - e) &&& g)
def majF (a b c : Nat) : Nat := (a &&& b) ^^^ (a &&& c) ^^^ (b &&& c)
theorem xor_lt {a b : Nat} (ha : a < W32) (hb : b < W32) : a ^^^ b < W32 := Nat.xor_lt_two_pow (n := 32) ha hb
theorem and_lt {a b : Nat} (ha : a < W32) : a &&& b < W32 := Nat.lt_of_le_of_lt Nat.and_le_left ha
theorem not_bit {e i : Nat} (he : e < W32) : (4294967295 - e).testBit i = (decide (i < 32) && !e.testBit i) := by
  have := Nat.testBit_two_pow_sub_succ (x := e) (n := 32) he i
  rw [show (2 : Nat) ^ 32 - (e + 1) = 4294967295 - e by omega] at this
  exact this
/-- eight words -/
structure V8 where
  a : Nat
  b : Nat
  c : Nat
  d : Nat
  e : Nat
  f : Nat
  g : Nat
  h : Nat
def V8.l (v : V8) : List Nat := [v.a, v.b, v.c, v.d, v.e, v.f, v.g, v.h]
structure V8.ok (v : V8) : Prop where
  a : v.a < W32
  b : v.b < W32
  c : v.c < W32
  d : v.d < W32
  e : v.e < W32
  f : v.f < W32
  g : v.g < W32
  h : v.h < W32
def first8 : V8 := ⟨1779033703, 3144134277, 1013904242, 2773480762, 1359893119, 2600822924, 528734635, 1541459225⟩
def rootsK : List Nat := [
  1116352408, 1899447441, 3049323471, 3921009573, 961987163, 1508970993, 2453635748, 2870763221,
  3624381080, 310598401, 607225278, 1426881987, 1925078388, 2162078206, 2614888103, 3248222580,
  3835390401, 4022224774, 264347078, 604807628, 770255983, 1249150122, 1555081692, 1996064986,
  2554220882, 2821834349, 2952996808, 3210313671, 3336571891, 3584528711, 113926993, 338241895,
  666307205, 773529912, 1294757372, 1396182291, 1695183700, 1986661051, 2177026350, 2456956037,
  2730485921, 2820302411, 3259730800, 3345764771, 3516065817, 3600352804, 4094571909, 275423344,
  430227734, 506948616, 659060556, 883997877, 958139571, 1322822218, 1537002063, 1747873779,
  1955562222, 2024104815, 2227730452, 2361852424, 2428436474, 2756734187, 3204031479, 3329325298]
def rnd (v : V8) (k w : Nat) : V8 :=
  ⟨(v.h + bigS1 v.e + chF v.e v.f v.g + k + w + (bigS0 v.a + majF v.a v.b v.c)) % W32, v.a, v.b, v.c, (v.d + (v.h + bigS1 v.e + chF v.e v.f v.g + k + w)) % W32, v.e, v.f, v.g⟩
theorem rnd_ok {v : V8} (h : v.ok) (k w : Nat) : (rnd v k w).ok := ⟨Nat.mod_lt _ (by decide), h.a, h.b, h.c, Nat.mod_lt _ (by decide), h.e, h.f, h.g⟩
/-- four bytes as a word -/
def wordB (b : List UInt8) (i : Nat) : Nat := (((b.getD (4 * i) 0).toNat * 256 + (b.getD (4 * i + 1) 0).toNat) * 256 + (b.getD (4 * i + 2) 0).toNat) * 256 + (b.getD (4 * i + 3) 0).toNat
theorem wordB_lt (b : List UInt8) (i : Nat) : wordB b i < W32 := by
  unfold wordB W32
  have h0 := (b.getD (4 * i) 0).toNat_lt
  have h1 := (b.getD (4 * i + 1) 0).toNat_lt
  have h2 := (b.getD (4 * i + 2) 0).toNat_lt
  have h3 := (b.getD (4 * i + 3) 0).toNat_lt
  omega
/-- so many words of a block -/
def schedI (b : List UInt8) : Nat → List Nat
  | 0 => []
  | i + 1 => schedI b i ++ [if i < 16 then wordB b i else ((schedI b i).getD (i - 16) 0 + (schedI b i).getD (i - 7) 0 + smS0 ((schedI b i).getD (i - 15) 0) + smS1 ((schedI b i).getD (i - 2) 0)) % W32]
theorem schedI_len (b : List UInt8) : ∀ i, (schedI b i).length = i
  | 0 => rfl
  | i + 1 => by rw [schedI, List.length_append, schedI_len b i]; rfl
theorem schedI_lt (b : List UInt8) : ∀ i, ∀ x ∈ schedI b i, x < W32
  | 0, x, hx => by simp [schedI] at hx
  | i + 1, x, hx => by
    rw [schedI] at hx
    rcases List.mem_append.1 hx with hx | hx
    · exact schedI_lt b i x hx
    · rw [List.mem_singleton] at hx
      rw [hx]
      split
      · exact wordB_lt b i
      · exact Nat.mod_lt _ (by decide)
def schedW (b : List UInt8) : List Nat := schedI b 64
/-- so many rounds -/
def rounds (b : List UInt8) (v : V8) : Nat → V8
  | 0 => v
  | i + 1 => rnd (rounds b v i) (rootsK.getD i 0) ((schedW b).getD i 0)
theorem rounds_ok {b : List UInt8} {v : V8} (h : v.ok) : ∀ i, (rounds b v i).ok
  | 0 => h
  | i + 1 => rnd_ok (rounds_ok h i) _ _
def add8 (v u : V8) : V8 := ⟨(v.a + u.a) % W32, (v.b + u.b) % W32, (v.c + u.c) % W32, (v.d + u.d) % W32, (v.e + u.e) % W32, (v.f + u.f) % W32, (v.g + u.g) % W32, (v.h + u.h) % W32⟩
theorem add8_ok (v u : V8) : (add8 v u).ok := ⟨Nat.mod_lt _ (by decide), Nat.mod_lt _ (by decide), Nat.mod_lt _ (by decide), Nat.mod_lt _ (by decide), Nat.mod_lt _ (by decide), Nat.mod_lt _ (by decide), Nat.mod_lt _ (by decide), Nat.mod_lt _ (by decide)⟩
/-- a block taken -/
def compress (v : V8) (b : List UInt8) : V8 := add8 v (rounds b v 64)
theorem compress_ok (v : V8) (b : List UInt8) : (compress v b).ok := add8_ok _ _
def blocksN : Nat → V8 → List UInt8 → V8
  | 0, v, _ => v
  | n + 1, v, l => blocksN n (compress v (l.take 64)) (l.drop 64)
/-- all whole blocks taken -/
def hashed (l : List UInt8) : V8 := blocksN (l.length / 64) first8 l
theorem blocksN_ok : ∀ (n : Nat) {v : V8} (l : List UInt8), v.ok → (blocksN n v l).ok
  | 0, _, _, h => h
  | n + 1, _, _, _ => blocksN_ok n _ (compress_ok _ _)
theorem first_ok : first8.ok := ⟨by decide, by decide, by decide, by decide, by decide, by decide, by decide, by decide⟩
theorem hashed_ok (l : List UInt8) : (hashed l).ok := blocksN_ok _ _ first_ok
theorem blocksN_append : ∀ (n m : Nat) (v : V8) (A B : List UInt8), A.length = 64 * n → blocksN (n + m) v (A ++ B) = blocksN m (blocksN n v A) B
  | 0, m, v, A, B, h => by
    have : A = [] := List.eq_nil_of_length_eq_zero (by omega)
    rw [this, Nat.zero_add, List.nil_append]; rfl
  | n + 1, m, v, A, B, h => by
    rw [show n + 1 + m = (n + m) + 1 by omega, blocksN, blocksN, List.take_append_of_le_length (by omega), List.drop_append_of_le_length (by omega), blocksN_append n m _ _ _ (by rw [List.length_drop]; omega)]
theorem blocksN_take : ∀ (n : Nat) (v : V8) (l : List UInt8), blocksN n v l = blocksN n v (l.take (64 * n))
  | 0, _, _ => rfl
  | n + 1, v, l => by
    rw [blocksN, blocksN, List.take_take, Nat.min_eq_left (by omega), blocksN_take n, List.drop_take]
    congr 2
/-- one more whole block -/
theorem hashed_block {l b : List UInt8} {n : Nat} (hl : l.length = 64 * n) (hb : b.length = 64) : hashed (l ++ b) = compress (hashed l) b := by
  unfold hashed
  rw [List.length_append, hl, hb, show (64 * n + 64) / 64 = n + 1 by omega, blocksN_append n 1 _ _ _ hl, show 64 * n / 64 = n by omega]
  show compress _ (b.take 64) = _
  rw [List.take_of_length_le (by omega)]
/-- what is not a whole block yet is not taken -/
theorem hashed_rest {l r : List UInt8} {n : Nat} (hl : l.length = 64 * n) (hr : r.length < 64) : hashed (l ++ r) = hashed l := by
  unfold hashed
  rw [List.length_append, hl, show (64 * n + r.length) / 64 = n by omega, show 64 * n / 64 = n by omega, blocksN_take, ← hl, List.take_left]
end Go.Proofs.YtjcfphdjgagimaaGreatDoor

/- SHA-256: what is filled up, what comes out, what a hash has of what was written. Plain, no program. -/
namespace Go.Proofs.YtjcfphdjgagimaaGreatDoor

/-- a number as eight bytes -/
def eightB (n : Nat) : List UInt8 := (List.range 8).map fun i => UInt8.ofNat (n / 256 ^ (7 - i))
theorem eightB_len (n : Nat) : (eightB n).length = 8 := by simp [eightB]
def zerosN (n : Nat) : Nat := (119 - n % 64) % 64
def padS (l : List UInt8) : List UInt8 := l ++ [128] ++ List.replicate (zerosN l.length) 0 ++ eightB (8 * l.length)
/-- a word as four bytes -/
def wordS (x : Nat) : List UInt8 := [UInt8.ofNat (x / 16777216), UInt8.ofNat (x / 65536), UInt8.ofNat (x / 256), UInt8.ofNat x]
def digestS (v : V8) : List UInt8 := v.l.flatMap wordS
theorem digest_len (v : V8) : (digestS v).length = 32 := rfl
def shaS (l : List UInt8) : List UInt8 := digestS (hashed (padS l))
theorem sha_len (l : List UInt8) : (shaS l).length = 32 := rfl
/-- the words with the first ones taken off -/
def sub8 (v : V8) : V8 := ⟨(v.a + (W32 - first8.a)) % W32, (v.b + (W32 - first8.b)) % W32, (v.c + (W32 - first8.c)) % W32, (v.d + (W32 - first8.d)) % W32, (v.e + (W32 - first8.e)) % W32, (v.f + (W32 - first8.f)) % W32, (v.g + (W32 - first8.g)) % W32, (v.h + (W32 - first8.h)) % W32⟩
theorem sub8_back {v : V8} (h : v.ok) : add8 (sub8 v) first8 = v := by
  obtain ⟨a, b, c, d, e, f, g, i⟩ := v
  obtain ⟨h0, h1, h2, h3, h4, h5, h6, h7⟩ := h
  simp only [W32] at h0 h1 h2 h3 h4 h5 h6 h7
  simp only [add8, sub8, first8, W32, V8.mk.injEq]
  refine ⟨?_, ?_, ?_, ?_, ?_, ?_, ?_, ?_⟩ <;> omega
theorem sub8_add (v u : V8) : add8 (sub8 v) u = sub8 (add8 v u) := by
  obtain ⟨a, b, c, d, e, f, g, i⟩ := v
  obtain ⟨a', b', c', d', e', f', g', i'⟩ := u
  simp only [add8, sub8, first8, W32, V8.mk.injEq]
  refine ⟨?_, ?_, ?_, ?_, ?_, ?_, ?_, ?_⟩ <;> omega
theorem sub8_first : sub8 first8 = ⟨0, 0, 0, 0, 0, 0, 0, 0⟩ := rfl
/-- a block taken, the first words taken off -/
theorem sub8_mix {v : V8} (b : List UInt8) : add8 (sub8 v) (rounds b v 64) = sub8 (compress v b) := sub8_add v _
/-- what a hash has: whole blocks taken, the rest kept -/
structure HashOf (M : List UInt8) (s : V8) (part : List UInt8) : Prop where
  st : s = sub8 (hashed M)
  len : part.length = 64
  rest : part.take (M.length % 64) = M.drop (64 * (M.length / 64))
theorem HashOf.new : HashOf [] ⟨0, 0, 0, 0, 0, 0, 0, 0⟩ (List.replicate 64 0) := ⟨sub8_first.symm, by simp, by simp⟩
/-- some bytes more, not yet a block -/
theorem HashOf.some {M : List UInt8} {s : V8} {part b : List UInt8} (h : HashOf M s part) (hb : M.length % 64 + b.length < 64) : HashOf (M ++ b) s (part.take (M.length % 64) ++ b ++ part.drop (M.length % 64 + b.length)) := by
  have hl := h.len
  have e1 : M = M.take (64 * (M.length / 64)) ++ M.drop (64 * (M.length / 64)) := (List.take_append_drop _ _).symm
  have l1 : (M.take (64 * (M.length / 64))).length = 64 * (M.length / 64) := by rw [List.length_take]; omega
  have l2 : (M.drop (64 * (M.length / 64))).length = M.length % 64 := by rw [List.length_drop]; omega
  have e2 : (M ++ b).length % 64 = M.length % 64 + b.length := by rw [List.length_append]; omega
  have e3 : (M ++ b).length / 64 = M.length / 64 := by rw [List.length_append]; omega
  refine ⟨?_, ?_, ?_⟩
  · rw [h.st]
    congr 1
    conv => lhs; rw [e1]
    conv => rhs; rw [e1, List.append_assoc]
    rw [hashed_rest l1 (by rw [l2]; omega), hashed_rest l1 (by rw [List.length_append, l2]; omega)]
  · simp only [List.length_append, List.length_take, List.length_drop]; omega
  · rw [e2, e3, List.take_append_of_le_length (by simp only [List.length_append, List.length_take]; omega), List.take_of_length_le (by simp only [List.length_append, List.length_take]; omega), List.drop_append_of_le_length (by omega), h.rest]
/-- a block is full -/
theorem HashOf.full {M : List UInt8} {s : V8} {part b : List UInt8} (h : HashOf M s part) (hb : M.length % 64 + b.length = 64) : HashOf (M ++ b) (add8 s (rounds (part.take (M.length % 64) ++ b) (add8 s first8) 64)) (part.take (M.length % 64) ++ b) := by
  have hl := h.len
  have e1 : M = M.take (64 * (M.length / 64)) ++ M.drop (64 * (M.length / 64)) := (List.take_append_drop _ _).symm
  have l1 : (M.take (64 * (M.length / 64))).length = 64 * (M.length / 64) := by rw [List.length_take]; omega
  have l2 : (M.drop (64 * (M.length / 64))).length = M.length % 64 := by rw [List.length_drop]; omega
  have e2 : (M ++ b).length % 64 = 0 := by rw [List.length_append]; omega
  have hM : hashed M = hashed (M.take (64 * (M.length / 64))) := by
    conv => lhs; rw [e1]
    rw [hashed_rest l1 (by rw [l2]; omega)]
  refine ⟨?_, ?_, ?_⟩
  · rw [h.st, sub8_back (hashed_ok M), sub8_mix, h.rest]
    congr 1
    conv => rhs; rw [e1, List.append_assoc]
    rw [hashed_block l1 (by rw [List.length_append, l2]; omega), hM]
  · simp only [List.length_append, List.length_take]; omega
  · rw [e2, List.take_zero, List.drop_of_length_le (by omega)]
/-- the end: all is whole blocks -/
theorem HashOf.whole {M : List UInt8} {s : V8} {part : List UInt8} (h : HashOf (padS M) s part) : digestS (add8 s first8) = shaS M := by
  rw [h.st, sub8_back (hashed_ok _)]; rfl
end Go.Proofs.YtjcfphdjgagimaaGreatDoor

/- Drawn regions with two operations that make memory, neither of which waits for the other: both orders, and one continuation. No program. -/
namespace Go.Proofs.YtjcfphdjgagimaaGreatDoor
open Go.RowKit

section
variable {P : Program} {ops : Array Oper} {md : Region.Mode} {C : World → Prop}
end
end Go.Proofs.YtjcfphdjgagimaaGreatDoor

/- Drawn regions by a plan: operations that only tell, operations that are alone, and at forks either of two. No program. -/
namespace Go.Proofs.YtjcfphdjgagimaaGreatDoor
open Go.RowKit

inductive Plan where
  | done
  | tell (k : Nat) (p : Plan)
  | one (k : Nat) (p : Plan)
  | two (i : Nat) (p : Plan) (j : Nat) (q : Plan)
  | three (i : Nat) (p : Plan) (j : Nat) (q : Plan) (k : Nat) (r : Plan)
namespace Plan
def count : Plan → Nat
  | done => 0
  | tell _ p => p.count + 1
  | one _ p => p.count + 1
  | two _ p _ _ => p.count + 1
  | three _ p _ _ _ _ => p.count + 1
def ok (md : Region.Mode) (ops : Array Oper) (g m : Nat) : Plan → Array Bool → Bool
  | done, listed => Region.seqB md ops g m listed
  | tell k p, listed => decide (k < m) && (Region.ready md ops listed).contains k && Region.free md ops listed k && ok md ops g m p (listed.setIfInBounds k true)
  | one k p, listed => decide (k < m) && decide (Region.ready md ops listed = [k]) && ok md ops g m p (listed.setIfInBounds k true)
  | two i p j q, listed => decide (i < m) && decide (j < m) && decide (p.count = q.count) && decide (Region.ready md ops listed = [i, j]) && ok md ops g m p (listed.setIfInBounds i true) && ok md ops g m q (listed.setIfInBounds j true)
  | three i p j q k r, listed => decide (i < m) && decide (j < m) && decide (k < m) && decide (p.count = q.count) && decide (p.count = r.count) && decide (Region.ready md ops listed = [i, j, k]) && ok md ops g m p (listed.setIfInBounds i true) && ok md ops g m q (listed.setIfInBounds j true) && ok md ops g m r (listed.setIfInBounds k true)
end Plan
section
variable {P : Program} {ops : Array Oper} {md : Region.Mode} {C : World → Prop}
/-- an operation that is alone -/
def aloneP (P : Program) (ops : Array Oper) (o : Oper) (K : Act → World → Prop) (a : Act) (w : World) : Prop :=
  (Region.wanted o (yielded ops a.tmps) = true ∧ o.wp P a w K Qz) ∨ (Region.wanted o (yielded ops a.tmps) = false ∧ K (a.put o.dst undef) w)
def wpPlan (P : Program) (ops : Array Oper) (C : World → Prop) (E : Act → World → Prop) : Plan → Act → World → Prop
  | .done, a, w => C w ∧ E a w
  | .tell k p, a, w => ∃ o v, ops[k]? = some o ∧ StC P ops C o v a ∧ wpPlan P ops C E p (a.put o.dst v) w
  | .one k p, a, w => C w ∧ ∃ o, ops[k]? = some o ∧ aloneP P ops o (wpPlan P ops C E p) a w
  | .two i p j q, a, w => C w ∧ (∃ o, ops[i]? = some o ∧ aloneP P ops o (wpPlan P ops C E p) a w) ∧ (∃ o, ops[j]? = some o ∧ aloneP P ops o (wpPlan P ops C E q) a w)
  | .three i p j q k r, a, w => C w ∧ (∃ o, ops[i]? = some o ∧ aloneP P ops o (wpPlan P ops C E p) a w) ∧ (∃ o, ops[j]? = some o ∧ aloneP P ops o (wpPlan P ops C E q) a w) ∧ (∃ o, ops[k]? = some o ∧ aloneP P ops o (wpPlan P ops C E r) a w)
/-- nobody looks into it -/
structure PlanW (P : Program) (ops : Array Oper) (C : World → Prop) (E : Act → World → Prop) (p : Plan) (a : Act) (w : World) : Prop where
  go : wpPlan P ops C E p a w
theorem aloneP.wpOp {i : Nat} {o : Oper} {K K' : Act → World → Prop} {a : Act} {w : World} (hi : ops[i]? = some o) (hK : ∀ a' w', K a' w' → K' a' w') (h : aloneP P ops o K a w) : wpOp P ops Qz i K' a w := by
  unfold Go.wpOp
  simp only [hi]
  rcases h with ⟨hw, h⟩ | ⟨hw, h⟩
  · simp only [hw, if_true]
    exact .inl (Oper.wp_mono hK h)
  · simp only [hw, Bool.false_eq_true, if_false]
    exact hK _ _ h
theorem plan_any {m g : Nat} {Lq : Act → World → Prop} (hsel : ∀ (j : Nat) (o : Oper) cs b, ops[j]? = some o → o.op ≠ .select cs b) (hT : TailWaitsB md ops m) :
    ∀ (p : Plan) (listed : Array Bool) (a : Act) (w : World), HeadInv md ops m listed → p.ok md ops g m listed = true → wpPlan P ops C Lq p a w →
    wpAnyT P md ops C m (fun listed' a' w' => Region.seqB md ops g m listed' = true ∧ Lq a' w') p.count listed a w
  | .done, listed, a, w, _, hB, h => ⟨h.1, seqB_ready hB, hB, h.2⟩
  | .tell k p, listed, a, w, inv, hB, h => by
    simp only [Plan.ok, Bool.and_eq_true, decide_eq_true_eq] at hB
    obtain ⟨⟨⟨hkm, hr⟩, hf⟩, hB'⟩ := hB
    have hr' : k ∈ Region.ready md ops listed := by simpa using hr
    obtain ⟨o, v, h0, hy, h'⟩ := h
    exact wpAnyT_first h0 hkm hsel hT _ listed a w inv (Region.free_spec h0 hf) hr' hy (plan_any hsel hT p _ _ w (inv.set hr' hkm) hB' h')
  | .one k p, listed, a, w, inv, hB, h => by
    simp only [Plan.ok, Bool.and_eq_true, decide_eq_true_eq] at hB
    obtain ⟨⟨hkm, hr⟩, hB'⟩ := hB
    obtain ⟨hc, o, h0, h'⟩ := h
    refine ⟨hc, fun h1 => (by rw [hr] at h1; cases h1), fun i hi => ?_⟩
    have hi' := hi
    rw [hr] at hi
    obtain rfl : i = k := by simpa using hi
    exact ⟨hkm, h'.wpOp h0 fun a' w' h2 => plan_any hsel hT p _ a' w' (inv.set hi' hkm) hB' h2⟩
  | .two i p j q, listed, a, w, inv, hB, h => by
    simp only [Plan.ok, Bool.and_eq_true, decide_eq_true_eq] at hB
    obtain ⟨⟨⟨⟨⟨him, hjm⟩, hpq⟩, hr⟩, hp⟩, hq⟩ := hB
    obtain ⟨hc, ⟨oi, h0, h1⟩, ⟨oj, h2, h3⟩⟩ := h
    refine ⟨hc, fun h1 => (by rw [hr] at h1; cases h1), fun x hx => ?_⟩
    have hx' := hx
    rw [hr] at hx
    rcases List.mem_cons.1 hx with rfl | hx
    · exact ⟨him, h1.wpOp h0 fun a' w' h => plan_any hsel hT p _ a' w' (inv.set hx' him) hp h⟩
    · obtain rfl := List.mem_singleton.1 hx
      exact ⟨hjm, h3.wpOp h2 fun a' w' h => by
        have := plan_any hsel hT q _ a' w' (inv.set hx' hjm) hq h
        rw [hpq]
        exact this⟩
  | .three i p j q k r, listed, a, w, inv, hB, h => by
    simp only [Plan.ok, Bool.and_eq_true, decide_eq_true_eq] at hB
    obtain ⟨⟨⟨⟨⟨⟨⟨⟨him, hjm⟩, hkm⟩, hpq⟩, hpr⟩, hr⟩, hp⟩, hq⟩, hrr⟩ := hB
    obtain ⟨hc, ⟨oi, h0, h1⟩, ⟨oj, h2, h3⟩, ⟨ok, h4, h5⟩⟩ := h
    refine ⟨hc, fun h1 => (by rw [hr] at h1; cases h1), fun x hx => ?_⟩
    have hx' := hx
    rw [hr] at hx
    rcases List.mem_cons.1 hx with rfl | hx
    · exact ⟨him, h1.wpOp h0 fun a' w' h => plan_any hsel hT p _ a' w' (inv.set hx' him) hp h⟩
    · rcases List.mem_cons.1 hx with rfl | hx
      · exact ⟨hjm, h3.wpOp h2 fun a' w' h => by
          have := plan_any hsel hT q _ a' w' (inv.set hx' hjm) hq h
          rw [hpq]
          exact this⟩
      · obtain rfl := List.mem_singleton.1 hx
        exact ⟨hkm, h5.wpOp h4 fun a' w' h => by
          have := plan_any hsel hT r _ a' w' (inv.set hx' hkm) hrr h
          rw [hpr]
          exact this⟩
/-- the first operations by a plan, the rest one behind the other -/
theorem wp_region_plan {id : Nat} {Q : Exit → Act → World → Prop} {a : Act} {w : World} {l : List Oper} (p : Plan) (C : World → Prop) (E : Act → World → Prop) (hm : P.follows .mixedOrders = true)
    (hB : (tailOkB l.toArray p.count && p.ok .any l.toArray (l.toArray.size - p.count) p.count (Array.replicate l.toArray.size false)) = true)
    (h : PlanW P l.toArray C E p a w.drew) (hE : ∀ a' w', E a' w' → wpList P l.toArray Q (l.drop p.count) a' w') : (Code.region id l.toArray true).wp P Q a w := by
  rw [Bool.and_eq_true] at hB
  obtain ⟨hok, hlex⟩ := hB
  obtain ⟨hsel, hnl, hT⟩ := tailOkB_spec hok
  have hdl : (l.drop p.count).length = l.toArray.size - p.count := by simp
  have H := plan_any (P := P) (md := .any) (m := p.count) (g := l.toArray.size - p.count) (Region.noSelect_spec hsel) hT p _ a w.drew (inv_new p.count) hlex h.go
  refine wp_region_any hm ?_
  have := wpAny_of_T (Q := Q) (g := l.toArray.size - p.count) (fun listed a' w' hL => by
    have := wpAny_of_seq (md := .any) (Q' := Q) (l.drop p.count) p.count listed a' w' (fun j => by simp [List.getElem?_drop]) (by rw [hdl]; exact hL.1) (hE _ _ hL.2)
    rwa [hdl] at this) _ _ _ _ H
  rw [show p.count + (l.toArray.size - p.count) = l.toArray.size by simp at hnl ⊢; omega] at this
  exact this
variable {E : Act → World → Prop} {p q : Plan} {o : Oper} {a : Act} {w : World}
theorem pl_val {k : Nat} (h0 : ops[k]? = some o) (hw : Region.wanted o (yielded ops a.tmps) = true) (h : ∃ v, (∀ w, C w → (execOp a.eval o).run P w = .ok (.value v) w) ∧ ∃ a', a.put o.dst v = a' ∧ PlanW P ops C E p a' w) : PlanW P ops C E (.tell k p) a w := by
  obtain ⟨v, hv, a', ha, h⟩ := h
  exact ⟨o, v, h0, .inl ⟨hw, hv⟩, by rw [ha]; exact h.go⟩
theorem aloneP.mono {o : Oper} {K K' : Act → World → Prop} {a : Act} {w : World} (hK : ∀ a w, K a w → K' a w) (h : aloneP P ops o K a w) : aloneP P ops o K' a w :=
  h.imp (fun h => ⟨h.1, Oper.wp_mono hK h.2⟩) (fun h => ⟨h.1, hK _ _ h.2⟩)
/-- a plan without forks: what is behind it is walked on -/
theorem wp_region_line {id : Nat} {Q : Exit → Act → World → Prop} {a : Act} {w : World} {l : List Oper} (p : Plan) (C : World → Prop) (hm : P.follows .mixedOrders = true)
    (hB : (tailOkB l.toArray p.count && p.ok .any l.toArray (l.toArray.size - p.count) p.count (Array.replicate l.toArray.size false)) = true)
    (h : PlanW P l.toArray C (fun a' w' => wpList P l.toArray Q (l.drop p.count) a' w') p a w.drew) : (Code.region id l.toArray true).wp P Q a w := wp_region_plan p C _ hm hB h (fun _ _ h => h)
theorem pl_end (hc : C w) (h : E a w) : PlanW P ops C E .done a w := ⟨hc, h⟩
end
end Go.Proofs.YtjcfphdjgagimaaGreatDoor

/- sha: words turned right: bits.RotateLeft32, turn, small. -/
namespace Go.Proofs.YtjcfphdjgagimaaGreatDoor
open Go.RowKit

def u32v (n : Nat) : Value := .int .u32 (n : Int)
theorem wrap_u32 (n : Nat) : IntKind.u32.wrap (n : Int) = ((n % W32 : Nat) : Int) := by
  unfold W32
  simp [IntKind.wrap, IntKind.bits, IntKind.signed]
theorem rot_any (x a : Nat) (hx : x < W32) (h0 : 0 < a) (ha : a < 32) (w : World) : Calls Tryz.prog 103 #[.int .u32 (x : Int), .int .i64 (-(a : Int))] w fun e w' => e = .returned (.int .u32 (rotr x a : Int)) ∧ w = w' := by
  have hx' : x < 4294967296 := hx
  have hr := rotr_or hx h0 ha
  have hrl := rotr_lt hx (by omega : a ≤ 32)
  obtain ⟨s, hs⟩ : ∃ s, s = 32 - a := ⟨_, rfl⟩
  have hs32 : s < 32 := by omega
  have hc : IntKind.u64.wrap (-(a : Int)) = ((18446744073709551616 - a : Nat) : Int) := by
    simp [IntKind.wrap, IntKind.bits, IntKind.signed]
    omega
  have hand : bits .and .u64 ((18446744073709551616 - a : Nat) : Int) 31 = (s : Int) := by
    have := u64_and_nat (18446744073709551616 - a) 31 (by omega) (by decide)
    have h2 : (18446744073709551616 - a) &&& 31 = s := by
      have := Nat.and_two_pow_sub_one_eq_mod (18446744073709551616 - a) 5
      rw [show 2 ^ 5 - 1 = 31 from rfl] at this
      rw [this]; omega
    rw [h2] at this
    exact this
  have hsub : IntKind.u64.wrap ((32 : Int) - (s : Int)) = (a : Int) := by
    simp [IntKind.wrap, IntKind.bits, IntKind.signed]
    omega
  have hshl : IntKind.u32.wrap ((x : Int) * 2 ^ s) = ((x <<< s % W32 : Nat) : Int) := by
    have : ((x : Int) * 2 ^ s) = ((x <<< s : Nat) : Int) := by rw [Nat.shiftLeft_eq]; simp
    rw [this, wrap_u32]
  have hshr : (x : Int) / 2 ^ a = ((x >>> a : Nat) : Int) := by rw [Nat.shiftRight_eq_div_pow]; simp
  have hor : bits .or .u32 ((x <<< s % W32 : Nat) : Int) ((x >>> a : Nat) : Int) = (rotr x a : Int) := by
    have h1 : x <<< s % W32 < 4294967296 := Nat.mod_lt _ (by decide)
    have h2 : x >>> a < 4294967296 := by rw [Nat.shiftRight_eq_div_pow]; exact Nat.lt_of_le_of_lt (Nat.div_le_self _ _) hx
    rw [u32_or_nat _ _ h1 h2, hs, hr]
  generalize x <<< s % W32 = p at *
  generalize x >>> a = q at *
  generalize 18446744073709551616 - a = m at *
  clear hr hs
  go_enter Tryz.func103, Tryz.ntmps103
  go_wp2_with fail
  go_ret
  exact ⟨rfl, rfl⟩
theorem xor_u32 {a b : Nat} (ha : a < W32) (hb : b < W32) : bits .xor .u32 (a : Int) (b : Int) = ((a ^^^ b : Nat) : Int) := u32_xor_nat a b ha hb
theorem neg_wrap (a : Nat) (h : a < 32) : IntKind.i64.wrap (-(a : Int)) = -(a : Int) := IntWalk.i64_in _ ⟨by omega, by omega⟩
theorem turn_any (x a b c : Nat) (hx : x < W32) (ha : 0 < a ∧ a < 32) (hb : 0 < b ∧ b < 32) (hc : 0 < c ∧ c < 32) (w : World) : Calls Tryz.prog 90 #[.int .u32 (x : Int), .int .i64 (a : Int), .int .i64 (b : Int), .int .i64 (c : Int)] w fun e w' => e = .returned (.int .u32 ((rotr x a ^^^ rotr x b ^^^ rotr x c : Nat) : Int)) ∧ w = w' := by
  have na := neg_wrap a ha.2
  have nb := neg_wrap b hb.2
  have nc := neg_wrap c hc.2
  have ra := rot_any x a hx ha.1 ha.2
  have rb := rot_any x b hx hb.1 hb.2
  have rc := rot_any x c hx hc.1 hc.2
  have la := rotr_lt hx (by omega : a ≤ 32)
  have lb := rotr_lt hx (by omega : b ≤ 32)
  have lc := rotr_lt hx (by omega : c ≤ 32)
  generalize rotr x a = p at *
  generalize rotr x b = q at *
  generalize rotr x c = r at *
  have x1 := xor_u32 la lb
  have x2 := xor_u32 (xor_lt la lb) lc
  generalize p ^^^ q = s at *
  generalize s ^^^ r = t at *
  have RA := Lib.hid ra
  have RB := Lib.hid rb
  have RC := Lib.hid rc
  clear ra rb rc hx
  go_enter Tryz.func90, Tryz.ntmps90
  go_wp2_with fail
  refine (RA.out w).mono ?_
  rintro e w1 ⟨rfl, rfl⟩
  go_wp2_with fail
  refine (RB.out w).mono ?_
  rintro e w1 ⟨rfl, rfl⟩
  go_wp2_with fail
  refine (RC.out w).mono ?_
  rintro e w1 ⟨rfl, rfl⟩
  go_wp2_with fail
  go_ret
  exact ⟨rfl, rfl⟩

theorem small_any (x a b m : Nat) (hx : x < W32) (ha : 0 < a ∧ a < 32) (hb : 0 < b ∧ b < 32) (hm : m < 32) (w : World) : Calls Tryz.prog 102 #[.int .u32 (x : Int), .int .i64 (a : Int), .int .i64 (b : Int), .int .i64 (m : Int)] w fun e w' => e = .returned (.int .u32 ((rotr x a ^^^ rotr x b ^^^ x / 2 ^ m : Nat) : Int)) ∧ Below w.heap.size w w' := by
  have na := neg_wrap a ha.2
  have nb := neg_wrap b hb.2
  have ra := rot_any x a hx ha.1 ha.2
  have rb := rot_any x b hx hb.1 hb.2
  have la := rotr_lt hx (by omega : a ≤ 32)
  have lb := rotr_lt hx (by omega : b ≤ 32)
  have lc : x / 2 ^ m < W32 := Nat.lt_of_le_of_lt (Nat.div_le_self _ _) hx
  have hsh : (x : Int) / 2 ^ m = ((x / 2 ^ m : Nat) : Int) := by simp
  generalize rotr x a = p at *
  generalize rotr x b = q at *
  generalize x / 2 ^ m = r at *
  have x1 := xor_u32 la lb
  have x2 := xor_u32 (xor_lt la lb) lc
  generalize p ^^^ q = s at *
  generalize s ^^^ r = t at *
  have RA := Lib.hid ra
  have RB := Lib.hid rb
  have hm0 : ¬ (m : Int) < 0 := by omega
  clear ra rb hx
  go_enter Tryz.func102, Tryz.ntmps102
  go_wp2_with fail
  refine wp_region_p [(0, true), (1, true), (2, true), (4, true), (5, true), (6, true), (9, true), (10, true), (11, true), (3, false), (7, false), (8, true), (12, true)] (fun W => Below w.heap.size w W) (by kernel_rfl) (by kernel_rfl) ?_
  simp only [List.map_cons, List.map_nil, List.filterMap_cons, List.filterMap_nil, List.getElem?_cons_zero, List.getElem?_cons_succ, List.length_cons, List.length_nil, Nat.zero_add, Nat.reduceAdd, List.drop_succ_cons, List.drop_zero]
  refine mx_move _ (by kernel_rfl) rfl ⟨_, (by ((try simp [go_sem]); (try rfl); done)), _, (by (simp only [Act.put, List.setIfInBounds_toArray, List.set_cons_zero, List.set_cons_succ]; rfl)), ?_⟩
  refine mx_move _ (by kernel_rfl) rfl ⟨_, (by ((try simp [go_sem]); (try rfl); done)), _, (by (simp only [Act.put, List.setIfInBounds_toArray, List.set_cons_zero, List.set_cons_succ]; rfl)), ?_⟩
  refine mx_val (by kernel_rfl) ⟨_, (by (intro w' hC; clear hC; (try go_simp); (try with_reducible rfl); done)), _, (by (simp only [Act.put, List.setIfInBounds_toArray, List.set_cons_zero, List.set_cons_succ]; rfl)), ?_⟩
  refine mx_move _ (by kernel_rfl) rfl ⟨_, (by ((try simp [go_sem]); (try rfl); done)), _, (by (simp only [Act.put, List.setIfInBounds_toArray, List.set_cons_zero, List.set_cons_succ]; rfl)), ?_⟩
  refine mx_move _ (by kernel_rfl) rfl ⟨_, (by ((try simp [go_sem]); (try rfl); done)), _, (by (simp only [Act.put, List.setIfInBounds_toArray, List.set_cons_zero, List.set_cons_succ]; rfl)), ?_⟩
  refine mx_val (by kernel_rfl) ⟨_, (by (intro w' hC; clear hC; (try go_simp); (try with_reducible rfl); done)), _, (by (simp only [Act.put, List.setIfInBounds_toArray, List.set_cons_zero, List.set_cons_succ]; rfl)), ?_⟩
  refine mx_move _ (by kernel_rfl) rfl ⟨_, (by ((try simp [go_sem]); (try rfl); done)), _, (by (simp only [Act.put, List.setIfInBounds_toArray, List.set_cons_zero, List.set_cons_succ]; rfl)), ?_⟩
  refine mx_move _ (by kernel_rfl) rfl ⟨_, (by ((try simp [go_sem]); (try rfl); done)), _, (by (simp only [Act.put, List.setIfInBounds_toArray, List.set_cons_zero, List.set_cons_succ]; rfl)), ?_⟩
  refine mx_val (by kernel_rfl) ⟨_, (by (intro w' hC; clear hC; (try go_simp); (try with_reducible rfl); done)), _, (by (simp only [Act.put, List.setIfInBounds_toArray, List.set_cons_zero, List.set_cons_succ]; rfl)), ?_⟩
  refine mx_call ((Below.refl _ _).drew) (by kernel_rfl) ?_ (RA.out _) ?_
  · (go_simp; done)
  rintro e w1 ⟨rfl, rfl⟩
  refine ⟨_, rfl, _, (by (simp only [Act.put, List.setIfInBounds_toArray, List.set_cons_zero, List.set_cons_succ]; rfl)), ?_⟩
  refine mx_call ((Below.refl _ _).drew) (by kernel_rfl) ?_ (RB.out _) ?_
  · (go_simp; done)
  rintro e w1 ⟨rfl, rfl⟩
  refine ⟨_, rfl, _, (by (simp only [Act.put, List.setIfInBounds_toArray, List.set_cons_zero, List.set_cons_succ]; rfl)), ?_⟩
  refine mx_val (by kernel_rfl) ⟨_, (by (intro w' hC; clear hC; (try go_simp); (try with_reducible rfl); done)), _, (by (simp only [Act.put, List.setIfInBounds_toArray, List.set_cons_zero, List.set_cons_succ]; rfl)), ?_⟩
  refine mx_val (by kernel_rfl) ⟨_, (by (intro w' hC; clear hC; (try go_simp); (try with_reducible rfl); done)), _, (by (simp only [Act.put, List.setIfInBounds_toArray, List.set_cons_zero, List.set_cons_succ]; rfl)), ?_⟩
  refine mx_end ((Below.refl _ _).drew) ?_
  go_wp2_with fail
  go_ret
  exact ⟨rfl, (Below.refl _ _).drew⟩

end Go.Proofs.YtjcfphdjgagimaaGreatDoor

/- sha: all words of a block. -/
namespace Go.Proofs.YtjcfphdjgagimaaGreatDoor
open Go.RowKit

theorem Blk.setRow {w : World} {g : Nat} {t : TypeId} {cs : Array Value} (h : Blk w g t cs) (cs' : Array Value) : Blk (w.setRow g cs') g t cs' := setRow_heap w g _ _ t (0, 0) h
theorem Fr.setRow {S : Nat → Prop} {a b : World} (h : Fr S a b) (g : Nat) (hg : S g) (cs : Array Value) : Fr S a (b.setRow g cs) :=
  ⟨h.os, h.tape, h.output, by rw [setRow_size]; exact h.size, fun k hk hn => by rw [setRow_other b g k cs (fun e => hn (e ▸ hg))]; exact h.block k hk hn⟩
theorem words_one (L : List Nat) : ((L.map u32v).toArray).all (·.oneCell') = true := by
  rw [List.all_toArray, List.all_eq_true]
  intro x hx
  obtain ⟨n, _, rfl⟩ := List.mem_map.1 hx
  rfl
theorem words_cell {w : World} {g : Nat} {t : TypeId} {L : List Nat} (h : Blk w g t (L.map u32v).toArray) {i : Nat} (hi : i < L.length) : w.cell? ⟨g, i, none⟩ = some (.int .u32 ((L.getD i 0 : Nat) : Int)) := by
  rw [h.cell, List.getElem?_toArray, List.getElem?_map, List.getElem?_eq_getElem hi, List.getD_eq_getElem?_getD, List.getElem?_eq_getElem hi]
  rfl
theorem words_set {w : World} {g : Nat} {t : TypeId} {L : List Nat} (h : Blk w g t (L.map u32v).toArray) (i x : Nat) : Blk (w.setCell ⟨g, i, none⟩ (.int .u32 (x : Int))) g t ((L.set i x).map u32v).toArray := by
  have := h.set_ i (u32v x)
  rw [List.setIfInBounds_toArray, ← List.map_set] at this
  exact this
/-- so many bytes of a word -/
def wordP (b : List UInt8) (i : Nat) : Nat → Nat
  | 0 => 0
  | k + 1 => wordP b i k * 256 + (b.getD (4 * i + k) 0).toNat
theorem wordP_lt (b : List UInt8) (i : Nat) : ∀ k, wordP b i k < 256 ^ k
  | 0 => by simp [wordP]
  | k + 1 => by
    have h1 := wordP_lt b i k
    have h2 := (b.getD (4 * i + k) 0).toNat_lt
    rw [wordP, Nat.pow_succ]
    omega
theorem wordP_all (b : List UInt8) (i : Nat) : wordP b i 4 = wordB b i := by
  unfold wordB
  simp only [wordP, Nat.zero_mul, Nat.zero_add, Nat.add_zero]
theorem or_low {x b : Nat} (hb : b < 256) : x * 256 ||| b = x * 256 + b := by
  have := Nat.shiftLeft_add_eq_or_of_lt (i := 8) (b := b) (by omega) x
  rw [Nat.shiftLeft_eq] at this
  exact this.symm
theorem bytes_slice (g o c q : Nat) (n : Nat) (W : World) (hq : q + 4 ≤ c) : (Instr.slice 29 (.slice (some ⟨g, o, none⟩) n c) (some (.int .i64 (q : Int))) (some (.int .i64 ((q + 4 : Nat) : Int))) none).run Tryz.prog W = .ok (.slice (some ⟨g, o + q, none⟩) 4 (c - q)) W := by
  rw [run_slice_lh W 29 (some ⟨g, o, none⟩) n c (by kernel_rfl) .i64 .i64 (q : Int) ((q + 4 : Nat) : Int) (by omega) (by omega) (by omega)]
  rw [show (sizeOf (Tryz.prog.elem 29)).run Tryz.prog W = .ok 1 W by kernel_rfl]
  simp only [Result.andThen, sliced, Int.toNat_natCast]
  rw [if_neg (by omega), Option.map_some, add_none, Nat.mul_one, show q + 4 - q = 4 by omega]
theorem small7 (x : Nat) (hx : x < W32) (w : World) : Calls Tryz.prog 102 #[.int .u32 (x : Int), .int .i64 7, .int .i64 18, .int .i64 3] w fun e w' => e = .returned (.int .u32 ((smS0 x : Nat) : Int)) ∧ Below w.heap.size w w' := small_any x 7 18 3 hx (by omega) (by omega) (by omega) w
theorem small17 (x : Nat) (hx : x < W32) (w : World) : Calls Tryz.prog 102 #[.int .u32 (x : Int), .int .i64 17, .int .i64 19, .int .i64 10] w fun e w' => e = .returned (.int .u32 ((smS1 x : Nat) : Int)) ∧ Below w.heap.size w w' := small_any x 17 19 10 hx (by omega) (by omega) (by omega) w
theorem sched_lt_at (b : List UInt8) (n i : Nat) : (schedI b n).getD i 0 < W32 := by
  rw [List.getD_eq_getElem?_getD]
  rcases h : (schedI b n)[i]? with _ | x
  · simp [W32]
  · exact schedI_lt b n x (List.mem_of_getElem? h)
theorem take_at {L M : List Nat} {n i : Nat} (h : L.take n = M) (hi : i < n) : L.getD i 0 = M.getD i 0 := by
  rw [← h, List.getD_eq_getElem?_getD, List.getD_eq_getElem?_getD, List.getElem?_take, if_pos hi]
theorem take_step {L : List Nat} {n x : Nat} (hn : n < L.length) : (L.set n x).take (n + 1) = L.take n ++ [x] := by
  rw [List.take_succ_eq_append_getElem (by rw [List.length_set]; exact hn), List.getElem_set_self, List.take_set_of_le (Nat.le_refl _)]

set_option maxRecDepth 100000 in
set_option maxHeartbeats 4000000 in
theorem spread_any (A : Option Addr) (c : Nat) (b : List UInt8) (Z : Nat → Prop) (w : World) (h : By w Z A b) (hb : b.length = 64) (hc : 64 ≤ c) (hc2 : c ≤ maxLen) :
    Calls Tryz.prog 89 #[.slice A 64 c] w fun e w' => e = .returned (.agg ((schedW b).map u32v).toArray) ∧ Below w.heap.size w w' := by
  obtain ⟨R, hR⟩ : ∃ R : List Nat, R = schedW b := ⟨_, rfl⟩
  rw [← hR]
  have HR := Lib.hid hR
  obtain ⟨ab, ao, hA, _, hab⟩ := h.some_of (by omega)
  subst hA
  have x0 : Blk (w.alloc (.cells #[.int .u32 0, .int .u32 0, .int .u32 0, .int .u32 0, .int .u32 0, .int .u32 0, .int .u32 0, .int .u32 0, .int .u32 0, .int .u32 0, .int .u32 0, .int .u32 0, .int .u32 0, .int .u32 0, .int .u32 0, .int .u32 0, .int .u32 0, .int .u32 0, .int .u32 0, .int .u32 0, .int .u32 0, .int .u32 0, .int .u32 0, .int .u32 0, .int .u32 0, .int .u32 0, .int .u32 0, .int .u32 0, .int .u32 0, .int .u32 0, .int .u32 0, .int .u32 0, .int .u32 0, .int .u32 0, .int .u32 0, .int .u32 0, .int .u32 0, .int .u32 0, .int .u32 0, .int .u32 0, .int .u32 0, .int .u32 0, .int .u32 0, .int .u32 0, .int .u32 0, .int .u32 0, .int .u32 0, .int .u32 0, .int .u32 0, .int .u32 0, .int .u32 0, .int .u32 0, .int .u32 0, .int .u32 0, .int .u32 0, .int .u32 0, .int .u32 0, .int .u32 0, .int .u32 0, .int .u32 0, .int .u32 0, .int .u32 0, .int .u32 0, .int .u32 0] 127)) w.heap.size 127 (((List.replicate 64 0).map u32v).toArray) := Blk.new w 127 #[.int .u32 0, .int .u32 0, .int .u32 0, .int .u32 0, .int .u32 0, .int .u32 0, .int .u32 0, .int .u32 0, .int .u32 0, .int .u32 0, .int .u32 0, .int .u32 0, .int .u32 0, .int .u32 0, .int .u32 0, .int .u32 0, .int .u32 0, .int .u32 0, .int .u32 0, .int .u32 0, .int .u32 0, .int .u32 0, .int .u32 0, .int .u32 0, .int .u32 0, .int .u32 0, .int .u32 0, .int .u32 0, .int .u32 0, .int .u32 0, .int .u32 0, .int .u32 0, .int .u32 0, .int .u32 0, .int .u32 0, .int .u32 0, .int .u32 0, .int .u32 0, .int .u32 0, .int .u32 0, .int .u32 0, .int .u32 0, .int .u32 0, .int .u32 0, .int .u32 0, .int .u32 0, .int .u32 0, .int .u32 0, .int .u32 0, .int .u32 0, .int .u32 0, .int .u32 0, .int .u32 0, .int .u32 0, .int .u32 0, .int .u32 0, .int .u32 0, .int .u32 0, .int .u32 0, .int .u32 0, .int .u32 0, .int .u32 0, .int .u32 0, .int .u32 0]
  have hw1 : Below w.heap.size w (w.alloc (.cells #[.int .u32 0, .int .u32 0, .int .u32 0, .int .u32 0, .int .u32 0, .int .u32 0, .int .u32 0, .int .u32 0, .int .u32 0, .int .u32 0, .int .u32 0, .int .u32 0, .int .u32 0, .int .u32 0, .int .u32 0, .int .u32 0, .int .u32 0, .int .u32 0, .int .u32 0, .int .u32 0, .int .u32 0, .int .u32 0, .int .u32 0, .int .u32 0, .int .u32 0, .int .u32 0, .int .u32 0, .int .u32 0, .int .u32 0, .int .u32 0, .int .u32 0, .int .u32 0, .int .u32 0, .int .u32 0, .int .u32 0, .int .u32 0, .int .u32 0, .int .u32 0, .int .u32 0, .int .u32 0, .int .u32 0, .int .u32 0, .int .u32 0, .int .u32 0, .int .u32 0, .int .u32 0, .int .u32 0, .int .u32 0, .int .u32 0, .int .u32 0, .int .u32 0, .int .u32 0, .int .u32 0, .int .u32 0, .int .u32 0, .int .u32 0, .int .u32 0, .int .u32 0, .int .u32 0, .int .u32 0, .int .u32 0, .int .u32 0, .int .u32 0, .int .u32 0] 127)) := (Below.refl _ _).alloc (Nat.le_refl _) _
  have HH := Lib.hid h
  have HB64 := Lib.hid hb
  have hmx : maxLen = 9223372036854775807 := rfl
  rw [hmx] at hc2
  obtain ⟨g, hg⟩ : ∃ g, g = w.heap.size := ⟨_, rfl⟩
  rw [← hg] at x0
  have hag : ab ≠ g := by omega
  clear h hR hb
  go_enter Tryz.func89, Tryz.ntmps89
  go_upto_region 1 with (fail)
  rw [← hg]
  generalize (w.alloc (.cells #[.int .u32 0, .int .u32 0, .int .u32 0, .int .u32 0, .int .u32 0, .int .u32 0, .int .u32 0, .int .u32 0, .int .u32 0, .int .u32 0, .int .u32 0, .int .u32 0, .int .u32 0, .int .u32 0, .int .u32 0, .int .u32 0, .int .u32 0, .int .u32 0, .int .u32 0, .int .u32 0, .int .u32 0, .int .u32 0, .int .u32 0, .int .u32 0, .int .u32 0, .int .u32 0, .int .u32 0, .int .u32 0, .int .u32 0, .int .u32 0, .int .u32 0, .int .u32 0, .int .u32 0, .int .u32 0, .int .u32 0, .int .u32 0, .int .u32 0, .int .u32 0, .int .u32 0, .int .u32 0, .int .u32 0, .int .u32 0, .int .u32 0, .int .u32 0, .int .u32 0, .int .u32 0, .int .u32 0, .int .u32 0, .int .u32 0, .int .u32 0, .int .u32 0, .int .u32 0, .int .u32 0, .int .u32 0, .int .u32 0, .int .u32 0, .int .u32 0, .int .u32 0, .int .u32 0, .int .u32 0, .int .u32 0, .int .u32 0, .int .u32 0, .int .u32 0] 127)) = w1 at *
  have hgw : w.heap.size ≤ g := by omega
  have hg1 : g < w1.heap.size := x0.lt
  clear hg hmx
  have hfb : ∀ wr, Fr (fun x => x = g) w1 wr → Below w.heap.size w wr := fun wr hf => hw1.trans (hf.below (B := w.heap.size) hw1.size (fun k hk e => by omega))
  have HFB := Lib.hid hfb
  clear hfb
  go_wp2_with fail
  go_loopw [7] (fun iv wr => ∃ (i : Nat) (L : List Nat), i ≤ 16 ∧ iv = .int .i64 (i : Int) ∧ Blk wr g 127 (L.map u32v).toArray ∧ L.length = 64 ∧ Hid (L.take i = schedI b i) ∧ Hid (∀ j, i ≤ j → j < 64 → L.getD j 0 = 0) ∧ Fr (fun x => x = g) w1 wr) (fun iv _ => 16 - (intOf iv).toNat)
  case atStart => exact ⟨0, List.replicate 64 0, Nat.zero_le _, rfl, x0, rfl, Lib.hid rfl, Lib.hid (fun j _ hj => by rw [List.getD_eq_getElem?_getD, List.getElem?_replicate, if_pos hj]; rfl), Fr.refl _ _⟩
  case round =>
    obtain ⟨i, L, hi, rfl, hB, hL, hT, hZ, hf⟩ := hrel
    by_cases hlt : i < 16
    · have hlti : (i : Int) < 16 := by omega
      obtain ⟨q, hq⟩ : ∃ q, q = 4 * i := ⟨_, rfl⟩
      have hw4 : IntKind.i64.wrap (4 * (i : Int)) = (q : Int) := by rw [IntWalk.i64_in _ ⟨by omega, by omega⟩]; omega
      have hw5 : IntKind.i64.wrap ((q : Int) + 4) = ((q + 4 : Nat) : Int) := by rw [IntWalk.i64_in _ ⟨by omega, by omega⟩]; omega
      have hsl := fun W => bytes_slice ab ao c q 64 W (by omega)
      have HQ := Lib.hid hq
      have hq60 : q ≤ 60 := by omega
      have HT := Lib.hid (show ∀ x, ((L.set i x).take (i + 1)) = schedI b i ++ [x] from fun x => by rw [take_step (by omega), hT.out])
      have HZ := Lib.hid (show ∀ x j, i + 1 ≤ j → j < 64 → (L.set i x).getD j 0 = 0 from fun x j h1 h2 => by
        rw [List.getD_eq_getElem?_getD, List.getElem?_set_ne (by omega), ← List.getD_eq_getElem?_getD]
        exact hZ.out j (by omega) h2)
      have hL0 : L.set i 0 = L := by
        apply List.ext_getElem?
        intro j
        by_cases hj : j = i
        · subst hj
          rw [List.getElem?_set_self (by omega)]
          have := hZ.out j (Nat.le_refl _) (by omega)
          rw [List.getD_eq_getElem?_getD, List.getElem?_eq_getElem (by omega)] at this
          rw [List.getElem?_eq_getElem (by omega)]
          exact congrArg some this.symm
        · rw [List.getElem?_set_ne (fun e => hj e.symm)]
      have HL0 : Hid (Blk wr g 127 ((L.set i 0).map u32v).toArray) := Lib.hid (by rw [hL0]; exact hB)
      have HF := Lib.hid hf
      have HLL := Lib.hid hL
      have hi64 : i < 64 := by omega
      clear hq hT hZ hL0 hB hf hL
      push_cast at hsl hw5
      go_wp2_with fail
      rename World => wo
      go_loopw [18] (fun kv wr => ∃ (k x : Nat), k ≤ 4 ∧ kv = .int .i64 (k : Int) ∧ Blk wr g 127 ((L.set i x).map u32v).toArray ∧ Hid (x = wordP b i k) ∧ Fr (fun x => x = g) w1 wr) (fun kv _ => 4 - (intOf kv).toNat)
      case atStart => exact ⟨0, 0, Nat.zero_le _, rfl, HL0.out, Lib.hid rfl, HF.out⟩
      case round =>
        obtain ⟨k, x, hk, rfl, hB, hx, hf⟩ := hrel
        have hwr := HFB.out wr hf
        by_cases hk4 : k < 4
        · have hx24 : x < 16777216 := by
            rw [hx.out]
            have := wordP_lt b i k
            have h2 : 256 ^ k ≤ 256 ^ 3 := Nat.pow_le_pow_right (by omega) (by omega)
            omega
          have hby := HH.out.below hwr
          obtain ⟨g', o', e9, _, hgl, cb⟩ := Rd.atm (k := q + k) hby (by have := HB64.out; omega)
          injection e9 with e9
          injection e9 with e9 e10
          subst e9 e10
          obtain ⟨bt, hbt⟩ : ∃ bt, bt = b.getD (4 * i + k) 0 := ⟨_, rfl⟩
          have hbt2 : b[q + k]'(by have := HB64.out; omega) = bt := by rw [hbt, ← HQ.out, List.getD_eq_getElem?_getD, List.getElem?_eq_getElem (by have := HB64.out; omega)]; rfl
          rw [hbt2] at cb
          have cb' : wr.cell? ⟨ab, ao + q + k, none⟩ = some (.int .u8 (bt.toNat : Int)) := by rw [Nat.add_assoc]; exact cb
          have hb8 := bt.toNat_lt
          have cw := words_cell hB (i := i) (by rw [List.length_set, HLL.out]; exact hi64)
          have hgx : (L.set i x).getD i 0 = x := by rw [List.getD_eq_getElem?_getD, List.getElem?_set_self (by rw [HLL.out]; exact hi64)]; rfl
          rw [hgx] at cw
          obtain ⟨y, hy⟩ : ∃ y, y = x * 256 := ⟨_, rfl⟩
          obtain ⟨z, hz⟩ : ∃ z, z = y + bt.toNat := ⟨_, rfl⟩
          have hsh : IntKind.u32.wrap ((x : Int) * 256) = (y : Int) := by
            rw [show ((x : Int) * 256) = ((y : Nat) : Int) by omega, wrap_u32, Nat.mod_eq_of_lt (by unfold W32; omega)]
          have hcv : IntKind.u32.wrap (bt.toNat : Int) = (bt.toNat : Int) := by rw [wrap_u32, Nat.mod_eq_of_lt (by unfold W32; omega)]
          have hor : bits .or .u32 (y : Int) (bt.toNat : Int) = (z : Int) := by
            rw [u32_or_nat y bt.toNat (by omega) (by omega), hz, hy, or_low (by omega)]
          have HZX : Hid (z = wordP b i (k + 1)) := Lib.hid (by rw [wordP, ← hx.out, ← hbt, hz, hy])
          have hst := words_set hB i z
          rw [List.set_set] at hst
          have kf : Fr (fun x => x = g) wr (wr.setCell ⟨g, i, none⟩ (.int .u32 (z : Int))) := (Fr.refl (fun x => x = g) wr).setAt g i rfl _
          have hf2 := hf.trans kf (fun _ _ e => e)
          have fz := hB.frozen i
          have HST := Lib.hid hst
          have hk4i : (k : Int) < 4 := by omega
          clear hgx hbt hbt2 cb hby hx hst kf hB
          have hy2 := Lib.hid hy
          have hz2 := Lib.hid hz
          clear hy hz
          go_wp2_with fail
          go_roundw
          case rel => exact ⟨k + 1, z, hk4, by go_num, HST.out, HZX, hf2⟩
          case measure => simp [intOf]; omega
        · obtain rfl : k = 4 := by omega
          have hx4 : Hid (x = wordB b i) := Lib.hid (by rw [hx.out, wordP_all])
          have HLE : Hid ((L.set i x).length = 64) := Lib.hid (by rw [List.length_set, HLL.out])
          have HTT : Hid ((L.set i x).take (i + 1) = schedI b (i + 1)) := Lib.hid (by
            rw [HT.out, schedI, if_pos hlt, ← hx4.out])
          clear hx hk
          go_wp2_with fail
          go_roundw
          case rel => exact ⟨i + 1, L.set i x, hlt, by go_num, hB, HLE.out, HTT, Lib.hid (HZ.out x), hf⟩
          case measure => simp [intOf]; omega
    · obtain rfl : i = 16 := by omega
      clear hZ hlt hi
      go_wp2_with fail
      rename World => wo
      go_loopw [6] (fun iv wr => ∃ (i : Nat) (L : List Nat), 16 ≤ i ∧ i ≤ 64 ∧ iv = .int .i64 (i : Int) ∧ Blk wr g 127 (L.map u32v).toArray ∧ L.length = 64 ∧ Hid (L.take i = schedI b i) ∧ Fr (fun x => x = g) w1 wr) (fun iv _ => 64 - (intOf iv).toNat)
      case atStart => exact ⟨16, L, Nat.le_refl _, by omega, rfl, hB, hL, hT, hf⟩
      case round =>
        clear hB hL hT hf
        obtain ⟨i, L, h16, hi, rfl, hB, hL, hT, hf⟩ := hrel
        have hwr := HFB.out wr hf
        by_cases hlt : i < 64
        · have hlti : (i : Int) < 64 := by omega
          obtain ⟨i16, hi16⟩ : ∃ i16, i16 = i - 16 := ⟨_, rfl⟩
          have hw16 : IntKind.i64.wrap ((i : Int) - 16) = (i16 : Int) := by rw [IntWalk.i64_in _ ⟨by omega, by omega⟩]; omega
          have b16 : (i16 : Int) < 64 := by omega
          have n16 : i16 < 64 := by omega
          obtain ⟨p16, hp16⟩ : ∃ p, p = (schedI b i).getD i16 0 := ⟨_, rfl⟩
          have l16 : p16 < W32 := by rw [hp16]; exact sched_lt_at b i i16
          have Hi16 : Hid (L.getD i16 0 = p16) := Lib.hid (by rw [hp16]; exact take_at hT.out (by omega))
          obtain ⟨i7, hi7⟩ : ∃ i7, i7 = i - 7 := ⟨_, rfl⟩
          have hw7 : IntKind.i64.wrap ((i : Int) - 7) = (i7 : Int) := by rw [IntWalk.i64_in _ ⟨by omega, by omega⟩]; omega
          have b7 : (i7 : Int) < 64 := by omega
          have n7 : i7 < 64 := by omega
          obtain ⟨p7, hp7⟩ : ∃ p, p = (schedI b i).getD i7 0 := ⟨_, rfl⟩
          have l7 : p7 < W32 := by rw [hp7]; exact sched_lt_at b i i7
          have Hi7 : Hid (L.getD i7 0 = p7) := Lib.hid (by rw [hp7]; exact take_at hT.out (by omega))
          obtain ⟨i15, hi15⟩ : ∃ i15, i15 = i - 15 := ⟨_, rfl⟩
          have hw15 : IntKind.i64.wrap ((i : Int) - 15) = (i15 : Int) := by rw [IntWalk.i64_in _ ⟨by omega, by omega⟩]; omega
          have b15 : (i15 : Int) < 64 := by omega
          have n15 : i15 < 64 := by omega
          obtain ⟨p15, hp15⟩ : ∃ p, p = (schedI b i).getD i15 0 := ⟨_, rfl⟩
          have l15 : p15 < W32 := by rw [hp15]; exact sched_lt_at b i i15
          have Hi15 : Hid (L.getD i15 0 = p15) := Lib.hid (by rw [hp15]; exact take_at hT.out (by omega))
          obtain ⟨i2, hi2⟩ : ∃ i2, i2 = i - 2 := ⟨_, rfl⟩
          have hw2 : IntKind.i64.wrap ((i : Int) - 2) = (i2 : Int) := by rw [IntWalk.i64_in _ ⟨by omega, by omega⟩]; omega
          have b2 : (i2 : Int) < 64 := by omega
          have n2 : i2 < 64 := by omega
          obtain ⟨p2, hp2⟩ : ∃ p, p = (schedI b i).getD i2 0 := ⟨_, rfl⟩
          have l2 : p2 < W32 := by rw [hp2]; exact sched_lt_at b i i2
          have Hi2 : Hid (L.getD i2 0 = p2) := Lib.hid (by rw [hp2]; exact take_at hT.out (by omega))
          obtain ⟨m1, hm1⟩ : ∃ m, m = smS0 p15 := ⟨_, rfl⟩
          obtain ⟨m2, hm2⟩ : ∃ m, m = smS1 p2 := ⟨_, rfl⟩
          have HM1 := Lib.hid (fun W => small7 p15 l15 W)
          have HM2 := Lib.hid (fun W => small17 p2 l2 W)
          rw [← hm1] at HM1
          rw [← hm2] at HM2
          obtain ⟨s1, hs1⟩ : ∃ s, s = (p16 + p7) % W32 := ⟨_, rfl⟩
          obtain ⟨s2, hs2⟩ : ∃ s, s = (s1 + m1) % W32 := ⟨_, rfl⟩
          obtain ⟨s3, hs3⟩ : ∃ s, s = (s2 + m2) % W32 := ⟨_, rfl⟩
          have ha1 : IntKind.u32.wrap ((p16 : Int) + (p7 : Int)) = (s1 : Int) := by rw [hs1, ← wrap_u32]; rfl
          have ha2 : IntKind.u32.wrap ((s1 : Int) + (m1 : Int)) = (s2 : Int) := by rw [hs2, ← wrap_u32]; rfl
          have ha3 : IntKind.u32.wrap ((s2 : Int) + (m2 : Int)) = (s3 : Int) := by rw [hs3, ← wrap_u32]; rfl
          have HTT : Hid ((L.set i s3).take (i + 1) = schedI b (i + 1)) := Lib.hid (by
            rw [take_step (by omega), hT.out, schedI, if_neg (by omega), ← hi16, ← hi7, ← hi15, ← hi2, ← hp16, ← hp7, ← hp15, ← hp2, ← hm1, ← hm2, hs3, hs2, hs1]
            unfold W32
            congr 2
            omega)
          have HLL : Hid ((L.set i s3).length = 64) := Lib.hid (by rw [List.length_set, hL])
          have HL := Lib.hid hL
          have hBL : ∀ j, j < 64 → j < L.length := fun j hj => by omega
          have HBL := Lib.hid hBL
          have HB := Lib.hid hB
          have HF := Lib.hid hf
          clear hm1 hm2 hs1 hs2 hs3 hp16 hp7 hp15 hp2 hi16 hi7 hi15 hi2 hT hL hBL hB hf l16 l7 l15 l2
          go_wp2_with fail
          refine wp_region_p [(0, true), (1, true), (2, true), (3, true), (4, true), (5, true), (6, true), (7, true), (8, true), (9, true), (10, true), (11, true), (12, true), (13, true), (16, true), (17, true), (18, true), (19, true), (14, false), (15, true), (20, false), (21, true)] (fun W => Below wr.heap.size wr W) (by kernel_rfl) (by kernel_rfl) ?_
          simp only [List.map_cons, List.map_nil, List.filterMap_cons, List.filterMap_nil, List.getElem?_cons_zero, List.getElem?_cons_succ, List.length_cons, List.length_nil, Nat.zero_add, Nat.reduceAdd, List.drop_succ_cons, List.drop_zero]
          refine mx_move _ (by kernel_rfl) rfl ⟨_, (by ((try simp [go_sem]); (try rfl); done)), _, (by (simp only [Act.put, List.setIfInBounds_toArray, List.set_cons_zero, List.set_cons_succ]; rfl)), ?_⟩
          refine mx_move _ (by kernel_rfl) rfl ⟨_, (by ((try simp [go_sem]); (try rfl); done)), _, (by (simp only [Act.put, List.setIfInBounds_toArray, List.set_cons_zero, List.set_cons_succ]; rfl)), ?_⟩
          refine mx_val (by kernel_rfl) ⟨_, (by (intro w' hC; clear hC; (try go_simp); (try with_reducible rfl); done)), _, (by (simp only [Act.put, List.setIfInBounds_toArray, List.set_cons_zero, List.set_cons_succ]; rfl)), ?_⟩
          refine mx_val (by kernel_rfl) ⟨_, (by (intro w' hC; clear hC; (try go_simp); (try with_reducible rfl); done)), _, (by (simp only [Act.put, List.setIfInBounds_toArray, List.set_cons_zero, List.set_cons_succ]; rfl)), ?_⟩
          refine mx_val (by kernel_rfl) ⟨_, (by (intro w' hC; (have q := words_cell (HB.out.below hC) (i := i16) (HBL.out _ (by omega)); rw [Hi16.out] at q); clear hC; (try go_simp); (try with_reducible rfl); done)), _, (by (simp only [Act.put, List.setIfInBounds_toArray, List.set_cons_zero, List.set_cons_succ]; rfl)), ?_⟩
          refine mx_move _ (by kernel_rfl) rfl ⟨_, (by ((try simp [go_sem]); (try rfl); done)), _, (by (simp only [Act.put, List.setIfInBounds_toArray, List.set_cons_zero, List.set_cons_succ]; rfl)), ?_⟩
          refine mx_val (by kernel_rfl) ⟨_, (by (intro w' hC; clear hC; (try go_simp); (try with_reducible rfl); done)), _, (by (simp only [Act.put, List.setIfInBounds_toArray, List.set_cons_zero, List.set_cons_succ]; rfl)), ?_⟩
          refine mx_val (by kernel_rfl) ⟨_, (by (intro w' hC; clear hC; (try go_simp); (try with_reducible rfl); done)), _, (by (simp only [Act.put, List.setIfInBounds_toArray, List.set_cons_zero, List.set_cons_succ]; rfl)), ?_⟩
          refine mx_val (by kernel_rfl) ⟨_, (by (intro w' hC; (have q := words_cell (HB.out.below hC) (i := i7) (HBL.out _ (by omega)); rw [Hi7.out] at q); clear hC; (try go_simp); (try with_reducible rfl); done)), _, (by (simp only [Act.put, List.setIfInBounds_toArray, List.set_cons_zero, List.set_cons_succ]; rfl)), ?_⟩
          refine mx_val (by kernel_rfl) ⟨_, (by (intro w' hC; clear hC; (try go_simp); (try with_reducible rfl); done)), _, (by (simp only [Act.put, List.setIfInBounds_toArray, List.set_cons_zero, List.set_cons_succ]; rfl)), ?_⟩
          refine mx_move _ (by kernel_rfl) rfl ⟨_, (by ((try simp [go_sem]); (try rfl); done)), _, (by (simp only [Act.put, List.setIfInBounds_toArray, List.set_cons_zero, List.set_cons_succ]; rfl)), ?_⟩
          refine mx_val (by kernel_rfl) ⟨_, (by (intro w' hC; clear hC; (try go_simp); (try with_reducible rfl); done)), _, (by (simp only [Act.put, List.setIfInBounds_toArray, List.set_cons_zero, List.set_cons_succ]; rfl)), ?_⟩
          refine mx_val (by kernel_rfl) ⟨_, (by (intro w' hC; clear hC; (try go_simp); (try with_reducible rfl); done)), _, (by (simp only [Act.put, List.setIfInBounds_toArray, List.set_cons_zero, List.set_cons_succ]; rfl)), ?_⟩
          refine mx_val (by kernel_rfl) ⟨_, (by (intro w' hC; (have q := words_cell (HB.out.below hC) (i := i15) (HBL.out _ (by omega)); rw [Hi15.out] at q); clear hC; (try go_simp); (try with_reducible rfl); done)), _, (by (simp only [Act.put, List.setIfInBounds_toArray, List.set_cons_zero, List.set_cons_succ]; rfl)), ?_⟩
          refine mx_move _ (by kernel_rfl) rfl ⟨_, (by ((try simp [go_sem]); (try rfl); done)), _, (by (simp only [Act.put, List.setIfInBounds_toArray, List.set_cons_zero, List.set_cons_succ]; rfl)), ?_⟩
          refine mx_val (by kernel_rfl) ⟨_, (by (intro w' hC; clear hC; (try go_simp); (try with_reducible rfl); done)), _, (by (simp only [Act.put, List.setIfInBounds_toArray, List.set_cons_zero, List.set_cons_succ]; rfl)), ?_⟩
          refine mx_val (by kernel_rfl) ⟨_, (by (intro w' hC; clear hC; (try go_simp); (try with_reducible rfl); done)), _, (by (simp only [Act.put, List.setIfInBounds_toArray, List.set_cons_zero, List.set_cons_succ]; rfl)), ?_⟩
          refine mx_val (by kernel_rfl) ⟨_, (by (intro w' hC; (have q := words_cell (HB.out.below hC) (i := i2) (HBL.out _ (by omega)); rw [Hi2.out] at q); clear hC; (try go_simp); (try with_reducible rfl); done)), _, (by (simp only [Act.put, List.setIfInBounds_toArray, List.set_cons_zero, List.set_cons_succ]; rfl)), ?_⟩
          refine mx_call ((Below.refl _ _).drew) (by kernel_rfl) ?_ (HM1.out _) ?_
          · (go_simp; done)
          rintro e w2 ⟨rfl, hb2⟩
          replace hb2 : Below wr.heap.size wr w2 := (Below.refl _ _).drew.trans (hb2.mono (Nat.le_refl _))
          refine ⟨_, rfl, _, (by (simp only [Act.put, List.setIfInBounds_toArray, List.set_cons_zero, List.set_cons_succ]; rfl)), ?_⟩
          refine mx_val (by kernel_rfl) ⟨_, (by (intro w' hC; clear hC; (try go_simp); (try with_reducible rfl); done)), _, (by (simp only [Act.put, List.setIfInBounds_toArray, List.set_cons_zero, List.set_cons_succ]; rfl)), ?_⟩
          refine mx_call (hb2) (by kernel_rfl) ?_ (HM2.out _) ?_
          · (go_simp; done)
          rintro e w3 ⟨rfl, hb3⟩
          replace hb3 : Below wr.heap.size wr w3 := hb2.trans (hb3.mono hb2.size)
          refine ⟨_, rfl, _, (by (simp only [Act.put, List.setIfInBounds_toArray, List.set_cons_zero, List.set_cons_succ]; rfl)), ?_⟩
          refine mx_val (by kernel_rfl) ⟨_, (by (intro w' hC; clear hC; (try go_simp); (try with_reducible rfl); done)), _, (by (simp only [Act.put, List.setIfInBounds_toArray, List.set_cons_zero, List.set_cons_succ]; rfl)), ?_⟩
          refine mx_end hb3 ?_
          have hB3 := HB.out.below hb3
          have hst := words_set hB3 i s3
          have fz := hB3.frozen i
          have cw := words_cell hB3 (i := i) (HBL.out _ hlt)
          have hf3 := (HF.out.then_below hb3).trans ((Fr.refl (fun x => x = g) w3).setAt g i rfl (.int .u32 (s3 : Int))) (fun _ _ e => e)
          have HST := Lib.hid hst
          have HF3 := Lib.hid hf3
          clear hst hB3 hf3 HM1 HM2
          go_wp2_with fail
          go_roundw
          case rel => exact ⟨i + 1, L.set i s3, by omega, hlt, by go_num, HST.out, HLL.out, HTT, HF3.out⟩
          case measure => simp [intOf]; omega
        · obtain rfl : i = 64 := by omega
          have hRL : L = R := by
            have := hT.out
            rw [List.take_of_length_le (by omega)] at this
            rw [this, HR.out]; rfl
          subst hRL
          have hsz : (L.map u32v).toArray.size = 64 := by simp [hL]
          have hsi : (Tryz.prog.info? 127).map (·.size) = some (L.map u32v).toArray.size := by rw [hsz]; kernel_rfl
          have HSI := Lib.hid hsi
          have HO := Lib.hid (words_one L)
          clear hsz hsi hL hT
          go_wp2_with (first | (refine wpList_load_row rfl 127 _ rfl g rfl 127 _ (0, 0) _ hB Tryz.underlying127 rfl HSI.out ?_) | (refine wpList_store_row rfl 127 _ _ rfl g _ rfl rfl 127 _ hB HSI.out rfl HO.out ?_))
          refine bodyPost_ret (results_cell_row Tryz.results89 _ _ g 127 _ (0, 0) _ rfl (hB.setRow _) Tryz.underlying127 rfl HSI.out) rfl ?_
          exact ⟨rfl, HFB.out _ (hf.setRow g rfl _)⟩

end Go.Proofs.YtjcfphdjgagimaaGreatDoor

/- A store into an owned row of bytes. -/
namespace Go.Proofs.YtjcfphdjgagimaaGreatDoor
open Go.RowKit

theorem OwB.cellAt {w : World} {base g c : Nat} {l : List UInt8} (h : OwB w base (.slice (some ⟨g, 0, none⟩) l.length c) l) {i : Nat} (hi : i < l.length) : w.cell? ⟨g, i, none⟩ = some (bv l[i]) := by
  have := World.ownsRow.cellAt h i (by omega)
  rw [this, List.getElem?_map, List.getElem?_eq_getElem hi]
  rfl
theorem OwB.frozenAt {w : World} {base g c : Nat} {l : List UInt8} (h : OwB w base (.slice (some ⟨g, 0, none⟩) l.length c) l) (i : Nat) : w.frozen? ⟨g, i, none⟩ = false := World.ownsRow.frozenAt h i
theorem OwB.put {w : World} {base g c : Nat} {l : List UInt8} (h : OwB w base (.slice (some ⟨g, 0, none⟩) l.length c) l) (i : Nat) (d : UInt8) : OwB (w.setCell ⟨g, i, none⟩ (bv d)) base (.slice (some ⟨g, 0, none⟩) (l.set i d).length c) (l.set i d) := by
  have := World.ownsRow.stored h i (bv d)
  unfold OwB
  rw [List.length_set, List.map_set]
  exact this.1
/-- a row that is not empty has a block -/
theorem OwB.block {w : World} {base c : Nat} {A : Option Addr} {l : List UInt8} (h : OwB w base (.slice A l.length c) l) (hl : 0 < l.length) : ∃ g, A = some ⟨g, 0, none⟩ ∧ base ≤ g ∧ g < w.heap.size := by
  obtain ⟨g, cap, hv, _, hlt⟩ := World.ownsRow.form h hl
  injection hv with hA
  exact ⟨g, hA, (h.lt g (by rw [hA]; rfl)).1, hlt⟩
end Go.Proofs.YtjcfphdjgagimaaGreatDoor

/- sha.Hash in memory; the package's tables. -/
namespace Go.Proofs.YtjcfphdjgagimaaGreatDoor
open Go.RowKit

def hashCells (S : List Nat) (P : List UInt8) (n : Int) : List Value := S.map u32v ++ (P.map bv ++ [.int .i64 n])
/-- a hash at block hb -/
structure HashAt (w : World) (hb : Nat) (S : List Nat) (P : List UInt8) (n : Int) : Prop where
  blk : Blk w hb 80 (hashCells S P n).toArray
  ls : S.length = 8
  lp : P.length = 64
namespace HashAt
variable {w w' : World} {hb : Nat} {S : List Nat} {P : List UInt8} {n : Int}
theorem fr {X : Nat → Prop} (h : HashAt w hb S P n) (k : Fr X w w') (hx : ¬ X hb) : HashAt w' hb S P n := ⟨h.blk.fr k hx, h.ls, h.lp⟩
theorem below (h : HashAt w hb S P n) (k : Below w.heap.size w w') : HashAt w' hb S P n := ⟨h.blk.below k, h.ls, h.lp⟩
theorem st (h : HashAt w hb S P n) {i : Nat} (hi : i < 8) : w.cell? ⟨hb, i, none⟩ = some (.int .u32 ((S.getD i 0 : Nat) : Int)) := by
  have hl := h.ls
  rw [h.blk.cell, List.getElem?_toArray]
  unfold hashCells
  rw [List.getElem?_append_left (by rw [List.length_map]; omega), List.getElem?_map, List.getElem?_eq_getElem (by omega), List.getD_eq_getElem?_getD, List.getElem?_eq_getElem (by omega)]
  rfl
theorem by_ (h : HashAt w hb S P n) : By w (fun b => b = hb) (some ⟨hb, 8, none⟩) P := by
  refine ⟨by rw [List.length_map, Nat.mul_one], fun _ => ⟨hb, 8, rfl, rfl, h.blk.lt, fun j u hu => ?_⟩⟩
  have hl := h.ls
  rw [h.blk.cell, List.getElem?_toArray]
  unfold hashCells
  have hj : j < (P.map bv).length := (List.getElem?_eq_some_iff.1 hu).1
  rw [List.getElem?_append_right (by rw [List.length_map]; omega), List.length_map, hl, show 8 + j - 8 = j by omega, List.getElem?_append_left hj]
  exact hu
theorem long (h : HashAt w hb S P n) : w.cell? ⟨hb, 72, none⟩ = some (.int .i64 n) := by
  have hl := h.ls
  have hp := h.lp
  rw [h.blk.cell, List.getElem?_toArray]
  unfold hashCells
  rw [List.getElem?_append_right (by rw [List.length_map]; omega), List.length_map, hl, List.getElem?_append_right (by rw [List.length_map]; omega), List.length_map, hp]
  rfl
theorem set (h : HashAt w hb S P n) (i x : Nat) (hi : i < 8) : HashAt (w.setCell ⟨hb, i, none⟩ (.int .u32 (x : Int))) hb (S.set i x) P n := by
  have hl := h.ls
  refine ⟨?_, by rw [List.length_set]; exact h.ls, h.lp⟩
  have := h.blk.set_ i (u32v x)
  rw [List.setIfInBounds_toArray] at this
  unfold hashCells at this ⊢
  rw [List.set_append_left _ _ (by rw [List.length_map]; omega), ← List.map_set] at this
  exact this
theorem setN (h : HashAt w hb S P n) (m : Int) : HashAt (w.setCell ⟨hb, 72, none⟩ (.int .i64 m)) hb S P m := by
  have hl := h.ls
  have hp := h.lp
  refine ⟨?_, h.ls, h.lp⟩
  have := h.blk.set_ 72 (.int .i64 m)
  rw [List.setIfInBounds_toArray] at this
  unfold hashCells at this ⊢
  rw [List.set_append_right _ _ (by rw [List.length_map]; omega), List.length_map, hl, List.set_append_right _ _ (by rw [List.length_map]; omega), List.length_map, hp] at this
  exact this
end HashAt
/-- the package's tables lie as they were laid -/
structure Globs (w : World) : Prop where
  f : ∀ i, i < 8 → w.cell? ⟨0, i, none⟩ = some (.int .u32 ((first8.l.getD i 0 : Nat) : Int))
  r : ∀ i, i < 64 → w.cell? ⟨1, i, none⟩ = some (.int .u32 ((rootsK.getD i 0 : Nat) : Int))
  lt : 2 ≤ w.heap.size
theorem Globs.fr {w w' : World} {X : Nat → Prop} (h : Globs w) (k : Fr X w w') (h0 : ¬ X 0) (h1 : ¬ X 1) : Globs w' :=
  ⟨fun i hi => (k.cell (p := ⟨0, i, none⟩) (by have := h.lt; show 0 < _; omega) h0).trans (h.f i hi), fun i hi => (k.cell (p := ⟨1, i, none⟩) (by have := h.lt; show 1 < _; omega) h1).trans (h.r i hi), by have := h.lt; have := k.size; omega⟩
theorem Globs.below {w w' : World} (h : Globs w) (k : Below w.heap.size w w') : Globs w' := h.fr (Fr.of_below k (fun _ => False)) (fun e => e) (fun e => e)
theorem add8_get (v u : V8) {i : Nat} (hi : i < 8) : (add8 v u).l.getD i 0 = (v.l.getD i 0 + u.l.getD i 0) % W32 := by
  obtain rfl | rfl | rfl | rfl | rfl | rfl | rfl | rfl : i = 0 ∨ i = 1 ∨ i = 2 ∨ i = 3 ∨ i = 4 ∨ i = 5 ∨ i = 6 ∨ i = 7 := by omega
  all_goals rfl
theorem take_next {L M : List Nat} {i : Nat} (h : L.take i = M.take i) (hl : i < L.length) (hm : i < M.length) : (L.set i (M.getD i 0)).take (i + 1) = M.take (i + 1) := by
  rw [take_step hl, h, List.take_succ_eq_append_getElem hm, List.getD_eq_getElem?_getD, List.getElem?_eq_getElem hm]
  rfl
end Go.Proofs.YtjcfphdjgagimaaGreatDoor
