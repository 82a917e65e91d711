/- tree.Diff: the walk. -/
import Derived.Test.YtedbjkmgfcnkeaaA07
import Derived.Lib.SlBytesConst
import Derived.ChangeMaps5

namespace Go.Proofs.Ytedbjkmgfcnkeaa
open Go.RowKit Go.Lib

theorem union_keys (ps : List (List UInt8)) : SortR (unionR ps) ∧ ∀ k, k ∈ keysR (unionR ps) ↔ k ∈ ps := by
  have : ∀ (qs : List (List UInt8)) (T : List (List UInt8 × LV)), SortR T → SortR (qs.foldl (fun T p => putR T p dirV) T) ∧ ∀ k, k ∈ keysR (qs.foldl (fun T p => putR T p dirV) T) ↔ (k ∈ keysR T ∨ k ∈ qs) := by
    intro qs
    induction qs with
    | nil => intro T h; exact ⟨h, by simp⟩
    | cons q qs ih =>
      intro T h
      obtain ⟨h1, h2⟩ := ih (putR T q dirV) (h.put q dirV)
      refine ⟨h1, fun k => ?_⟩
      rw [List.foldl_cons, h2, ← getR_isSome, getR_put]
      by_cases e : k = q
      · rw [if_pos e]; simp [e]
      · rw [if_neg e, getR_isSome]; simp [e]
  have := this ps [] sortR_nil
  exact ⟨this.1, fun k => by rw [show unionR ps = ps.foldl (fun T p => putR T p dirV) [] from rfl, this.2 k]; simp [keysR]⟩
theorem diff_eq (S T : List (List UInt8 × LP)) : compact (((keysR S).filter (diffB S T) ++ (keysR T).filter (diffB S T)).mergeSort leT) = diffS S T := by
  obtain ⟨h1, h2⟩ := union_keys (keysR S ++ keysR T)
  refine compact_union _ _ h1 _ fun k => ?_
  rw [h2, List.mem_append, List.mem_append, List.mem_filter, List.mem_filter]
  constructor
  · rintro (⟨a, b⟩ | ⟨a, b⟩)
    · exact ⟨.inl a, b⟩
    · exact ⟨.inr a, b⟩
  · rintro ⟨a | a, b⟩
    · exact .inl ⟨a, b⟩
    · exact .inr ⟨a, b⟩
theorem pathsP_any (hS : SortsT) (v : Option Addr) (L : List (List UInt8 × LV)) (f : List UInt8 → Bool) (xa xb : Nat) (w : World) (h : TreeP w v L)
    (hc : ∀ W, Below w.heap.size w W → ∀ p ∈ keysR L, Calls Try.prog 58 #[.string ⟨⟨p⟩⟩, .pointer (some ⟨xa, 0, none⟩), .pointer (some ⟨xb, 0, none⟩)] W fun e w' => e = .returned (.bool (f p)) ∧ Below W.heap.size W w') :
    Calls Try.prog 49 #[.pointer v, .func (.func 58) #[] #[.pointer (some ⟨xa, 0, none⟩), .pointer (some ⟨xb, 0, none⟩)]] w fun e w' => ∃ (A : Option Addr) (c : Nat) (l : List (List UInt8)), e = .returned (.slice A l.length c) ∧ Hid (l = (keysR L).filter f) ∧ w'.ownsRow w.heap.size 9 1 (.slice A l.length c) l.length (l.map stv) ∧ Below w.heap.size w w' := by
  rcases h with ⟨rfl, rfl⟩ | ⟨tb, mo, rfl, ht⟩
  · refine (paths_nil _ w).mono ?_
    rintro e w' ⟨rfl, rfl⟩
    exact ⟨none, 0, [], rfl, rfl, World.ownsRow_nil _ _ _ _, Below.refl _ _⟩
  · exact pathsDiff_any hS tb mo L f xa xb w ht hc
set_option maxRecDepth 100000 in
set_option maxHeartbeats 1000000 in
theorem treeDiff_any (hS : SortsT) (va vb : Option Addr) (L M : List (List UInt8 × LV)) (w : World) (ha : TreeP w va L) (hb : TreeP w vb M) :
    Calls Try.prog 28 #[.pointer va, .pointer vb] w fun e w' => TxtOwn w' w.heap.size e (diffS (plainL L) (plainL M)) ∧ Below w.heap.size w w' := by
  obtain ⟨D, hD⟩ : ∃ D, D = diffS (plainL L) (plainL M) := ⟨_, rfl⟩
  rw [← hD]
  have HD := Lib.hid hD
  have hkL : ∀ q ∈ keysR L, q.length ≤ 96 := fun q hq => by
    obtain ⟨x, hx, rfl⟩ := List.mem_map.1 hq
    exact goodB_len (ha.ok.good (x.1, x.2.p) (List.mem_map.2 ⟨x, hx, rfl⟩)).1
  have hkM : ∀ q ∈ keysR M, q.length ≤ 96 := fun q hq => by
    obtain ⟨x, hx, rfl⟩ := List.mem_map.1 hq
    exact goodB_len (hb.ok.good (x.1, x.2.p) (List.mem_map.2 ⟨x, hx, rfl⟩)).1
  have hlL : L.length ≤ 128 := by have := ha.ok.len; rwa [plain_len] at this
  have hlM : M.length ≤ 128 := by have := hb.ok.len; rwa [plain_len] at this
  have hb0 : Below w.heap.size w ((w.alloc (.cells #[.pointer va] 33)).alloc (.cells #[.pointer vb] 33)) := (by repeat (first | exact Below.refl _ _ | refine Below.alloc ?_ (by simp) _ | refine Below.setCell ?_ (by simp) _ | refine Below.drew ?_))
  have xa : Blk ((w.alloc (.cells #[.pointer va] 33)).alloc (.cells #[.pointer vb] 33)) w.heap.size 33 #[.pointer va] := (Blk.new w _ _).alloc _
  have xb : Blk ((w.alloc (.cells #[.pointer va] 33)).alloc (.cells #[.pointer vb] 33)) (w.heap.size + 1) 33 #[.pointer vb] := by
    have := Blk.new (w.alloc (.cells #[.pointer va] 33)) 33 #[.pointer vb]
    simpa using this
  have ha0 := Lib.hid (ha.below hb0)
  have hb1 := Lib.hid (hb.below hb0)
  have HB0 := Lib.hid hb0
  clear ha hb hD
  go_enter Try.func28, Try.ntmps28
  go_wp2_with fail
  generalize ((w.alloc (.cells #[.pointer va] 33)).alloc (.cells #[.pointer vb] 33)) = W0 at *
  have HC : Hid (∀ W, Below W0.heap.size W0 W → ∀ q, q.length ≤ 96 → Calls Try.prog 58 #[.string ⟨⟨q⟩⟩, .pointer (some ⟨w.heap.size, 0, none⟩), .pointer (some ⟨w.heap.size + 1, 0, none⟩)] W fun e w' => e = .returned (.bool (diffB (plainL L) (plainL M) q)) ∧ Below W.heap.size W w') := fun W hW q hq =>
    diff1_any va vb L M q w.heap.size (w.heap.size + 1) W (ha0.out.below hW) (hb1.out.below hW) (by omega) (xa.below hW) (xb.below hW)
  have hs0 := HB0.out.size
  refine wp_region_p [(0, true), (1, true), (3, true), (4, true), (2, false), (5, false)] (fun W => Below W0.heap.size W0 W) (by kernel_rfl) (by kernel_rfl) ?_
  simp only [List.map_cons, List.map_nil, List.filterMap_cons, List.filterMap_nil, List.getElem?_cons_zero, List.getElem?_cons_succ, List.length_cons, List.length_nil, Nat.zero_add, Nat.reduceAdd, List.drop_succ_cons, List.drop_zero]
  refine mx_val (by kernel_rfl) ⟨_, (by (intro w' hC; (have q := (xa.below hC).cell 0; simp at q); clear hC; (try go_simp); (try with_reducible rfl); done)), _, (by (simp only [Act.put, List.setIfInBounds_toArray, List.set_cons_zero, List.set_cons_succ]; rfl)), ?_⟩
  refine mx_move _ (by kernel_rfl) rfl ⟨_, (by ((try simp [go_sem]); (try rfl); done)), _, (by (simp only [Act.put, List.setIfInBounds_toArray, List.set_cons_zero, List.set_cons_succ]; rfl)), ?_⟩
  refine mx_val (by kernel_rfl) ⟨_, (by (intro w' hC; (have q := (xb.below hC).cell 0; simp at q); clear hC; (try go_simp); (try with_reducible rfl); done)), _, (by (simp only [Act.put, List.setIfInBounds_toArray, List.set_cons_zero, List.set_cons_succ]; rfl)), ?_⟩
  refine mx_move _ (by kernel_rfl) rfl ⟨_, (by ((try simp [go_sem]); (try rfl); done)), _, (by (simp only [Act.put, List.setIfInBounds_toArray, List.set_cons_zero, List.set_cons_succ]; rfl)), ?_⟩
  refine mx_call ((Below.refl _ _).drew) (by kernel_rfl) ?_ (pathsP_any hS va L (diffB (plainL L) (plainL M)) w.heap.size (w.heap.size + 1) W0.drew (ha0.out.below (Below.refl _ _).drew) (fun W hW q hq => HC.out W ((Below.refl _ _).drew.trans (hW.mono (Nat.le_refl _))) q (hkL q hq))) ?_
  · (go_simp; done)
  rintro e w2 ⟨A1, c1, l1, rfl, hl1, ho1, hb2⟩
  have hlow2 : Below W0.heap.size W0 w2 := (Below.refl _ _).drew.trans (hb2.mono (Nat.le_refl _))
  refine ⟨_, rfl, _, (by (simp only [Act.put, List.setIfInBounds_toArray, List.set_cons_zero, List.set_cons_succ]; rfl)), ?_⟩
  refine mx_call (hlow2) (by kernel_rfl) ?_ (pathsP_any hS vb M (diffB (plainL L) (plainL M)) w.heap.size (w.heap.size + 1) w2 (hb1.out.below hlow2) (fun W hW q hq => HC.out W (hlow2.trans (hW.mono hlow2.size)) q (hkM q hq))) ?_
  · (go_simp; done)
  rintro e w3 ⟨A2, c2, l2, rfl, hl2, ho2, hb3⟩
  have hlow3 : Below W0.heap.size W0 w3 := hlow2.trans (hb3.mono hlow2.size)
  refine ⟨_, rfl, _, (by (simp only [Act.put, List.setIfInBounds_toArray, List.set_cons_zero, List.set_cons_succ]; rfl)), ?_⟩
  refine mx_end hlow3 ?_
  have hw3 := HB0.out.trans (hlow3.mono hs0)
  have hL1 : l1.length ≤ 128 := by rw [hl1.out]; refine Nat.le_trans (List.length_filter_le _ _) ?_; rw [keys_len]; exact hlL
  have hL2 : l2.length ≤ 128 := by rw [hl2.out]; refine Nat.le_trans (List.length_filter_le _ _) ?_; rw [keys_len]; exact hlM
  have hx1 : ∀ x ∈ l1 ++ l2, x.length ≤ 140737488355328 := by
    intro x hx
    have : x.length ≤ 96 := by
      rcases List.mem_append.1 hx with hx | hx
      · rw [hl1.out] at hx; exact hkL x (List.mem_filter.1 hx).1
      · rw [hl2.out] at hx; exact hkM x (List.mem_filter.1 hx).1
    omega
  have HO1 := Lib.hid (own_base (base' := w.heap.size) (own_below ho1 hb3) (fun g hg => Nat.le_trans hs0 (ho1.lt g hg).1))
  have HR2 : Hid (Rd w3 (fun _ => True) 1 A2 l2.length (l2.map stv)) := Lib.hid (Rd.of_own ho2 (fun _ _ _ => trivial))
  have HE : Hid (D = compact ((l1 ++ l2).mergeSort leT)) := by
    show _ = _
    rw [HD.out, ← diff_eq, hl1.out, hl2.out, keys_plain, keys_plain]
  obtain ⟨i0, hi0, hz0, hz1, hz2⟩ := info_parts str_info
  clear ho1 ho2 hl1 hl2 hb2 hb3 hlow2 hlow3 xa xb ha0 hb1 HB0 HC HD hkL hkM
  go_wp2_with (at_builtin; refine wpList_append_any _ rfl (.tmp 10) (.tmp 13) 46 rfl w.heap.size 9 i0 _ 1 16 Try.underlying46 hi0 hz0 hz1 hz2 rfl (by omega) (.slice A1 l1.length c1) l1.length (l1.map stv) rfl HO1.out _ _ l2.length c2 (l2.map stv) rfl HR2.out (st_one _) (by simp only [maxLen]; omega) (by omega) hw3.size ?_; intro v4 w4 hown4 hg4 hat4; obtain ⟨A4, c4, rfl, _⟩ := own_form hown4)
  have hw4 : Below w.heap.size w w4 := hw3.trans (grown_below hg4 hw3.size (fun g hg => (HO1.out.lt _ hg).1))
  have hown5 : w4.ownsRow w.heap.size 9 1 (.slice A4 (l1 ++ l2).length c4) (l1 ++ l2).length ((l1 ++ l2).map stv) := by
    rw [List.length_append, List.map_append]
    exact hown4
  have hl5 : (l1 ++ l2).length ≤ 1099511627776 := by rw [List.length_append]; omega
  have e5 : l1.length + l2.length = (l1 ++ l2).length := List.length_append.symm
  rw [e5]
  clear hown4 hg4 hat4 e5 HO1 HR2 hw3
  generalize l1 ++ l2 = ss at *
  refine (hS w.heap.size A4 c4 ss w4 hown5 hx1 hl5).mono ?_
  rintro e w5 ⟨rfl, hown6, hg6⟩
  have hblk : ∀ g, ablk A4 = some g → w.heap.size ≤ g := fun g hg => by
    have := hown5.lt
    obtain ⟨A', c', e, _, _, h6, _⟩ := own_form hown5
    injection e with e _ _
    subst e
    exact (h6 g hg).1
  have hw5 : Below w.heap.size w w5 := hw4.trans (grown_below hg6 hw4.size hblk)
  have hms : (ss.mergeSort leT).length = ss.length := List.length_mergeSort _
  have HOS : Hid (w5.ownsRow w.heap.size 9 1 (.slice A4 (ss.mergeSort leT).length c4) (ss.mergeSort leT).length ((ss.mergeSort leT).map stv)) := by rw [hms]; exact hown6
  have hcon := compactT_any w.heap.size A4 c4 (ss.mergeSort leT) w5 HOS.out (by rw [hms]; exact hl5)
  rw [hms, ← HE.out] at hcon
  have HK := Lib.hid hcon
  clear hcon HOS hms hown6 hg6 hown5
  go_wp2_with fail
  refine HK.out.mono ?_
  rintro e w6 ⟨rfl, hown7, hg7⟩
  have hw6 : Below w.heap.size w w6 := hw5.trans (grown_below hg7 hw5.size hblk)
  go_wp2_with fail
  go_ret
  exact ⟨⟨A4, c4, D, rfl, rfl, hown7⟩, hw6⟩
end Go.Proofs.Ytedbjkmgfcnkeaa

/- tree: Same, and a tree that is none. -/
namespace Go.Proofs.Ytedbjkmgfcnkeaa
open Go.RowKit

theorem treeSame_any (hS : SortsT) (va vb : Option Addr) (L M : List (List UInt8 × LV)) (w : World) (ha : TreeP w va L) (hb : TreeP w vb M) :
    Calls Try.prog 29 #[.pointer va, .pointer vb] w fun e w' => e = .returned (.bool (decide (diffS (plainL L) (plainL M) = []))) ∧ Below w.heap.size w w' := by
  have HD := Lib.hid (treeDiff_any hS va vb L M w ha hb)
  generalize diffS (plainL L) (plainL M) = D at *
  clear ha hb
  go_enter Try.func29, Try.ntmps29
  go_wp2_with fail
  refine HD.out.mono ?_
  rintro e w1 ⟨⟨A, c, l, rfl, hl, _⟩, hb1⟩
  obtain rfl := hl.out
  rcases l with _ | ⟨x, l⟩
  · go_wp2_with fail
    go_ret
    exact ⟨rfl, hb1⟩
  · have h0 : ((((x :: l).length : Nat) : Int) == 0) = false := by simp; omega
    have e0 : Hid (decide (x :: l = []) = false) := by show _ = _; simp
    generalize (x :: l).length = n at *
    go_wp2_with fail
    go_ret
    exact ⟨ret_b e0.out.symm, hb1⟩
theorem treeLen_nil (w : World) : Calls Try.prog 16 #[.pointer none] w fun e w' => e = .returned (.int .i64 0) ∧ Below w.heap.size w w' := by
  go_enter Try.func16, Try.ntmps16
  go_wp2_with fail
  go_ret
  exact ⟨rfl, Below.refl _ _⟩
theorem treeClone_nil (w : World) : Calls Try.prog 30 #[.pointer none] w fun e w' => e = .returned (.pointer none) ∧ Below w.heap.size w w' := by
  go_enter Try.func30, Try.ntmps30
  go_wp2_with fail
  go_ret
  exact ⟨rfl, Below.refl _ _⟩
theorem treeItems_nil (w : World) : Calls Try.prog 14 #[.pointer none] w fun e w' => e = .returned (.slice none 0 0) ∧ Below w.heap.size w w' := by
  go_enter Try.func14, Try.ntmps14
  go_wp2_with fail
  refine (treeall_nil w).mono ?_
  rintro e w1 ⟨rfl, rfl⟩
  go_wp2_with fail
  go_loopw [2, 8] (fun ov iv wr => ov = .slice none 0 0 ∧ iv = .int .i64 0 ∧ Below w.heap.size w wr) (fun _ _ _ => 0)
  case atStart => exact ⟨rfl, rfl, Below.refl _ _⟩
  case round =>
    obtain ⟨rfl, rfl, hb⟩ := hrel
    go_wp2_with fail
    go_ret
    exact ⟨rfl, hb⟩
theorem treeSize_nil (w : World) : Calls Try.prog 26 #[.pointer none] w fun e w' => e = .returned (.int .i64 0) ∧ Below w.heap.size w w' := by
  go_enter Try.func26, Try.ntmps26
  go_wp2_with fail
  refine (treeall_nil w).mono ?_
  rintro e w1 ⟨rfl, rfl⟩
  go_wp2_with fail
  go_loopw [2, 8] (fun ov iv wr => ov = .int .i64 0 ∧ iv = .int .i64 0 ∧ Below w.heap.size w wr) (fun _ _ _ => 0)
  case atStart => exact ⟨rfl, rfl, Below.refl _ _⟩
  case round =>
    obtain ⟨rfl, rfl, hb⟩ := hrel
    go_wp2_with fail
    go_ret
    exact ⟨rfl, hb⟩
theorem treeBelow_nil (p : List UInt8) (w : World) : Calls Try.prog 21 #[.pointer none, .string ⟨⟨p⟩⟩] w fun e w' => e = .returned (.slice none 0 0) ∧ Below w.heap.size w w' := by
  go_enter Try.func21, Try.ntmps21
  go_wp2_with fail
  refine (paths_nil _ _).mono ?_
  rintro e w1 ⟨rfl, rfl⟩
  go_wp2_with fail
  go_ret
  exact ⟨rfl, (by repeat (first | exact Below.refl _ _ | refine Below.alloc ?_ (by simp) _ | refine Below.setCell ?_ (by simp) _ | refine Below.drew ?_))⟩
theorem treeKids_nil (p : List UInt8) (w : World) : Calls Try.prog 23 #[.pointer none, .string ⟨⟨p⟩⟩] w fun e w' => e = .returned (.slice none 0 0) ∧ Below w.heap.size w w' := by
  go_enter Try.func23, Try.ntmps23
  go_wp2_with fail
  refine (paths_nil _ _).mono ?_
  rintro e w1 ⟨rfl, rfl⟩
  go_wp2_with fail
  go_ret
  exact ⟨rfl, (by repeat (first | exact Below.refl _ _ | refine Below.alloc ?_ (by simp) _ | refine Below.setCell ?_ (by simp) _ | refine Below.drew ?_))⟩
theorem treeGet_nil (p : List UInt8) (w : World) : Calls Try.prog 18 #[.pointer none, .string ⟨⟨p⟩⟩] w fun e w' => LeafOwn w' w.heap.size e none ∧ Below w.heap.size w w' := by
  refine (treeGet_ofP none p w 0 none 0 [] (fun _ => False) Rd.nil (by simp) (fun W _ => treeget_nil p W)).mono ?_
  rintro e w' ⟨A', c', l', rfl, h1, h2, h3⟩
  exact ⟨⟨A', c', l', rfl, h1, h2⟩, h3⟩
end Go.Proofs.Ytedbjkmgfcnkeaa

/- tenderlaw08: Plays. -/
namespace Go.Proofs.Ytedbjkmgfcnkeaa
open Go.RowKit Go.Maps

/-- a tree on which items were set, and the document's -/
structure Played (w : World) (T : List (List UInt8 × LP)) (tb : Nat) (mo : Option Nat) (L : List (List UInt8 × LV)) (B : Option Addr) (M : List (List UInt8 × LV)) : Prop where
  tree : TreeAt w tb mo L
  plain : Hid (plainL L = T)
  its : Its w B M
  same : Hid (plainL M = T)
theorem Played.below {w w' : World} {T : List (List UInt8 × LP)} {tb : Nat} {mo : Option Nat} {L M : List (List UInt8 × LV)} {B : Option Addr} (h : Played w T tb mo L B M) (k : Below w.heap.size w w') : Played w' T tb mo L B M := ⟨h.tree.below k, h.plain, h.its.below k, h.same⟩


set_option maxRecDepth 100000 in
set_option maxHeartbeats 1000000 in
theorem plays08_any (A : Option Addr) (c : Nat) (l : List (List UInt8 × LV)) (w : World) (h : ItA w A l) (hl : l.length ≤ 200 ∧ ∀ x ∈ l, x.1.length ≤ 200 ∧ x.2.x.l.length ≤ 20000) :
    Calls Try.prog 15 #[.slice A l.length c] w fun e w' => ∃ (tb : Nat) (mo : Option Nat) (L : List (List UInt8 × LV)) (B : Option Addr) (d : Nat) (M : List (List UInt8 × LV)), e = .returned (.tuple #[.pointer (some ⟨tb, 0, none⟩), .slice B M.length d, .bool true]) ∧ Played w' (playS [] (plainL l)) tb mo L B M ∧
      w.heap.size ≤ tb ∧ (∀ m, mo = some m → w.heap.size ≤ m) ∧ Below w.heap.size w w' := by
  have HA := Lib.hid h
  clear h
  go_enter Try.func15, Try.ntmps15
  go_wp2_with fail
  refine (treeNew_nil w).mono ?_
  rintro e w1 ⟨rfl, ht1, hb1⟩
  obtain ⟨tb, htb⟩ : ∃ tb, tb = w.heap.size := ⟨_, rfl⟩
  rw [← htb] at ht1
  rw [← htb]
  have HT1 := Lib.hid ht1
  have htw : w.heap.size ≤ tb := by omega
  clear ht1 htb
  go_wp2_with fail
  go_loopw [7, 24] (fun wv iv wr => ∃ (i : Nat) (mo : Option Nat) (L : List (List UInt8 × LV)) (B : Option Addr) (d : Nat) (M : List (List UInt8 × LV)), i ≤ l.length ∧ iv = .int .i64 (i : Int) ∧ wv = .slice B M.length d ∧ Played wr (playS [] (plainL (l.take i))) tb mo L B M ∧ (∀ m, mo = some m → w.heap.size ≤ m) ∧ Below w.heap.size w wr) (fun _ iv _ => l.length - (intOf iv).toNat)
  case atStart => exact ⟨0, none, [], none, 0, [], Nat.zero_le _, rfl, rfl, ⟨HT1.out, rfl, Its.nil _, rfl⟩, by simp, hb1⟩
  case round =>
    obtain ⟨i, mo, L, B, d, M, hi, rfl, rfl, hP, hmo, hb⟩ := hrel
    by_cases hlt : i < l.length
    · have hA := HA.out.below hb
      obtain ⟨b, off, rfl, hbb, hc0, hc1, hc2⟩ := hA.at_ hlt
      have hxo := hA.ok _ (List.getElem_mem hlt)
      have hxl := hl.2 _ (List.getElem_mem hlt)
      have hps : Hid (playS [] (plainL (l.take (i + 1))) = setS (playS [] (plainL (l.take i))) l[i].1 l[i].2.p) := Lib.hid (by rw [plain_snoc l i hlt, play_snoc])
      have hsz := hb.size
      obtain ⟨x, hx⟩ : ∃ x, x = l[i] := ⟨_, rfl⟩
      rw [← hx] at hc0 hc1 hc2 hxo hxl hps
      simp only [stv] at hc0
      obtain ⟨T, hT⟩ : ∃ T, T = playS [] (plainL (l.take i)) := ⟨_, rfl⟩
      rw [← hT] at hP hps
      have hba : Below wr.heap.size wr (wr.alloc (.cells #[.string ⟨⟨x.1⟩⟩, .int .i64 x.2.k, .slice x.2.x.A x.2.x.l.length x.2.x.c] 30)) := (Below.refl _ _).alloc (Nat.le_refl _) _
      have xb := Blk.new wr 30 #[.string ⟨⟨x.1⟩⟩, .int .i64 x.2.k, .slice x.2.x.A x.2.x.l.length x.2.x.c]
      have hP1 := hP.below hba
      have hw1 := hb.trans (hba.mono hb.size)
      have HX1 := Lib.hid (hxo.1.x.below hba)
      have HP1 := Lib.hid hP1
      have htl := hP.tree.blk.lt
      have hml := hP.tree.lt
      obtain ⟨hx1, hx2⟩ := hxl
      have hok : TreeOk (plainL M) := by rw [hP.same.out, ← hP.plain.out]; exact hP.tree.plain
      have hMS : mayS (plainL M) x.1 (x.2.k, x.2.x.l) = mayS T x.1 (x.2.k, x.2.x.l) := by rw [hP.same.out]
      have HLM : Hid (mayS (plainL L) x.1 (x.2.k, x.2.x.l) = mayS T x.1 (x.2.k, x.2.x.l)) := Lib.hid (by rw [hP.plain.out])
      have q0 := xb.cell 0
      have q1 := xb.cell 1
      have q2 := xb.cell 2
      simp only [List.getElem?_toArray, List.getElem?_cons_zero, List.getElem?_cons_succ] at q0 q1 q2
      clear hP hA hxo hx hT hP1
      go_wp2_with fail
      refine (refSet_any B d M x.1 x.2.k x.2.x.A x.2.x.c x.2.x.l _ HP1.out.its hok (HX1.out.mono (fun _ _ _ => trivial)) (by omega) (by omega)).mono ?_
      rintro e w2 ⟨B2, d2, M2, rfl, hM2, hI2, hb2⟩
      rw [hMS] at hM2 ⊢
      have HM2 : Hid (plainL M2 = playS [] (plainL (l.take (i + 1)))) := Lib.hid (by have := plain_step M x.1 x.2; rw [hM2.out, ← hMS]; refine this.trans ?_; rw [HP1.out.same.out, hps.out])
      have HI2 := Lib.hid hI2
      have HT2 := Lib.hid (HP1.out.tree.below hb2)
      have HX2 := Lib.hid ((HX1.out.below hb2).1)
      have xb2 := xb.below hb2
      have hw2 := hw1.trans (hb2.mono hw1.size)
      have hxn : ¬ (wr.heap.size = tb ∨ mo = some wr.heap.size) := by
        rintro (e | e)
        · omega
        · have := hml _ e; omega
      have q0 := xb2.cell 0
      have q1 := xb2.cell 1
      have q2 := xb2.cell 2
      simp only [List.getElem?_toArray, List.getElem?_cons_zero, List.getElem?_cons_succ] at q0 q1 q2
      have HPS : Hid (setS (plainL L) x.1 (x.2.k, x.2.x.l) = playS [] (plainL (l.take (i + 1)))) := Lib.hid (by rw [hps.out, HP1.out.plain.out]; rfl)
      clear hM2 hI2 hb2 HX1 xb hps HP1 hok
      have HMT := Lib.hid hMS
      obtain ⟨ms, hms⟩ : ∃ ms, ms = mayS T x.1 (x.2.k, x.2.x.l) := ⟨_, rfl⟩
      have HMS : Hid (mayS (plainL L) x.1 (x.2.k, x.2.x.l) = ms) := Lib.hid (by rw [HLM.out, hms])
      rw [← hms]
      clear hms hMS HLM HMT
      go_wp2_with fail
      refine (treeSet_any sortsT tb mo L x.1 x.2.k x.2.x.A x.2.x.c x.2.x.l _ w2 HT2.out HX2.out (by omega) (by omega)).mono ?_
      rintro e w3 ⟨rfl, hto⟩
      rw [HMS.out]
      obtain ⟨⟨mo', L', hT3, hL3, hmo3⟩, hfr⟩ := hto
      have HI3 := Lib.hid (HI2.out.set HT2.out hfr)
      have HT3 := Lib.hid hT3
      have hL4 : Hid (plainL L' = playS [] (plainL (l.take (i + 1)))) := Lib.hid (hL3.out.trans HPS.out)
      have hw3 : Below w.heap.size w w3 := hw2.trans (hfr.below hw2.size (fun k hk e => by
        rcases e with e | e
        · omega
        · have := hmo _ e; omega))
      have hmo4 : ∀ m, mo' = some m → w.heap.size ≤ m := fun m e => by
        rcases hmo3 m e with e | e
        · exact hmo m e
        · have := hw2.size; omega
      clear hT3 hfr hL3 HI2 HT2 HX2 xb2 hmo3 q0 q1 q2 HPS HMS
      go_wp2_with fail
      go_roundw
      case rel => exact ⟨i + 1, mo', L', B2, d2, M2, hlt, by go_num, rfl, ⟨HT3.out, hL4, HI3.out, HM2⟩, hmo4, hw3⟩
      case measure => simp [intOf]; omega
    · have e : i = l.length := by omega
      subst e
      rw [List.take_length] at hP
      go_wp2_with fail
      go_ret3
      exact ⟨tb, mo, L, B, d, M, rfl, hP, htw, hmo, hb⟩

end Go.Proofs.Ytedbjkmgfcnkeaa

/- tenderlaw08: lives. -/
namespace Go.Proofs.Ytedbjkmgfcnkeaa
open Go.RowKit Go.Maps

def exA : List (List UInt8 × LP) := [([97], (2, []))]
def exB : List (List UInt8 × LP) := [([97], (2, [])), ([97, 47, 98], (1, [120]))]
theorem ex1 : mayS [] [97, 47, 98] (1, [120]) = 22 := by decide
theorem ex1s : setS [] [97, 47, 98] (1, [120]) = [] := by decide
theorem ex2 : mayS [] [97] (2, []) = 0 := by decide
theorem ex2s : setS [] [97] (2, []) = exA := by decide
theorem ex3 : mayS exA [97, 47, 98] (1, [120]) = 0 := by decide
theorem ex3s : setS exA [97, 47, 98] (1, [120]) = exB := by decide
theorem ex4 : mayS exB [97] (0, []) = 22 := by decide
theorem ex4s : setS exB [97] (0, []) = exB := by decide

/-- a row of bytes that is marked -/
def BlkM (w : World) (g : Nat) (cs : Array Value) (f : Nat × Nat) : Prop := w.heap[g]? = some (.cells cs 5 f)
theorem BlkM.lt {w : World} {g : Nat} {cs : Array Value} {f : Nat × Nat} (h : BlkM w g cs f) : g < w.heap.size := (Array.getElem?_eq_some_iff.1 h).1
theorem BlkM.fr {w w' : World} {g : Nat} {cs : Array Value} {f : Nat × Nat} {S : Nat → Prop} (h : BlkM w g cs f) (k : Fr S w w') (hs : ¬ S g) : BlkM w' g cs f := (k.block g h.lt hs).trans h
/-- one call of Set of bytes that lie in the world -/
theorem set_step {w : World} {tb : Nat} {mo : Option Nat} {L : List (List UInt8 × LV)} {T T' : List (List UInt8 × LP)} {m : Int} (p : List UInt8) (k : Int) (A : Option Addr) (c : Nat) (l : List UInt8) (h : TreeAt w tb mo L) (hT : Hid (plainL L = T)) (hm : mayS T p (k, l) = m) (hs : setS T p (k, l) = T') (hy : By w (fun _ => True) A l) (hp : p.length ≤ 1048576) (hn : l.length ≤ 140737488355328) :
    Calls Try.prog 31 #[.pointer (some ⟨tb, 0, none⟩), .string ⟨⟨p⟩⟩, .agg #[.int .i64 k, .slice A l.length c]] w fun e w' => e = .returned (.int .i64 m) ∧ ∃ mo' L', TreeAt w' tb mo' L' ∧ Hid (plainL L' = T') ∧ (∀ m, mo' = some m → mo = some m ∨ w.heap.size ≤ m) ∧ Fr (fun g => g = tb ∨ mo = some g) w w' := by
  have hm' : mayS (plainL L) p (k, l) = m := by rw [hT.out]; exact hm
  have hs' : setS (plainL L) p (k, l) = T' := by rw [hT.out]; exact hs
  refine (treeSet_any sortsT tb mo L p k A c l _ w h hy hp hn).mono ?_
  rintro e w' ⟨rfl, hto⟩
  rw [hm']
  rw [hs'] at hto
  obtain ⟨mo', L', h1, h2, h3⟩ := hto.at_
  exact ⟨rfl, mo', L', h1, h2, h3, hto.fr⟩
set_option maxRecDepth 100000 in
set_option maxHeartbeats 1000000 in
theorem lives08_any (w : World) : Calls Try.prog 10 #[] w fun e w' => e = .returned (.bool true) ∧ Below w.heap.size w w' := by
  go_enter Try.func10, Try.ntmps10
  go_wp2_with fail
  refine (treeNew_nil w).mono ?_
  rintro e w1 ⟨rfl, ht1, hb1⟩
  generalize htb : w.heap.size = tb at *
  have HT1 := Lib.hid ht1
  have htl := ht1.blk.lt
  have hs1 := hb1.size
  clear ht1
  have hcv := fun (w : World) (C : Array Value) (n c : Nat) => Lib.run_convert_bytes_const (P := Try.prog) w 26 5 C n c Try.underlying26 Try.underlying5
  go_wp2_with fail
  have bg2 : BlkM ((w1.alloc (.cells #[.int .u8 120] 5 (1, 2))).alloc (.cells #[.int .i64 1, .slice (some ⟨w1.heap.size, 0, none⟩) 1 1] 28)) w1.heap.size #[.int .u8 120] (1, 2) := (Below.heap_alloc _ _ _ (by simp)).trans (heap_alloc_new w1 _)
  have bf2 : Blk ((w1.alloc (.cells #[.int .u8 120] 5 (1, 2))).alloc (.cells #[.int .i64 1, .slice (some ⟨w1.heap.size, 0, none⟩) 1 1] 28)) (w1.heap.size + 1) 28 #[.int .i64 1, .slice (some ⟨w1.heap.size, 0, none⟩) 1 1] := by have := Blk.new (w1.alloc (.cells #[.int .u8 120] 5 (1, 2))) 28 #[.int .i64 1, .slice (some ⟨w1.heap.size, 0, none⟩) 1 1]; simpa using this
  have hba : Below w1.heap.size w1 ((w1.alloc (.cells #[.int .u8 120] 5 (1, 2))).alloc (.cells #[.int .i64 1, .slice (some ⟨w1.heap.size, 0, none⟩) 1 1] 28)) := (by repeat (first | exact Below.refl _ _ | refine Below.alloc ?_ (by simp) _ | refine Below.setCell ?_ (by simp) _ | refine Below.drew ?_))
  have HT2 := Lib.hid (HT1.out.below hba)
  have hb2 := hb1.trans (hba.mono (by have := hb1.size; omega))
  have hgt : w1.heap.size ≠ tb := by omega
  have hft : w1.heap.size + 1 ≠ tb := by omega
  have hmx2 : ∀ m, (none : Option Nat) = some m → tb ≤ m ∧ m ≠ w1.heap.size ∧ m ≠ w1.heap.size + 1 := by simp
  have hL2 : Hid (plainL ([] : List (List UInt8 × LV)) = []) := rfl
  clear hba HT1 hb1
  generalize (w1.alloc (.cells #[.int .u8 120] 5 (1, 2))).alloc (.cells #[.int .i64 1, .slice (some ⟨w1.heap.size, 0, none⟩) 1 1] 28) = w2 at *
  generalize hf : w1.heap.size + 1 = f at *
  generalize hg : w1.heap.size = g at *
  refine (set_step [97, 47, 98] 1 (some ⟨g, 0, none⟩) 1 [120] HT2.out hL2 ex1 ex1s (((Rd.of_block (size := 1) (n := 1) bg2 trivial rfl))) (by decide) (by decide)).mono ?_
  rintro e w3 ⟨rfl, mo3, L3, ht3, hL3, hmo3, hfr3⟩
  have HT3 := Lib.hid ht3
  have hb3 := hb2.trans (hfr3.below (by have := hb2.size; omega) (fun k hk e => by
    rcases e with e | e
    · omega
    · have := hmx2 _ e; omega))
  have hmx3 : ∀ m, mo3 = some m → tb ≤ m ∧ m ≠ g ∧ m ≠ f := fun m e => by
    rcases hmo3 m e with e | e
    · exact hmx2 m e
    · have := bg2.lt; have := bf2.lt; have := hb2.size; exact ⟨by omega, by omega, by omega⟩
  have bg3 := bg2.fr hfr3 (fun e => by rcases e with e | e; (· exact hgt e); (· exact (hmx2 _ e).2.1 rfl))
  have bf3 := bf2.fr hfr3 (fun e => by rcases e with e | e; (· exact hft e); (· exact (hmx2 _ e).2.2 rfl))
  clear ht3 hfr3 hmo3 HT2 bg2 bf2
  go_wp2_with fail
  refine (set_step [97] 2 none 0 [] HT3.out hL3 ex2 ex2s Rd.nil (by decide) (by decide)).mono ?_
  rintro e w4 ⟨rfl, mo4, L4, ht4, hL4, hmo4, hfr4⟩
  have HT4 := Lib.hid ht4
  have hb4 := hb3.trans (hfr4.below (by have := hb3.size; omega) (fun k hk e => by
    rcases e with e | e
    · omega
    · have := hmx3 _ e; omega))
  have hmx4 : ∀ m, mo4 = some m → tb ≤ m ∧ m ≠ g ∧ m ≠ f := fun m e => by
    rcases hmo4 m e with e | e
    · exact hmx3 m e
    · have := bg3.lt; have := bf3.lt; have := hb3.size; exact ⟨by omega, by omega, by omega⟩
  have bg4 := bg3.fr hfr4 (fun e => by rcases e with e | e; (· exact hgt e); (· exact (hmx3 _ e).2.1 rfl))
  have bf4 := bf3.fr hfr4 (fun e => by rcases e with e | e; (· exact hft e); (· exact (hmx3 _ e).2.2 rfl))
  clear ht4 hfr4 hmo4 HT3 bg3 bf3
  have q0 := bf4.cell 0
  have q1 := bf4.cell 1
  simp at q0 q1
  go_wp2_with fail
  clear q0 q1
  refine (set_step [97, 47, 98] 1 (some ⟨g, 0, none⟩) 1 [120] HT4.out hL4 ex3 ex3s (((Rd.of_block (size := 1) (n := 1) bg4 trivial rfl))) (by decide) (by decide)).mono ?_
  rintro e w5 ⟨rfl, mo5, L5, ht5, hL5, hmo5, hfr5⟩
  have HT5 := Lib.hid ht5
  have hb5 := hb4.trans (hfr5.below (by have := hb4.size; omega) (fun k hk e => by
    rcases e with e | e
    · omega
    · have := hmx4 _ e; omega))
  have hmx5 : ∀ m, mo5 = some m → tb ≤ m ∧ m ≠ g ∧ m ≠ f := fun m e => by
    rcases hmo5 m e with e | e
    · exact hmx4 m e
    · have := bg4.lt; have := bf4.lt; have := hb4.size; exact ⟨by omega, by omega, by omega⟩
  have bg5 := bg4.fr hfr5 (fun e => by rcases e with e | e; (· exact hgt e); (· exact (hmx4 _ e).2.1 rfl))
  have bf5 := bf4.fr hfr5 (fun e => by rcases e with e | e; (· exact hft e); (· exact (hmx4 _ e).2.2 rfl))
  clear ht5 hfr5 hmo5 HT4 bg4 bf4
  go_wp2_with fail
  refine (set_step [97] 0 none 0 [] HT5.out hL5 ex4 ex4s Rd.nil (by decide) (by decide)).mono ?_
  rintro e w6 ⟨rfl, mo6, L6, ht6, hL6, hmo6, hfr6⟩
  have HT6 := Lib.hid ht6
  have hb6 := hb5.trans (hfr6.below (by have := hb5.size; omega) (fun k hk e => by
    rcases e with e | e
    · omega
    · have := hmx5 _ e; omega))
  have hmx6 : ∀ m, mo6 = some m → tb ≤ m ∧ m ≠ g ∧ m ≠ f := fun m e => by
    rcases hmo6 m e with e | e
    · exact hmx5 m e
    · have := bg5.lt; have := bf5.lt; have := hb5.size; exact ⟨by omega, by omega, by omega⟩
  have bg6 := bg5.fr hfr6 (fun e => by rcases e with e | e; (· exact hgt e); (· exact (hmx5 _ e).2.1 rfl))
  have bf6 := bf5.fr hfr6 (fun e => by rcases e with e | e; (· exact hft e); (· exact (hmx5 _ e).2.2 rfl))
  clear ht6 hfr6 hmo6 HT5 bg5 bf5
  go_wp2_with fail
  have hlen : (L6.length : Int) = 2 := by rw [← plain_len, hL6.out]; rfl
  have HLN := Lib.hid (treeLen_any tb mo6 L6 w6 HT6.out)
  rw [hlen] at HLN
  clear hlen
  refine HLN.out.mono ?_
  rintro e w7 ⟨rfl, rfl⟩
  go_wp2_with fail
  go_ret
  rw [← htb] at hb6
  exact ⟨rfl, hb6⟩
end Go.Proofs.Ytedbjkmgfcnkeaa

/- What a tree on which items were set tells, in terms of the plain rows. -/
namespace Go.Proofs.Ytedbjkmgfcnkeaa
open Go.RowKit Go.Maps

def dataL (o : Option LP) : List UInt8 := (o.map (·.2)).getD []
theorem kind_plain (L : List (List UInt8 × LV)) (p : List UInt8) : ((getR L p).map LV.k).getD 0 = kindL (getR (plainL L) p) := by
  rw [get_plain]
  cases getR L p <;> rfl
theorem data_plain (L : List (List UInt8 × LV)) (p : List UInt8) : ((getR L p).map fun x => x.x.l).getD [] = dataL (getR (plainL L) p) := by
  rw [get_plain]
  cases getR L p <;> rfl
/-- the document's leaf, to be read -/
theorem refGetP {w : World} {B : Option Addr} {M : List (List UInt8 × LV)} {T : List (List UInt8 × LP)} (d : Nat) (h : Its w B M) (hT : Hid (plainL M = T)) (p : List UInt8) (hp : p.length ≤ 1048576) :
    Calls Try.prog 19 #[.slice B M.length d, .string ⟨⟨p⟩⟩] w fun e w' => (∃ (A : Option Addr) (c : Nat) (l : List UInt8), e = .returned (.agg #[.int .i64 (kindL (getR T p)), .slice A l.length c]) ∧ Hid (l = dataL (getR T p)) ∧ By w' (fun _ => True) A l) ∧ Below w.heap.size w w' := by
  refine (refGet08_any B d M p w h (by omega)).mono ?_
  rintro e w' ⟨rfl, hb⟩
  refine ⟨?_, hb⟩
  rw [← hT.out, get_plain]
  rcases hg : getR M p with _ | o
  · exact ⟨none, 0, [], rfl, rfl, Rd.nil⟩
  · exact ⟨o.x.A, o.x.c, o.x.l, rfl, rfl, ((h.ok _ (getR_mem hg)).below hb).1⟩
/-- the tree's, to be read -/
theorem treeGetP {w : World} {tb : Nat} {mo : Option Nat} {L : List (List UInt8 × LV)} {T : List (List UInt8 × LP)} (h : TreeAt w tb mo L) (hT : Hid (plainL L = T)) (p : List UInt8) (hp : p.length ≤ 1048576) :
    Calls Try.prog 18 #[.pointer (some ⟨tb, 0, none⟩), .string ⟨⟨p⟩⟩] w fun e w' => (∃ (A : Option Addr) (c : Nat) (l : List UInt8), e = .returned (.agg #[.int .i64 (kindL (getR T p)), .slice A l.length c]) ∧ Hid (l = dataL (getR T p)) ∧ OwB w' w.heap.size (.slice A l.length c) l) ∧ Below w.heap.size w w' := by
  refine (treeGet_any tb mo L p w h (by omega)).mono ?_
  rintro e w' ⟨⟨A, c, l, he, hl, ho⟩, hb⟩
  rw [kind_plain, hT.out] at he
  rw [data_plain, hT.out] at hl
  exact ⟨⟨A, c, l, he, hl, ho⟩, hb⟩
theorem own_txt {w : World} {base : Nat} {A : Option Addr} {c : Nat} {l : List (List UInt8)} (h : w.ownsRow base 9 1 (.slice A l.length c) l.length (l.map stv)) : Rd w (fun _ => True) 1 A l.length (l.map stv) := Rd.of_own h (fun _ _ _ => trivial)
theorem Played.lens {w : World} {T : List (List UInt8 × LP)} {tb : Nat} {mo : Option Nat} {L M : List (List UInt8 × LV)} {B : Option Addr} (h : Played w T tb mo L B M) : L.length = T.length ∧ M.length = T.length ∧ T.length ≤ 128 := by
  have h1 := h.tree.plain.len
  have h2 := plain_len L
  have h3 := plain_len M
  rw [h.plain.out] at h1 h2
  rw [h.same.out] at h3
  omega
/-- items that a tree has told, as a row -/
theorem ItsOwn.itsT {w : World} {base : Nat} {A : Option Addr} {c : Nat} {M : List (List UInt8 × LV)} {T : List (List UInt8 × LP)} (h : ItsOwn w base A c M) (hM : Hid (plainL M = T)) (hok : TreeOk T) : Its w A M := by
  refine h.its ?_ ?_
  · have := hok.len
    rw [← hM.out, plain_len] at this
    omega
  · intro x hx
    have hm : (x.1, x.2.p) ∈ T := by rw [← hM.out]; exact List.mem_map.2 ⟨x, hx, rfl⟩
    obtain ⟨g1, g2, g3⟩ := hok.good _ hm
    have h1 := goodB_len g1
    have h2 : x.2.x.l.length ≤ 4096 := by
      unfold checkN LV.p at g3
      dsimp only at g3
      by_cases h1 : x.2.k = 1
      · rw [if_pos h1] at g3
        by_cases h2 : x.2.x.l.length ≤ 4096
        · exact h2
        · rw [if_neg h2] at g3; simp at g3
      · rw [if_neg h1] at g3
        by_cases h3 : x.2.k = 0 ∨ x.2.k = 2
        · rw [if_pos h3] at g3
          by_cases h4 : x.2.x.l.length = 0
          · omega
          · rw [if_neg h4] at g3; simp at g3
        · rw [if_neg h3] at g3; simp at g3
    dsimp only at h1
    omega
end Go.Proofs.Ytedbjkmgfcnkeaa

/- A store into an owned row of bytes. -/
namespace Go.Proofs.Ytedbjkmgfcnkeaa
open Go.RowKit

theorem OwB.cellAt {w : World} {base g c : Nat} {l : List UInt8} (h : OwB w base (.slice (some ⟨g, 0, none⟩) l.length c) l) {i : Nat} (hi : i < l.length) : w.cell? ⟨g, i, none⟩ = some (bv l[i]) := by
  have := World.ownsRow.cellAt h i (by omega)
  rw [this, List.getElem?_map, List.getElem?_eq_getElem hi]
  rfl
theorem OwB.frozenAt {w : World} {base g c : Nat} {l : List UInt8} (h : OwB w base (.slice (some ⟨g, 0, none⟩) l.length c) l) (i : Nat) : w.frozen? ⟨g, i, none⟩ = false := World.ownsRow.frozenAt h i
theorem OwB.put {w : World} {base g c : Nat} {l : List UInt8} (h : OwB w base (.slice (some ⟨g, 0, none⟩) l.length c) l) (i : Nat) (d : UInt8) : OwB (w.setCell ⟨g, i, none⟩ (bv d)) base (.slice (some ⟨g, 0, none⟩) (l.set i d).length c) (l.set i d) := by
  have := World.ownsRow.stored h i (bv d)
  unfold OwB
  rw [List.length_set, List.map_set]
  exact this.1
/-- a row that is not empty has a block -/
theorem OwB.block {w : World} {base c : Nat} {A : Option Addr} {l : List UInt8} (h : OwB w base (.slice A l.length c) l) (hl : 0 < l.length) : ∃ g, A = some ⟨g, 0, none⟩ ∧ base ≤ g ∧ g < w.heap.size := by
  obtain ⟨g, cap, hv, _, hlt⟩ := World.ownsRow.form h hl
  injection hv with hA
  exact ⟨g, hA, (h.lt g (by rw [hA]; rfl)).1, hlt⟩
/-- []byte{} -/
theorem OwB.lit0 (w : World) {base : Nat} (hb : base ≤ w.heap.size) : OwB (w.alloc (.cells #[] 5)) base (.slice (some ⟨w.heap.size, 0, none⟩) 0 0) [] := by
  have := World.ownsRow_lit (base := base) (e := 5) (size := 1) w #[] 0 hb (by simp [maxLen]) (by simp)
  exact this
theorem bv_inc (d : UInt8) : Value.int .u8 (IntKind.u8.wrap ((d.toNat : Int) + 1)) = bv (d + 1) := by
  have hd := d.toNat_lt
  unfold bv
  rw [UInt8.toNat_add]
  have h1 : (1 : UInt8).toNat = 1 := rfl
  rw [h1]
  congr 1
end Go.Proofs.Ytedbjkmgfcnkeaa

/- Arguments opened: strings. -/
namespace Go.Proofs.Ytedbjkmgfcnkeaa
open Go.RowKit Go.WideShapes Go.ChangeShapes Go.ChangeAt Go.ChangeMaps

section
variable {H : Type} {enc : TypeId × Value → H} {w : World} {spare : Nat → Bool} {held : Bool}
set_option maxRecDepth 100000 in
/-- a string -/
theorem open_str {r : Reach} {b0 : Nat} {v : Value} {d : DataW H} {p : List MemPlace} (hv : Value.okWide Try.prog w r b0 9 v) (h : DataW.Trod enc Try.prog w 0 spare held 9 v d p) (hw : Within 9 (d, p)) :
    ∃ s : ByteArray, v = .string s ∧ s.size ≤ 140737488355328 := by
  obtain ⟨s, rfl, hd, _, _⟩ := open_string Try.underlying9 hv h
  refine ⟨s, rfl, ?_⟩
  have h1 := hw s.data.toList.length (by rw [hd]; simp [DataW.weights])
  have h2 := reachBytes_lt
  have h3 : s.data.toList.length = s.size := tl_len s
  omega
end

end Go.Proofs.Ytedbjkmgfcnkeaa

/- TreeApart is true for every input: what is told of a tree, and a clone of it, share no memory with it; a tree that is none has nothing. No condition beyond the row's own. -/
namespace Go.Proofs.Ytedbjkmgfcnkeaa
open Go.RowKit Go.Maps Go.WideShapes Go.ChangeShapes Go.ChangeAt

/-- some bytes, so many, of the call's own -/
def OwAny (w : World) (base : Nat) (A : Option Addr) (n c : Nat) : Prop := ∃ l : List UInt8, l.length = n ∧ OwB w base (.slice A l.length c) l
theorem OwAny.of {w : World} {base : Nat} {A : Option Addr} {c : Nat} {l : List UInt8} (h : OwB w base (.slice A l.length c) l) : OwAny w base A l.length c := ⟨l, rfl, h⟩
theorem OwAny.below {w w' : World} {base : Nat} {A : Option Addr} {n c : Nat} (h : OwAny w base A n c) (k : Below w.heap.size w w') : OwAny w' base A n c := by
  obtain ⟨l, e, ho⟩ := h
  exact ⟨l, e, ho.below k⟩
theorem OwAny.set {w : World} {base : Nat} {A : Option Addr} {n c : Nat} (h : OwAny w base A n c) (g i : Nat) (d : UInt8) : OwAny (w.setCell ⟨g, i, none⟩ (bv d)) base A n c := by
  obtain ⟨l, rfl, ho⟩ := h
  have hcase : A = some ⟨g, 0, none⟩ ∨ (Value.slice A l.length c).ownBlock ≠ some g := by
    rcases ho.2 with ⟨hv, _⟩ | ⟨g', cap, cur, hv, _⟩
    · right; rw [hv]; simp [Value.ownBlock]
    · injection hv with e1 _ _
      by_cases e : g' = g
      · left; rw [e1, e]
      · right; rw [e1]; simp [Value.ownBlock, e]
  rcases hcase with rfl | hne
  · refine ⟨l.set i d, List.length_set, ?_⟩
    exact ho.put i d
  · exact ⟨l, rfl, own_fr ho ((Fr.refl (fun k => k = g) w).setAt g i rfl _) (fun g' e e2 => hne (by rw [e, e2]))⟩
theorem item_at {w : World} {Z : Nat → Prop} {A : Option Addr} {L : List (List UInt8 × LV)} {i : Nat} (h : Rd w Z 3 A L.length (L.flatMap itemC)) (hi : i < L.length) :
    ∃ b off, A = some ⟨b, off, none⟩ ∧ b < w.heap.size ∧ w.cell? ⟨b, off + i * 3, none⟩ = some (stv L[i].1) ∧ w.cell? ⟨b, off + i * 3 + 1, none⟩ = some (.int .i64 L[i].2.k) ∧ w.cell? ⟨b, off + i * 3 + 2, none⟩ = some (.slice L[i].2.x.A L[i].2.x.l.length L[i].2.x.c) := by
  obtain ⟨b, off, hA, _, hb, hc⟩ := h.2 (by omega)
  have hg : ∀ j, j < 3 → (L.flatMap itemC)[i * 3 + j]? = (itemC L[i])[j]? := fun j hj => flat_get (k := 3) item_len L i j hi hj
  refine ⟨b, off, hA, hb, hc _ _ (hg 0 (by omega)), ?_, ?_⟩
  · rw [Nat.add_assoc]; exact hc _ _ (hg 1 (by omega))
  · rw [Nat.add_assoc]; exact hc _ _ (hg 2 (by omega))
theorem treeSet_nil (p : List UInt8) (k : Int) (A : Option Addr) (n c : Nat) (w : World) : Calls Try.prog 31 #[.pointer none, .string ⟨⟨p⟩⟩, .agg #[.int .i64 k, .slice A n c]] w fun e w' => e = .returned (.int .i64 1) ∧ Below w.heap.size w w' := by
  go_enter Try.func31, Try.ntmps31
  go_wp2_with fail
  go_ret
  exact ⟨rfl, (by repeat (first | exact Below.refl _ _ | refine Below.alloc ?_ (by simp) _ | refine Below.setCell ?_ (by simp) _ | refine Below.drew ?_))⟩
theorem diffS_nil : decide (diffS (plainL []) (plainL []) = []) = true := by decide

set_option maxRecDepth 100000 in
set_option maxHeartbeats 4000000 in
theorem treeApart_any (A : Option Addr) (c : Nat) (l : List (List UInt8 × LV)) (p : List UInt8) (k : Int) (xA : Option Addr) (xc : Nat) (xl : List UInt8) (w : World) (h : ItA w A l) (hp : p.length ≤ 140737488355328) (hx : By w (fun b => b < w.heap.size) xA xl) (hxl : xl.length ≤ 140737488355328) :
    Calls Try.prog 6 #[.slice A l.length c, .string ⟨⟨p⟩⟩, .agg #[.int .i64 k, .slice xA xl.length xc]] w fun e w' => e = .returned (.bool true) ∧ Below w.heap.size w w' := by
  have hb0 : Below w.heap.size w (w.alloc (.cells #[.int .i64 k, .slice xA xl.length xc] 28)) := (Below.refl _ _).alloc (Nat.le_refl _) _
  have bx0 := Blk.new w 28 #[.int .i64 k, .slice xA xl.length xc]
  have HL := Lib.hid (lightI_any A c l _ (h.below hb0))
  have HA := Lib.hid (h.below hb0)
  have HX := Lib.hid (hx.below hb0)
  clear h hx
  rcases hli : lightI l with _ | _
  · rw [hli] at HL
    go_enter Try.func6, Try.ntmps6
    go_wp2_with fail
    refine HL.out.mono ?_
    rintro e w1 ⟨rfl, hb1⟩
    have hw1 := hb0.trans (hb1.mono hb0.size)
    go_wp2_with fail
    refine (lives08_any _).mono ?_
    rintro e w9 ⟨rfl, hb9⟩
    go_wp2_with fail
    go_ret
    exact ⟨rfl, hw1.trans (hb9.mono hw1.size)⟩
  · rw [hli] at HL
    have hll := lightI_len hli
    by_cases hp2 : p.length ≤ 200
    · by_cases hx2 : xl.length ≤ 5000
      · go_enter Try.func6, Try.ntmps6
        go_wp2_with fail
        refine HL.out.mono ?_
        rintro e w1 ⟨rfl, hb1⟩
        have bx1 := bx0.below hb1
        have HA1 := Lib.hid (HA.out.below hb1)
        have HX1 := Lib.hid (HX.out.below hb1)
        have hw1 := hb0.trans (hb1.mono hb0.size)
        have q1 := bx1.cell 1
        simp only [List.getElem?_toArray, List.getElem?_cons_zero, List.getElem?_cons_succ] at q1
        clear hb1 bx0 HL HA HX hb0
        go_wp2_with fail
        refine (plays08_any A c l w1 HA1.out hll).mono ?_
        rintro e w2 ⟨tb, mo, L, B, d, M, rfl, hP, _, _, hb2⟩
        have hw2 := hw1.trans (hb2.mono hw1.size)
        have bx2 := bx1.below hb2
        have hX2 := HX1.out.below hb2
        generalize playS [] (plainL l) = T at *
        have HP := Lib.hid hP
        have HX2 := Lib.hid hX2
        clear hP hX2 HX1 HA1 hb2 bx1 q1 hll hw1 hli
        go_wp2_with fail
        refine (treeClone_any tb mo L w2 HP.out.tree).mono ?_
        rintro e w3 ⟨cb, mo', rfl, hcb, hmc, hC, hb3⟩
        have HC := Lib.hid hC
        have bx3 := bx2.below hb3
        clear hC
        go_wp2_with fail
        refine (treeItems_any sortsT cb mo' L w3 HC.out).mono ?_
        rintro e w4 ⟨A4, c4, N, rfl, hN, hO4, hb4⟩
        have HO4 := Lib.hid hO4.row
        have HBY4 := Lib.hid (fun x (hx : x ∈ N) => OwAny.of (hO4.byt x hx))
        have hok : TreeOk T := by rw [← HP.out.plain.out]; exact HP.out.tree.plain
        have hNT : Hid (plainL N = T) := Lib.hid (hN.out.trans HP.out.plain.out)
        have hits := hO4.itsT hNT hok
        have HNL : Hid (∀ x ∈ N, x.2.x.l.length ≤ 140737488355328) := Lib.hid (fun x hx => (hits.txt x hx).2)
        have hNl := hits.len
        have bx4 := bx3.below hb4
        have HOK := Lib.hid hok
        clear hO4 hits hok hN bx3
        go_wp2_with fail
        go_loopw [50] (fun iv wr => ∃ i : Nat, i ≤ N.length ∧ iv = .int .i64 (i : Int) ∧ OwI wr w3.heap.size A4 c4 N ∧ (∀ x ∈ N, OwAny wr w3.heap.size x.2.x.A x.2.x.l.length x.2.x.c) ∧ Below w3.heap.size w3 wr) (fun iv _ => N.length - (intOf iv).toNat)
        case atStart => exact ⟨0, Nat.zero_le _, rfl, HO4.out, HBY4.out, hb4⟩
        case round =>
          obtain ⟨i, hi, rfl, hOI, hBY, hb⟩ := hrel
          by_cases hlt : i < N.length
          · obtain ⟨b, off, hA, hbb, c0, c1, c2⟩ := item_at (Rd.of_own hOI (fun _ _ _ => trivial)) hlt
            have hBi := hBY _ (List.getElem_mem hlt)
            have hxn := HNL.out _ (List.getElem_mem hlt)
            obtain ⟨x, hx⟩ : ∃ x, x = N[i] := ⟨_, rfl⟩
            rw [← hx] at c0 c1 c2 hBi hxn
            simp only [stv] at c0
            have hba : Below wr.heap.size wr (wr.alloc (.cells #[.string ⟨⟨x.1⟩⟩, .int .i64 x.2.k, .slice x.2.x.A x.2.x.l.length x.2.x.c] 30)) := (Below.refl _ _).alloc (Nat.le_refl _) _
            have xb := Blk.new wr 30 #[.string ⟨⟨x.1⟩⟩, .int .i64 x.2.k, .slice x.2.x.A x.2.x.l.length x.2.x.c]
            have hOIa := own_below hOI hba
            have hBYa := fun y (hy : y ∈ N) => (hBY y hy).below hba
            have hBia := hBi.below hba
            have hbA := hb.trans (hba.mono hb.size)
            have q2 := xb.cell 2
            simp only [List.getElem?_toArray, List.getElem?_cons_zero, List.getElem?_cons_succ] at q2
            have HOIa := Lib.hid hOIa
            have HBYa := Lib.hid hBYa
            have HBia := Lib.hid hBia
            subst hA
            clear hOI hBY hBi hba hx hOIa hBYa hBia HO4 HBY4
            go_wp2_with fail
            clear c0 c1 c2 hbb q2
            generalize wr.alloc (.cells #[.string ⟨⟨x.1⟩⟩, .int .i64 x.2.k, .slice x.2.x.A x.2.x.l.length x.2.x.c] 30) = wa at *
            generalize wr.heap.size = g0 at *
            go_loopw [58] (fun iv wr => ∃ j : Nat, j ≤ x.2.x.l.length ∧ iv = .int .i64 (j : Int) ∧ OwI wr w3.heap.size (some ⟨b, off, none⟩) c4 N ∧ (∀ x ∈ N, OwAny wr w3.heap.size x.2.x.A x.2.x.l.length x.2.x.c) ∧ OwAny wr w3.heap.size x.2.x.A x.2.x.l.length x.2.x.c ∧ Blk wr g0 30 #[.string ⟨⟨x.1⟩⟩, .int .i64 x.2.k, .slice x.2.x.A x.2.x.l.length x.2.x.c] ∧ Below w3.heap.size w3 wr) (fun iv _ => x.2.x.l.length - (intOf iv).toNat)
            case atStart => exact ⟨0, Nat.zero_le _, rfl, HOIa.out, HBYa.out, HBia.out, xb, hbA⟩
            case round =>
              obtain ⟨j, hj, rfl, hOI, hBY, hBi, hxb, hbz⟩ := hrel
              by_cases hjl : j < x.2.x.l.length
              · obtain ⟨Lb, hLl, hoL⟩ := hBi
                obtain ⟨g, hA', hgb, hgl⟩ := hoL.block (by omega)
                rw [hA'] at hoL hxb
                have hBY' := fun y (hy : y ∈ N) => (hBY y hy).set g j (Lb[j]'(by omega) + 1)
                have hBi' := (OwAny.set ⟨Lb, hLl, hoL⟩ g j (Lb[j]'(by omega) + 1) : OwAny _ w3.heap.size (some ⟨g, 0, none⟩) x.2.x.l.length x.2.x.c)
                have hfg := (Fr.refl (fun k => k = g) wr).setAt g j rfl (bv (Lb[j]'(by omega) + 1))
                have hOI' := own_fr hOI hfg (fun g' e e2 => own_apart hoL hOI (by decide) g rfl (by rw [e, e2]))
                have hxb' := hxb.fr hfg (fun e => hxb.own_ne hoL (by decide) (by rw [e]; rfl))
                have hbz' := hbz.setCell (p := ⟨g, j, none⟩) hgb (bv (Lb[j]'(by omega) + 1))
                have kc := hoL.cellAt (i := j) (by omega)
                have kf := hoL.frozenAt j
                have q2 := hxb.cell 2
                simp only [List.getElem?_toArray, List.getElem?_cons_zero, List.getElem?_cons_succ] at q2
                generalize Lb[j]'(by omega) = dd at *
                have hd := dd.toNat_lt
                rw [← bv_inc] at hBY' hBi' hOI' hxb' hbz'
                unfold bv at kc
                rw [← hA'] at hBi' hxb'
                have H1 := Lib.hid hBY'
                have H2 := Lib.hid hBi'
                have H3 := Lib.hid hOI'
                have H4 := Lib.hid hxb'
                have H5 := Lib.hid hbz'
                clear hBY' hBi' hOI' hxb' hbz' hfg hBY hOI
                go_wp2_with fail
                go_roundw
                case rel => exact ⟨j + 1, hjl, by go_num, H3.out, H1.out, H2.out, H4.out, H5.out⟩
                case measure => simp [intOf]; omega
              · have e : j = x.2.x.l.length := by omega
                subst e
                have H1 := Lib.hid hOI
                have H2 := Lib.hid hBY
                clear hOI hBY hBi hxb HOIa HBYa HBia xb hjl
                go_wp2_with fail
                go_roundw
                case rel => exact ⟨i + 1, hlt, by go_num, H1.out, H2.out, hbz⟩
                case measure => simp [intOf]; omega
          · have e : i = N.length := by omega
            subst e
            clear hOI hBY hi
            have hb2r := hb3.trans (hb.mono hb3.size)
            have bxr := bx2.below hb2r
            have q0 := bxr.cell 0
            have q1 := bxr.cell 1
            simp only [List.getElem?_toArray, List.getElem?_cons_zero, List.getElem?_cons_succ] at q0 q1
            go_wp2_with fail
            refine (treeSet_any sortsT cb mo' L p k xA xc xl _ wr (HC.out.below hb) (HX2.out.below hb2r) (by omega) (by omega)).mono ?_
            rintro e w5 ⟨rfl, hto⟩
            have hb25 : Below w2.heap.size w2 w5 := hb2r.trans (hto.fr.below hb2r.size (fun g hg e => by
              rcases e with e | e
              · omega
              · have := hmc _ e; omega))
            have HP5 := Lib.hid (HP.out.below hb25)
            have hw5 := hw2.trans (hb25.mono hw2.size)
            have hml := HP5.out.its.len
            clear hto hb2r bxr q0 q1 HC HX2 hb HP hb25 HO4 HBY4 bx2 bx4
            go_wp2_with fail
            go_loopw [77] (fun iv wr => ∃ i : Nat, i ≤ M.length ∧ iv = .int .i64 (i : Int) ∧ Below w5.heap.size w5 wr) (fun iv _ => M.length - (intOf iv).toNat)
            case atStart => exact ⟨0, Nat.zero_le _, rfl, Below.refl _ _⟩
            case round =>
              obtain ⟨i, hi, rfl, hb⟩ := hrel
              by_cases hlt : i < M.length
              · obtain ⟨b, off, hA, hbb, c0, c1, c2⟩ := (HP5.out.below hb).its.at_ hlt
                have hxn := (HP5.out.its.txt _ (List.getElem_mem hlt)).1
                obtain ⟨x, hx⟩ : ∃ x, x = M[i] := ⟨_, rfl⟩
                rw [← hx] at c0 c1 c2 hxn
                simp only [stv] at c0
                have hba : Below wr.heap.size wr (wr.alloc (.cells #[.string ⟨⟨x.1⟩⟩, .int .i64 x.2.k, .slice x.2.x.A x.2.x.l.length x.2.x.c] 30)) := (Below.refl _ _).alloc (Nat.le_refl _) _
                have xb := Blk.new wr 30 #[.string ⟨⟨x.1⟩⟩, .int .i64 x.2.k, .slice x.2.x.A x.2.x.l.length x.2.x.c]
                have hbA := hb.trans (hba.mono hb.size)
                have q0 := xb.cell 0
                simp only [List.getElem?_toArray, List.getElem?_cons_zero, List.getElem?_cons_succ] at q0
                subst hA
                have HG := Lib.hid (treeGetP (HP5.out.below hbA).tree HP5.out.plain x.1 hxn)
                clear hba hx
                go_wp2_with fail
                clear c0 c1 c2 hbb q0 xb
                refine HG.out.mono ?_
                rintro e w6 ⟨⟨A6, c6, l6, rfl, _, ho6⟩, hb6⟩
                obtain ⟨A6', c6', e6, hl6, hc6, _⟩ := own_form ho6
                have hl6m : l6.length ≤ 9223372036854775807 := by
                  injection e6 with e1 e2 e3
                  have : maxLen ≤ 9223372036854775807 := by simp [maxLen]
                  omega
                have hb6A := hbA.trans (hb6.mono hbA.size)
                have hO6 : OwAny w6 w5.heap.size A6 l6.length c6 := ⟨l6, rfl, own_base ho6 (fun g hg => Nat.le_trans hbA.size (ho6.lt g hg).1)⟩
                generalize kindL (getR T x.1) = kk at *
                generalize l6.length = n6 at *
                clear hb6 HG hbA ho6 e6 hl6 hc6
                go_wp2_with fail
                have hbg : Below w6.heap.size w6 (w6.alloc (.cells #[.int .i64 kk, .slice A6 n6 c6] 28)) := (Below.refl _ _).alloc (Nat.le_refl _) _
                have gb := Blk.new w6 28 #[.int .i64 kk, .slice A6 n6 c6]
                have hO7 := hO6.below hbg
                have hb7 := hb6A.trans (hbg.mono hb6A.size)
                clear hO6 hb6A hbg
                generalize w6.alloc (.cells #[.int .i64 kk, .slice A6 n6 c6] 28) = w7 at *
                generalize w6.heap.size = g0 at *
                go_loopw [88] (fun iv wr => ∃ j : Nat, j ≤ n6 ∧ iv = .int .i64 (j : Int) ∧ OwAny wr w5.heap.size A6 n6 c6 ∧ Blk wr g0 28 #[.int .i64 kk, .slice A6 n6 c6] ∧ Below w5.heap.size w5 wr) (fun iv _ => n6 - (intOf iv).toNat)
                case atStart => exact ⟨0, Nat.zero_le _, rfl, hO7, gb, hb7⟩
                case round =>
                  obtain ⟨j, hj, rfl, hBi, hxb, hbz⟩ := hrel
                  by_cases hjl : j < n6
                  · obtain ⟨Lb, hLl, hoL⟩ := hBi
                    obtain ⟨g, rfl, hgb, hgl⟩ := hoL.block (by omega)
                    have hBi' := (OwAny.set ⟨Lb, hLl, hoL⟩ g j (Lb[j]'(by omega) + 1) : OwAny _ w5.heap.size (some ⟨g, 0, none⟩) n6 c6)
                    have hfg := (Fr.refl (fun k => k = g) wr).setAt g j rfl (bv (Lb[j]'(by omega) + 1))
                    have hxb' := hxb.fr hfg (fun e => hxb.own_ne hoL (by decide) (by rw [e]; rfl))
                    have hbz' := hbz.setCell (p := ⟨g, j, none⟩) hgb (bv (Lb[j]'(by omega) + 1))
                    have kc := hoL.cellAt (i := j) (by omega)
                    have kf := hoL.frozenAt j
                    have q1 := hxb.cell 1
                    simp only [List.getElem?_toArray, List.getElem?_cons_zero, List.getElem?_cons_succ] at q1
                    generalize Lb[j]'(by omega) = dd at *
                    have hd := dd.toNat_lt
                    rw [← bv_inc] at hBi' hxb' hbz'
                    unfold bv at kc
                    have H2 := Lib.hid hBi'
                    have H4 := Lib.hid hxb'
                    have H5 := Lib.hid hbz'
                    clear hBi' hxb' hbz' hfg
                    go_wp2_with fail
                    go_roundw
                    case rel => exact ⟨j + 1, hjl, by go_num, H2.out, H4.out, H5.out⟩
                    case measure => simp [intOf]; omega
                  · have e : j = n6 := by omega
                    subst e
                    clear hBi hxb hjl hO7 gb hb7
                    go_wp2_with fail
                    go_roundw
                    case rel => exact ⟨i + 1, hlt, by go_num, hbz⟩
                    case measure => simp [intOf]; omega
              · have e : i = M.length := by omega
                subst e
                have HP6 := Lib.hid (HP5.out.below hb)
                have hw6 := hw5.trans (hb.mono hw5.size)
                clear HP5 hb hw5 hi
                go_wp2_with fail
                have hbn : Below wr.heap.size wr (wr.alloc (.cells #[.map none] 58)) := (Below.refl _ _).alloc (Nat.le_refl _) _
                have HT0 := Lib.hid (TreeAt.new wr)
                have HQ0 := Lib.hid (HP6.out.below hbn)
                have hv0 := hw6.trans (hbn.mono hw6.size)
                have hpb : w.heap.size ≤ wr.heap.size := hw6.size
                have hfld := fun (k : Int) (v : Value) (w : World) => leaf_kind k v w
                clear HP6 hw6 hbn
                generalize wr.alloc (.cells #[.map none] 58) = v0 at *
                generalize wr.heap.size = pb at *
                refine (treeLen_nil _).mono ?_
                rintro e v1 ⟨rfl, hb1⟩
                have hv1 := hv0.trans (hb1.mono hv0.size)
                have HT1 := Lib.hid (HT0.out.below hb1)
                have HQ1 := Lib.hid (HQ0.out.below hb1)
                clear HT0 HQ0 hv0 hb1
                go_wp2_with fail
                refine (treeSize_nil _).mono ?_
                rintro e v2 ⟨rfl, hb2⟩
                have hv2 := hv1.trans (hb2.mono hv1.size)
                have HT2 := Lib.hid (HT1.out.below hb2)
                have HQ2 := Lib.hid (HQ1.out.below hb2)
                clear HT1 HQ1 hv1 hb2
                go_wp2_with fail
                refine (treeLen_any pb none [] v2 HT2.out).mono ?_
                rintro e v3 ⟨rfl, e3⟩
                subst e3
                go_wp2_with fail
                have HT3 := HT2
                have HQ3 := HQ2
                have hv3 := hv2
                refine (treeItems_nil _).mono ?_
                rintro e v4 ⟨rfl, hb4⟩
                have hv4 := hv3.trans (hb4.mono hv3.size)
                have HT4 := Lib.hid (HT3.out.below hb4)
                have HQ4 := Lib.hid (HQ3.out.below hb4)
                clear HT3 HQ3 hv3 hb4
                go_wp2_with fail
                refine (treeBelow_nil p _).mono ?_
                rintro e v5 ⟨rfl, hb5⟩
                have hv5 := hv4.trans (hb5.mono hv4.size)
                have HT5 := Lib.hid (HT4.out.below hb5)
                have HQ5 := Lib.hid (HQ4.out.below hb5)
                clear HT4 HQ4 hv4 hb5
                go_wp2_with fail
                refine (treeKids_nil p _).mono ?_
                rintro e v6 ⟨rfl, hb6⟩
                have hv6 := hv5.trans (hb6.mono hv5.size)
                have HT6 := Lib.hid (HT5.out.below hb6)
                have HQ6 := Lib.hid (HQ5.out.below hb6)
                clear HT5 HQ5 hv5 hb6
                go_wp2_with fail
                refine (treeClone_nil _).mono ?_
                rintro e v7 ⟨rfl, hb7⟩
                have hv7 := hv6.trans (hb7.mono hv6.size)
                have HT7 := Lib.hid (HT6.out.below hb7)
                have HQ7 := Lib.hid (HQ6.out.below hb7)
                clear HT6 HQ6 hv6 hb7
                go_wp2_with fail
                refine (treeSet_nil [97] 2 none 0 0 _).mono ?_
                rintro e v8 ⟨rfl, hb8⟩
                have hv8 := hv7.trans (hb8.mono hv7.size)
                have HT8 := Lib.hid (HT7.out.below hb8)
                have HQ8 := Lib.hid (HQ7.out.below hb8)
                clear HT7 HQ7 hv7 hb8
                go_wp2_with fail
                refine (treeGet_nil p _).mono ?_
                rintro e v9 ⟨⟨A9, c9, l9, rfl, _, _⟩, hb9⟩
                have hv9 := hv8.trans (hb9.mono hv8.size)
                have HT9 := Lib.hid (HT8.out.below hb9)
                have HQ9 := Lib.hid (HQ8.out.below hb9)
                clear HT8 HQ8 hv8 hb9
                go_wp2_with fail
                have hdl := diffS_nil
                refine (treeItems_any sortsT tb mo L v9 HQ9.out.tree).mono ?_
                rintro e v10 ⟨A10, c10, N10, rfl, hN10, hO10, hb10⟩
                have hv10 := hv9.trans (hb10.mono hv9.size)
                have HT10 := Lib.hid (HT9.out.below hb10)
                have HQ10 := Lib.hid (HQ9.out.below hb10)
                have hN10' : Hid (plainL N10 = T) := Lib.hid (hN10.out.trans HQ10.out.plain.out)
                have HI10 := Lib.hid (hO10.itsT hN10' HOK.out)
                clear HT9 HQ9 hv9 hb10 hN10 hO10
                go_wp2_with fail
                have hsm := refSame08_any A10 B c10 d N10 M v10 HI10.out HQ10.out.its
                rw [hN10'.out, HQ10.out.same.out, show decide (T = T) = true by simp] at hsm
                have HSM := Lib.hid hsm
                clear hsm
                refine HSM.out.mono ?_
                rintro e v11 ⟨rfl, hb11⟩
                have hv11 := hv10.trans (hb11.mono hv10.size)
                have HT11 := Lib.hid (HT10.out.below hb11)
                clear HT10 HQ10 hv10 hb11 HI10 HSM hN10'
                go_wp2_with fail
                refine (treeSame_any sortsT none (some ⟨pb, 0, none⟩) [] [] v11 (.inl ⟨rfl, rfl⟩) (.inr ⟨pb, none, rfl, HT11.out⟩)).mono ?_
                rw [show decide (diffS (plainL []) (plainL []) = []) = true from hdl]
                rintro e v12 ⟨rfl, hb12⟩
                have hv12 := hv11.trans (hb12.mono hv11.size)
                have HT12 := Lib.hid (HT11.out.below hb12)
                clear HT11 hv11 hb12
                go_wp2_with fail
                refine (set_step [97] 2 none 0 [] HT12.out (show Hid (plainL [] = []) from rfl) ex2 ex2s Rd.nil (by decide) (by decide)).mono ?_
                rintro e v13 ⟨rfl, mo13, L13, ht13, hL13, hmo13, hfr13⟩
                have hv13 := hv12.trans (hfr13.below hv12.size (fun g hg e => by
                  rcases e with e | e
                  · omega
                  · cases e))
                have HT13 := Lib.hid ht13
                clear ht13 hmo13 hfr13 HT12 hv12
                go_wp2_with fail
                have hlen : (L13.length : Int) = 1 := by rw [← plain_len, hL13.out]; rfl
                have HLN := Lib.hid (treeLen_any pb mo13 L13 v13 HT13.out)
                rw [hlen] at HLN
                clear hlen
                refine HLN.out.mono ?_
                rintro e v14 ⟨rfl, rfl⟩
                go_wp2_with fail
                refine (lives08_any _).mono ?_
                rintro e w9 ⟨rfl, hb9⟩
                go_wp2_with fail
                go_ret
                exact ⟨rfl, hv13.trans (hb9.mono hv13.size)⟩
      · have hx3 : (xl.length : Int) > 5000 := by omega
        go_enter Try.func6, Try.ntmps6
        go_wp2_with fail
        refine HL.out.mono ?_
        rintro e w1 ⟨rfl, hb1⟩
        have bx1 := bx0.below hb1
        have HA1 := Lib.hid (HA.out.below hb1)
        have HX1 := Lib.hid (HX.out.below hb1)
        have hw1 := hb0.trans (hb1.mono hb0.size)
        have q1 := bx1.cell 1
        simp only [List.getElem?_toArray, List.getElem?_cons_zero, List.getElem?_cons_succ] at q1
        clear hb1 bx0 HL HA HX hb0
        go_wp2_with fail
        refine (lives08_any _).mono ?_
        rintro e w9 ⟨rfl, hb9⟩
        go_wp2_with fail
        go_ret
        exact ⟨rfl, hw1.trans (hb9.mono hw1.size)⟩
    · have hp3 : (p.length : Int) > 200 := by omega
      go_enter Try.func6, Try.ntmps6
      go_wp2_with fail
      refine HL.out.mono ?_
      rintro e w1 ⟨rfl, hb1⟩
      have hw1 := hb0.trans (hb1.mono hb0.size)
      go_wp2_with fail
      refine (lives08_any _).mono ?_
      rintro e w9 ⟨rfl, hb9⟩
      go_wp2_with fail
      go_ret
      exact ⟨rfl, hw1.trans (hb9.mono hw1.size)⟩

end Go.Proofs.Ytedbjkmgfcnkeaa
