/- tree.Diff: the walk. -/
import Derived.Test.YtedbjkmgfcnkeaaA07
import Derived.Lib.SlBytesConst

namespace Go.Proofs.Ytedbjkmgfcnkeaa
open Go.RowKit Go.Lib

theorem union_keys (ps : List (List UInt8)) : SortR (unionR ps) ∧ ∀ k, k ∈ keysR (unionR ps) ↔ k ∈ ps := by
  have : ∀ (qs : List (List UInt8)) (T : List (List UInt8 × LV)), SortR T → SortR (qs.foldl (fun T p => putR T p dirV) T) ∧ ∀ k, k ∈ keysR (qs.foldl (fun T p => putR T p dirV) T) ↔ (k ∈ keysR T ∨ k ∈ qs) := by
    intro qs
    induction qs with
    | nil => intro T h; exact ⟨h, by simp⟩
    | cons q qs ih =>
      intro T h
      obtain ⟨h1, h2⟩ := ih (putR T q dirV) (h.put q dirV)
      refine ⟨h1, fun k => ?_⟩
      rw [List.foldl_cons, h2, ← getR_isSome, getR_put]
      by_cases e : k = q
      · rw [if_pos e]; simp [e]
      · rw [if_neg e, getR_isSome]; simp [e]
  have := this ps [] sortR_nil
  exact ⟨this.1, fun k => by rw [show unionR ps = ps.foldl (fun T p => putR T p dirV) [] from rfl, this.2 k]; simp [keysR]⟩
theorem diff_eq (S T : List (List UInt8 × LP)) : compact (((keysR S).filter (diffB S T) ++ (keysR T).filter (diffB S T)).mergeSort leT) = diffS S T := by
  obtain ⟨h1, h2⟩ := union_keys (keysR S ++ keysR T)
  refine compact_union _ _ h1 _ fun k => ?_
  rw [h2, List.mem_append, List.mem_append, List.mem_filter, List.mem_filter]
  constructor
  · rintro (⟨a, b⟩ | ⟨a, b⟩)
    · exact ⟨.inl a, b⟩
    · exact ⟨.inr a, b⟩
  · rintro ⟨a | a, b⟩
    · exact .inl ⟨a, b⟩
    · exact .inr ⟨a, b⟩
theorem pathsP_any (hS : SortsT) (v : Option Addr) (L : List (List UInt8 × LV)) (f : List UInt8 → Bool) (xa xb : Nat) (w : World) (h : TreeP w v L)
    (hc : ∀ W, Below w.heap.size w W → ∀ p ∈ keysR L, Calls Try.prog 58 #[.string ⟨⟨p⟩⟩, .pointer (some ⟨xa, 0, none⟩), .pointer (some ⟨xb, 0, none⟩)] W fun e w' => e = .returned (.bool (f p)) ∧ Below W.heap.size W w') :
    Calls Try.prog 49 #[.pointer v, .func (.func 58) #[] #[.pointer (some ⟨xa, 0, none⟩), .pointer (some ⟨xb, 0, none⟩)]] w fun e w' => ∃ (A : Option Addr) (c : Nat) (l : List (List UInt8)), e = .returned (.slice A l.length c) ∧ Hid (l = (keysR L).filter f) ∧ w'.ownsRow w.heap.size 9 1 (.slice A l.length c) l.length (l.map stv) ∧ Below w.heap.size w w' := by
  rcases h with ⟨rfl, rfl⟩ | ⟨tb, mo, rfl, ht⟩
  · refine (paths_nil _ w).mono ?_
    rintro e w' ⟨rfl, rfl⟩
    exact ⟨none, 0, [], rfl, rfl, World.ownsRow_nil _ _ _ _, Below.refl _ _⟩
  · exact pathsDiff_any hS tb mo L f xa xb w ht hc
set_option maxRecDepth 100000 in
set_option maxHeartbeats 1000000 in
theorem treeDiff_any (hS : SortsT) (va vb : Option Addr) (L M : List (List UInt8 × LV)) (w : World) (ha : TreeP w va L) (hb : TreeP w vb M) :
    Calls Try.prog 28 #[.pointer va, .pointer vb] w fun e w' => TxtOwn w' w.heap.size e (diffS (plainL L) (plainL M)) ∧ Below w.heap.size w w' := by
  obtain ⟨D, hD⟩ : ∃ D, D = diffS (plainL L) (plainL M) := ⟨_, rfl⟩
  rw [← hD]
  have HD := Lib.hid hD
  have hkL : ∀ q ∈ keysR L, q.length ≤ 96 := fun q hq => by
    obtain ⟨x, hx, rfl⟩ := List.mem_map.1 hq
    exact goodB_len (ha.ok.good (x.1, x.2.p) (List.mem_map.2 ⟨x, hx, rfl⟩)).1
  have hkM : ∀ q ∈ keysR M, q.length ≤ 96 := fun q hq => by
    obtain ⟨x, hx, rfl⟩ := List.mem_map.1 hq
    exact goodB_len (hb.ok.good (x.1, x.2.p) (List.mem_map.2 ⟨x, hx, rfl⟩)).1
  have hlL : L.length ≤ 128 := by have := ha.ok.len; rwa [plain_len] at this
  have hlM : M.length ≤ 128 := by have := hb.ok.len; rwa [plain_len] at this
  have hb0 : Below w.heap.size w ((w.alloc (.cells #[.pointer va] 33)).alloc (.cells #[.pointer vb] 33)) := (by repeat (first | exact Below.refl _ _ | refine Below.alloc ?_ (by simp) _ | refine Below.setCell ?_ (by simp) _ | refine Below.drew ?_))
  have xa : Blk ((w.alloc (.cells #[.pointer va] 33)).alloc (.cells #[.pointer vb] 33)) w.heap.size 33 #[.pointer va] := (Blk.new w _ _).alloc _
  have xb : Blk ((w.alloc (.cells #[.pointer va] 33)).alloc (.cells #[.pointer vb] 33)) (w.heap.size + 1) 33 #[.pointer vb] := by
    have := Blk.new (w.alloc (.cells #[.pointer va] 33)) 33 #[.pointer vb]
    simpa using this
  have ha0 := Lib.hid (ha.below hb0)
  have hb1 := Lib.hid (hb.below hb0)
  have HB0 := Lib.hid hb0
  clear ha hb hD
  go_enter Try.func28, Try.ntmps28
  go_wp2_with fail
  generalize ((w.alloc (.cells #[.pointer va] 33)).alloc (.cells #[.pointer vb] 33)) = W0 at *
  have HC : Hid (∀ W, Below W0.heap.size W0 W → ∀ q, q.length ≤ 96 → Calls Try.prog 58 #[.string ⟨⟨q⟩⟩, .pointer (some ⟨w.heap.size, 0, none⟩), .pointer (some ⟨w.heap.size + 1, 0, none⟩)] W fun e w' => e = .returned (.bool (diffB (plainL L) (plainL M) q)) ∧ Below W.heap.size W w') := fun W hW q hq =>
    diff1_any va vb L M q w.heap.size (w.heap.size + 1) W (ha0.out.below hW) (hb1.out.below hW) (by omega) (xa.below hW) (xb.below hW)
  have hs0 := HB0.out.size
  refine wp_region_p [(0, true), (1, true), (3, true), (4, true), (2, false), (5, false)] (fun W => Below W0.heap.size W0 W) (by kernel_rfl) (by kernel_rfl) ?_
  simp only [List.map_cons, List.map_nil, List.filterMap_cons, List.filterMap_nil, List.getElem?_cons_zero, List.getElem?_cons_succ, List.length_cons, List.length_nil, Nat.zero_add, Nat.reduceAdd, List.drop_succ_cons, List.drop_zero]
  refine mx_val (by kernel_rfl) ⟨_, (by (intro w' hC; (have q := (xa.below hC).cell 0; simp at q); clear hC; (try go_simp); (try with_reducible rfl); done)), _, (by (simp only [Act.put, List.setIfInBounds_toArray, List.set_cons_zero, List.set_cons_succ]; rfl)), ?_⟩
  refine mx_move _ (by kernel_rfl) rfl ⟨_, (by ((try simp [go_sem]); (try rfl); done)), _, (by (simp only [Act.put, List.setIfInBounds_toArray, List.set_cons_zero, List.set_cons_succ]; rfl)), ?_⟩
  refine mx_val (by kernel_rfl) ⟨_, (by (intro w' hC; (have q := (xb.below hC).cell 0; simp at q); clear hC; (try go_simp); (try with_reducible rfl); done)), _, (by (simp only [Act.put, List.setIfInBounds_toArray, List.set_cons_zero, List.set_cons_succ]; rfl)), ?_⟩
  refine mx_move _ (by kernel_rfl) rfl ⟨_, (by ((try simp [go_sem]); (try rfl); done)), _, (by (simp only [Act.put, List.setIfInBounds_toArray, List.set_cons_zero, List.set_cons_succ]; rfl)), ?_⟩
  refine mx_call ((Below.refl _ _).drew) (by kernel_rfl) ?_ (pathsP_any hS va L (diffB (plainL L) (plainL M)) w.heap.size (w.heap.size + 1) W0.drew (ha0.out.below (Below.refl _ _).drew) (fun W hW q hq => HC.out W ((Below.refl _ _).drew.trans (hW.mono (Nat.le_refl _))) q (hkL q hq))) ?_
  · (go_simp; done)
  rintro e w2 ⟨A1, c1, l1, rfl, hl1, ho1, hb2⟩
  have hlow2 : Below W0.heap.size W0 w2 := (Below.refl _ _).drew.trans (hb2.mono (Nat.le_refl _))
  refine ⟨_, rfl, _, (by (simp only [Act.put, List.setIfInBounds_toArray, List.set_cons_zero, List.set_cons_succ]; rfl)), ?_⟩
  refine mx_call (hlow2) (by kernel_rfl) ?_ (pathsP_any hS vb M (diffB (plainL L) (plainL M)) w.heap.size (w.heap.size + 1) w2 (hb1.out.below hlow2) (fun W hW q hq => HC.out W (hlow2.trans (hW.mono hlow2.size)) q (hkM q hq))) ?_
  · (go_simp; done)
  rintro e w3 ⟨A2, c2, l2, rfl, hl2, ho2, hb3⟩
  have hlow3 : Below W0.heap.size W0 w3 := hlow2.trans (hb3.mono hlow2.size)
  refine ⟨_, rfl, _, (by (simp only [Act.put, List.setIfInBounds_toArray, List.set_cons_zero, List.set_cons_succ]; rfl)), ?_⟩
  refine mx_end hlow3 ?_
  have hw3 := HB0.out.trans (hlow3.mono hs0)
  have hL1 : l1.length ≤ 128 := by rw [hl1.out]; refine Nat.le_trans (List.length_filter_le _ _) ?_; rw [keys_len]; exact hlL
  have hL2 : l2.length ≤ 128 := by rw [hl2.out]; refine Nat.le_trans (List.length_filter_le _ _) ?_; rw [keys_len]; exact hlM
  have hx1 : ∀ x ∈ l1 ++ l2, x.length ≤ 140737488355328 := by
    intro x hx
    have : x.length ≤ 96 := by
      rcases List.mem_append.1 hx with hx | hx
      · rw [hl1.out] at hx; exact hkL x (List.mem_filter.1 hx).1
      · rw [hl2.out] at hx; exact hkM x (List.mem_filter.1 hx).1
    omega
  have HO1 := Lib.hid (own_base (base' := w.heap.size) (own_below ho1 hb3) (fun g hg => Nat.le_trans hs0 (ho1.lt g hg).1))
  have HR2 : Hid (Rd w3 (fun _ => True) 1 A2 l2.length (l2.map stv)) := Lib.hid (Rd.of_own ho2 (fun _ _ _ => trivial))
  have HE : Hid (D = compact ((l1 ++ l2).mergeSort leT)) := by
    show _ = _
    rw [HD.out, ← diff_eq, hl1.out, hl2.out, keys_plain, keys_plain]
  obtain ⟨i0, hi0, hz0, hz1, hz2⟩ := info_parts str_info
  clear ho1 ho2 hl1 hl2 hb2 hb3 hlow2 hlow3 xa xb ha0 hb1 HB0 HC HD hkL hkM
  go_wp2_with (at_builtin; refine wpList_append_any _ rfl (.tmp 10) (.tmp 13) 46 rfl w.heap.size 9 i0 _ 1 16 Try.underlying46 hi0 hz0 hz1 hz2 rfl (by omega) (.slice A1 l1.length c1) l1.length (l1.map stv) rfl HO1.out _ _ l2.length c2 (l2.map stv) rfl HR2.out (st_one _) (by simp only [maxLen]; omega) (by omega) hw3.size ?_; intro v4 w4 hown4 hg4 hat4; obtain ⟨A4, c4, rfl, _⟩ := own_form hown4)
  have hw4 : Below w.heap.size w w4 := hw3.trans (grown_below hg4 hw3.size (fun g hg => (HO1.out.lt _ hg).1))
  have hown5 : w4.ownsRow w.heap.size 9 1 (.slice A4 (l1 ++ l2).length c4) (l1 ++ l2).length ((l1 ++ l2).map stv) := by
    rw [List.length_append, List.map_append]
    exact hown4
  have hl5 : (l1 ++ l2).length ≤ 1099511627776 := by rw [List.length_append]; omega
  have e5 : l1.length + l2.length = (l1 ++ l2).length := List.length_append.symm
  rw [e5]
  clear hown4 hg4 hat4 e5 HO1 HR2 hw3
  generalize l1 ++ l2 = ss at *
  refine (hS w.heap.size A4 c4 ss w4 hown5 hx1 hl5).mono ?_
  rintro e w5 ⟨rfl, hown6, hg6⟩
  have hblk : ∀ g, ablk A4 = some g → w.heap.size ≤ g := fun g hg => by
    have := hown5.lt
    obtain ⟨A', c', e, _, _, h6, _⟩ := own_form hown5
    injection e with e _ _
    subst e
    exact (h6 g hg).1
  have hw5 : Below w.heap.size w w5 := hw4.trans (grown_below hg6 hw4.size hblk)
  have hms : (ss.mergeSort leT).length = ss.length := List.length_mergeSort _
  have HOS : Hid (w5.ownsRow w.heap.size 9 1 (.slice A4 (ss.mergeSort leT).length c4) (ss.mergeSort leT).length ((ss.mergeSort leT).map stv)) := by rw [hms]; exact hown6
  have hcon := compactT_any w.heap.size A4 c4 (ss.mergeSort leT) w5 HOS.out (by rw [hms]; exact hl5)
  rw [hms, ← HE.out] at hcon
  have HK := Lib.hid hcon
  clear hcon HOS hms hown6 hg6 hown5
  go_wp2_with fail
  refine HK.out.mono ?_
  rintro e w6 ⟨rfl, hown7, hg7⟩
  have hw6 : Below w.heap.size w w6 := hw5.trans (grown_below hg7 hw5.size hblk)
  go_wp2_with fail
  go_ret
  exact ⟨⟨A4, c4, D, rfl, rfl, hown7⟩, hw6⟩
end Go.Proofs.Ytedbjkmgfcnkeaa

/- tree: Same, and a tree that is none. -/
namespace Go.Proofs.Ytedbjkmgfcnkeaa
open Go.RowKit

theorem treeSame_any (hS : SortsT) (va vb : Option Addr) (L M : List (List UInt8 × LV)) (w : World) (ha : TreeP w va L) (hb : TreeP w vb M) :
    Calls Try.prog 29 #[.pointer va, .pointer vb] w fun e w' => e = .returned (.bool (decide (diffS (plainL L) (plainL M) = []))) ∧ Below w.heap.size w w' := by
  have HD := Lib.hid (treeDiff_any hS va vb L M w ha hb)
  generalize diffS (plainL L) (plainL M) = D at *
  clear ha hb
  go_enter Try.func29, Try.ntmps29
  go_wp2_with fail
  refine HD.out.mono ?_
  rintro e w1 ⟨⟨A, c, l, rfl, hl, _⟩, hb1⟩
  obtain rfl := hl.out
  rcases l with _ | ⟨x, l⟩
  · go_wp2_with fail
    go_ret
    exact ⟨rfl, hb1⟩
  · have h0 : ((((x :: l).length : Nat) : Int) == 0) = false := by simp; omega
    have e0 : Hid (decide (x :: l = []) = false) := by show _ = _; simp
    generalize (x :: l).length = n at *
    go_wp2_with fail
    go_ret
    exact ⟨ret_b e0.out.symm, hb1⟩
theorem treeLen_nil (w : World) : Calls Try.prog 16 #[.pointer none] w fun e w' => e = .returned (.int .i64 0) ∧ Below w.heap.size w w' := by
  go_enter Try.func16, Try.ntmps16
  go_wp2_with fail
  go_ret
  exact ⟨rfl, Below.refl _ _⟩
theorem treeClone_nil (w : World) : Calls Try.prog 30 #[.pointer none] w fun e w' => e = .returned (.pointer none) ∧ Below w.heap.size w w' := by
  go_enter Try.func30, Try.ntmps30
  go_wp2_with fail
  go_ret
  exact ⟨rfl, Below.refl _ _⟩
theorem treeItems_nil (w : World) : Calls Try.prog 14 #[.pointer none] w fun e w' => e = .returned (.slice none 0 0) ∧ Below w.heap.size w w' := by
  go_enter Try.func14, Try.ntmps14
  go_wp2_with fail
  refine (treeall_nil w).mono ?_
  rintro e w1 ⟨rfl, rfl⟩
  go_wp2_with fail
  go_loopw [2, 8] (fun ov iv wr => ov = .slice none 0 0 ∧ iv = .int .i64 0 ∧ Below w.heap.size w wr) (fun _ _ _ => 0)
  case atStart => exact ⟨rfl, rfl, Below.refl _ _⟩
  case round =>
    obtain ⟨rfl, rfl, hb⟩ := hrel
    go_wp2_with fail
    go_ret
    exact ⟨rfl, hb⟩
theorem treeSize_nil (w : World) : Calls Try.prog 26 #[.pointer none] w fun e w' => e = .returned (.int .i64 0) ∧ Below w.heap.size w w' := by
  go_enter Try.func26, Try.ntmps26
  go_wp2_with fail
  refine (treeall_nil w).mono ?_
  rintro e w1 ⟨rfl, rfl⟩
  go_wp2_with fail
  go_loopw [2, 8] (fun ov iv wr => ov = .int .i64 0 ∧ iv = .int .i64 0 ∧ Below w.heap.size w wr) (fun _ _ _ => 0)
  case atStart => exact ⟨rfl, rfl, Below.refl _ _⟩
  case round =>
    obtain ⟨rfl, rfl, hb⟩ := hrel
    go_wp2_with fail
    go_ret
    exact ⟨rfl, hb⟩
theorem treeBelow_nil (p : List UInt8) (w : World) : Calls Try.prog 21 #[.pointer none, .string ⟨⟨p⟩⟩] w fun e w' => e = .returned (.slice none 0 0) ∧ Below w.heap.size w w' := by
  go_enter Try.func21, Try.ntmps21
  go_wp2_with fail
  refine (paths_nil _ _).mono ?_
  rintro e w1 ⟨rfl, rfl⟩
  go_wp2_with fail
  go_ret
  exact ⟨rfl, (by repeat (first | exact Below.refl _ _ | refine Below.alloc ?_ (by simp) _ | refine Below.setCell ?_ (by simp) _ | refine Below.drew ?_))⟩
theorem treeKids_nil (p : List UInt8) (w : World) : Calls Try.prog 23 #[.pointer none, .string ⟨⟨p⟩⟩] w fun e w' => e = .returned (.slice none 0 0) ∧ Below w.heap.size w w' := by
  go_enter Try.func23, Try.ntmps23
  go_wp2_with fail
  refine (paths_nil _ _).mono ?_
  rintro e w1 ⟨rfl, rfl⟩
  go_wp2_with fail
  go_ret
  exact ⟨rfl, (by repeat (first | exact Below.refl _ _ | refine Below.alloc ?_ (by simp) _ | refine Below.setCell ?_ (by simp) _ | refine Below.drew ?_))⟩
theorem treeGet_nil (p : List UInt8) (w : World) : Calls Try.prog 18 #[.pointer none, .string ⟨⟨p⟩⟩] w fun e w' => LeafOwn w' w.heap.size e none ∧ Below w.heap.size w w' := by
  refine (treeGet_ofP none p w 0 none 0 [] (fun _ => False) Rd.nil (by simp) (fun W _ => treeget_nil p W)).mono ?_
  rintro e w' ⟨A', c', l', rfl, h1, h2, h3⟩
  exact ⟨⟨A', c', l', rfl, h1, h2⟩, h3⟩
end Go.Proofs.Ytedbjkmgfcnkeaa

/- tenderlaw08: Plays. -/
namespace Go.Proofs.Ytedbjkmgfcnkeaa
open Go.RowKit Go.Maps

/-- a tree on which items were set, and the document's -/
structure Played (w : World) (T : List (List UInt8 × LP)) (tb : Nat) (mo : Option Nat) (L : List (List UInt8 × LV)) (B : Option Addr) (M : List (List UInt8 × LV)) : Prop where
  tree : TreeAt w tb mo L
  plain : Hid (plainL L = T)
  its : Its w B M
  same : Hid (plainL M = T)
theorem Played.below {w w' : World} {T : List (List UInt8 × LP)} {tb : Nat} {mo : Option Nat} {L M : List (List UInt8 × LV)} {B : Option Addr} (h : Played w T tb mo L B M) (k : Below w.heap.size w w') : Played w' T tb mo L B M := ⟨h.tree.below k, h.plain, h.its.below k, h.same⟩


set_option maxRecDepth 100000 in
set_option maxHeartbeats 1000000 in
theorem plays08_any (A : Option Addr) (c : Nat) (l : List (List UInt8 × LV)) (w : World) (h : ItA w A l) (hl : l.length ≤ 200 ∧ ∀ x ∈ l, x.1.length ≤ 200 ∧ x.2.x.l.length ≤ 20000) :
    Calls Try.prog 15 #[.slice A l.length c] w fun e w' => ∃ (tb : Nat) (mo : Option Nat) (L : List (List UInt8 × LV)) (B : Option Addr) (d : Nat) (M : List (List UInt8 × LV)), e = .returned (.tuple #[.pointer (some ⟨tb, 0, none⟩), .slice B M.length d, .bool true]) ∧ Played w' (playS [] (plainL l)) tb mo L B M ∧
      w.heap.size ≤ tb ∧ (∀ m, mo = some m → w.heap.size ≤ m) ∧ Below w.heap.size w w' := by
  have HA := Lib.hid h
  clear h
  go_enter Try.func15, Try.ntmps15
  go_wp2_with fail
  refine (treeNew_nil w).mono ?_
  rintro e w1 ⟨rfl, ht1, hb1⟩
  obtain ⟨tb, htb⟩ : ∃ tb, tb = w.heap.size := ⟨_, rfl⟩
  rw [← htb] at ht1
  rw [← htb]
  have HT1 := Lib.hid ht1
  have htw : w.heap.size ≤ tb := by omega
  clear ht1 htb
  go_wp2_with fail
  go_loopw [7, 24] (fun wv iv wr => ∃ (i : Nat) (mo : Option Nat) (L : List (List UInt8 × LV)) (B : Option Addr) (d : Nat) (M : List (List UInt8 × LV)), i ≤ l.length ∧ iv = .int .i64 (i : Int) ∧ wv = .slice B M.length d ∧ Played wr (playS [] (plainL (l.take i))) tb mo L B M ∧ (∀ m, mo = some m → w.heap.size ≤ m) ∧ Below w.heap.size w wr) (fun _ iv _ => l.length - (intOf iv).toNat)
  case atStart => exact ⟨0, none, [], none, 0, [], Nat.zero_le _, rfl, rfl, ⟨HT1.out, rfl, Its.nil _, rfl⟩, by simp, hb1⟩
  case round =>
    obtain ⟨i, mo, L, B, d, M, hi, rfl, rfl, hP, hmo, hb⟩ := hrel
    by_cases hlt : i < l.length
    · have hA := HA.out.below hb
      obtain ⟨b, off, rfl, hbb, hc0, hc1, hc2⟩ := hA.at_ hlt
      have hxo := hA.ok _ (List.getElem_mem hlt)
      have hxl := hl.2 _ (List.getElem_mem hlt)
      have hps : Hid (playS [] (plainL (l.take (i + 1))) = setS (playS [] (plainL (l.take i))) l[i].1 l[i].2.p) := Lib.hid (by rw [plain_snoc l i hlt, play_snoc])
      have hsz := hb.size
      obtain ⟨x, hx⟩ : ∃ x, x = l[i] := ⟨_, rfl⟩
      rw [← hx] at hc0 hc1 hc2 hxo hxl hps
      simp only [stv] at hc0
      obtain ⟨T, hT⟩ : ∃ T, T = playS [] (plainL (l.take i)) := ⟨_, rfl⟩
      rw [← hT] at hP hps
      have hba : Below wr.heap.size wr (wr.alloc (.cells #[.string ⟨⟨x.1⟩⟩, .int .i64 x.2.k, .slice x.2.x.A x.2.x.l.length x.2.x.c] 30)) := (Below.refl _ _).alloc (Nat.le_refl _) _
      have xb := Blk.new wr 30 #[.string ⟨⟨x.1⟩⟩, .int .i64 x.2.k, .slice x.2.x.A x.2.x.l.length x.2.x.c]
      have hP1 := hP.below hba
      have hw1 := hb.trans (hba.mono hb.size)
      have HX1 := Lib.hid (hxo.1.x.below hba)
      have HP1 := Lib.hid hP1
      have htl := hP.tree.blk.lt
      have hml := hP.tree.lt
      obtain ⟨hx1, hx2⟩ := hxl
      have hok : TreeOk (plainL M) := by rw [hP.same.out, ← hP.plain.out]; exact hP.tree.plain
      have hMS : mayS (plainL M) x.1 (x.2.k, x.2.x.l) = mayS T x.1 (x.2.k, x.2.x.l) := by rw [hP.same.out]
      have HLM : Hid (mayS (plainL L) x.1 (x.2.k, x.2.x.l) = mayS T x.1 (x.2.k, x.2.x.l)) := Lib.hid (by rw [hP.plain.out])
      have q0 := xb.cell 0
      have q1 := xb.cell 1
      have q2 := xb.cell 2
      simp only [List.getElem?_toArray, List.getElem?_cons_zero, List.getElem?_cons_succ] at q0 q1 q2
      clear hP hA hxo hx hT hP1
      go_wp2_with fail
      refine (refSet_any B d M x.1 x.2.k x.2.x.A x.2.x.c x.2.x.l _ HP1.out.its hok (HX1.out.mono (fun _ _ _ => trivial)) (by omega) (by omega)).mono ?_
      rintro e w2 ⟨B2, d2, M2, rfl, hM2, hI2, hb2⟩
      rw [hMS] at hM2 ⊢
      have HM2 : Hid (plainL M2 = playS [] (plainL (l.take (i + 1)))) := Lib.hid (by have := plain_step M x.1 x.2; rw [hM2.out, ← hMS]; refine this.trans ?_; rw [HP1.out.same.out, hps.out])
      have HI2 := Lib.hid hI2
      have HT2 := Lib.hid (HP1.out.tree.below hb2)
      have HX2 := Lib.hid ((HX1.out.below hb2).1)
      have xb2 := xb.below hb2
      have hw2 := hw1.trans (hb2.mono hw1.size)
      have hxn : ¬ (wr.heap.size = tb ∨ mo = some wr.heap.size) := by
        rintro (e | e)
        · omega
        · have := hml _ e; omega
      have q0 := xb2.cell 0
      have q1 := xb2.cell 1
      have q2 := xb2.cell 2
      simp only [List.getElem?_toArray, List.getElem?_cons_zero, List.getElem?_cons_succ] at q0 q1 q2
      have HPS : Hid (setS (plainL L) x.1 (x.2.k, x.2.x.l) = playS [] (plainL (l.take (i + 1)))) := Lib.hid (by rw [hps.out, HP1.out.plain.out]; rfl)
      clear hM2 hI2 hb2 HX1 xb hps HP1 hok
      have HMT := Lib.hid hMS
      obtain ⟨ms, hms⟩ : ∃ ms, ms = mayS T x.1 (x.2.k, x.2.x.l) := ⟨_, rfl⟩
      have HMS : Hid (mayS (plainL L) x.1 (x.2.k, x.2.x.l) = ms) := Lib.hid (by rw [HLM.out, hms])
      rw [← hms]
      clear hms hMS HLM HMT
      go_wp2_with fail
      refine (treeSet_any sortsT tb mo L x.1 x.2.k x.2.x.A x.2.x.c x.2.x.l _ w2 HT2.out HX2.out (by omega) (by omega)).mono ?_
      rintro e w3 ⟨rfl, hto⟩
      rw [HMS.out]
      obtain ⟨⟨mo', L', hT3, hL3, hmo3⟩, hfr⟩ := hto
      have HI3 := Lib.hid (HI2.out.set HT2.out hfr)
      have HT3 := Lib.hid hT3
      have hL4 : Hid (plainL L' = playS [] (plainL (l.take (i + 1)))) := Lib.hid (hL3.out.trans HPS.out)
      have hw3 : Below w.heap.size w w3 := hw2.trans (hfr.below hw2.size (fun k hk e => by
        rcases e with e | e
        · omega
        · have := hmo _ e; omega))
      have hmo4 : ∀ m, mo' = some m → w.heap.size ≤ m := fun m e => by
        rcases hmo3 m e with e | e
        · exact hmo m e
        · have := hw2.size; omega
      clear hT3 hfr hL3 HI2 HT2 HX2 xb2 hmo3 q0 q1 q2 HPS HMS
      go_wp2_with fail
      go_roundw
      case rel => exact ⟨i + 1, mo', L', B2, d2, M2, hlt, by go_num, rfl, ⟨HT3.out, hL4, HI3.out, HM2⟩, hmo4, hw3⟩
      case measure => simp [intOf]; omega
    · have e : i = l.length := by omega
      subst e
      rw [List.take_length] at hP
      go_wp2_with fail
      go_ret3
      exact ⟨tb, mo, L, B, d, M, rfl, hP, htw, hmo, hb⟩

end Go.Proofs.Ytedbjkmgfcnkeaa

/- tenderlaw08: lives. -/
namespace Go.Proofs.Ytedbjkmgfcnkeaa
open Go.RowKit Go.Maps

def exA : List (List UInt8 × LP) := [([97], (2, []))]
def exB : List (List UInt8 × LP) := [([97], (2, [])), ([97, 47, 98], (1, [120]))]
theorem ex1 : mayS [] [97, 47, 98] (1, [120]) = 22 := by decide
theorem ex1s : setS [] [97, 47, 98] (1, [120]) = [] := by decide
theorem ex2 : mayS [] [97] (2, []) = 0 := by decide
theorem ex2s : setS [] [97] (2, []) = exA := by decide
theorem ex3 : mayS exA [97, 47, 98] (1, [120]) = 0 := by decide
theorem ex3s : setS exA [97, 47, 98] (1, [120]) = exB := by decide
theorem ex4 : mayS exB [97] (0, []) = 22 := by decide
theorem ex4s : setS exB [97] (0, []) = exB := by decide

/-- a row of bytes that is marked -/
def BlkM (w : World) (g : Nat) (cs : Array Value) (f : Nat × Nat) : Prop := w.heap[g]? = some (.cells cs 5 f)
theorem BlkM.lt {w : World} {g : Nat} {cs : Array Value} {f : Nat × Nat} (h : BlkM w g cs f) : g < w.heap.size := (Array.getElem?_eq_some_iff.1 h).1
theorem BlkM.fr {w w' : World} {g : Nat} {cs : Array Value} {f : Nat × Nat} {S : Nat → Prop} (h : BlkM w g cs f) (k : Fr S w w') (hs : ¬ S g) : BlkM w' g cs f := (k.block g h.lt hs).trans h
/-- one call of Set of bytes that lie in the world -/
theorem set_step {w : World} {tb : Nat} {mo : Option Nat} {L : List (List UInt8 × LV)} {T T' : List (List UInt8 × LP)} {m : Int} (p : List UInt8) (k : Int) (A : Option Addr) (c : Nat) (l : List UInt8) (h : TreeAt w tb mo L) (hT : Hid (plainL L = T)) (hm : mayS T p (k, l) = m) (hs : setS T p (k, l) = T') (hy : By w (fun _ => True) A l) (hp : p.length ≤ 1048576) (hn : l.length ≤ 140737488355328) :
    Calls Try.prog 31 #[.pointer (some ⟨tb, 0, none⟩), .string ⟨⟨p⟩⟩, .agg #[.int .i64 k, .slice A l.length c]] w fun e w' => e = .returned (.int .i64 m) ∧ ∃ mo' L', TreeAt w' tb mo' L' ∧ Hid (plainL L' = T') ∧ (∀ m, mo' = some m → mo = some m ∨ w.heap.size ≤ m) ∧ Fr (fun g => g = tb ∨ mo = some g) w w' := by
  have hm' : mayS (plainL L) p (k, l) = m := by rw [hT.out]; exact hm
  have hs' : setS (plainL L) p (k, l) = T' := by rw [hT.out]; exact hs
  refine (treeSet_any sortsT tb mo L p k A c l _ w h hy hp hn).mono ?_
  rintro e w' ⟨rfl, hto⟩
  rw [hm']
  rw [hs'] at hto
  obtain ⟨mo', L', h1, h2, h3⟩ := hto.at_
  exact ⟨rfl, mo', L', h1, h2, h3, hto.fr⟩
set_option maxRecDepth 100000 in
set_option maxHeartbeats 1000000 in
theorem lives08_any (w : World) : Calls Try.prog 10 #[] w fun e w' => e = .returned (.bool true) ∧ Below w.heap.size w w' := by
  go_enter Try.func10, Try.ntmps10
  go_wp2_with fail
  refine (treeNew_nil w).mono ?_
  rintro e w1 ⟨rfl, ht1, hb1⟩
  generalize htb : w.heap.size = tb at *
  have HT1 := Lib.hid ht1
  have htl := ht1.blk.lt
  have hs1 := hb1.size
  clear ht1
  have hcv := fun (w : World) (C : Array Value) (n c : Nat) => Lib.run_convert_bytes_const (P := Try.prog) w 26 5 C n c Try.underlying26 Try.underlying5
  go_wp2_with fail
  have bg2 : BlkM ((w1.alloc (.cells #[.int .u8 120] 5 (1, 2))).alloc (.cells #[.int .i64 1, .slice (some ⟨w1.heap.size, 0, none⟩) 1 1] 28)) w1.heap.size #[.int .u8 120] (1, 2) := (Below.heap_alloc _ _ _ (by simp)).trans (heap_alloc_new w1 _)
  have bf2 : Blk ((w1.alloc (.cells #[.int .u8 120] 5 (1, 2))).alloc (.cells #[.int .i64 1, .slice (some ⟨w1.heap.size, 0, none⟩) 1 1] 28)) (w1.heap.size + 1) 28 #[.int .i64 1, .slice (some ⟨w1.heap.size, 0, none⟩) 1 1] := by have := Blk.new (w1.alloc (.cells #[.int .u8 120] 5 (1, 2))) 28 #[.int .i64 1, .slice (some ⟨w1.heap.size, 0, none⟩) 1 1]; simpa using this
  have hba : Below w1.heap.size w1 ((w1.alloc (.cells #[.int .u8 120] 5 (1, 2))).alloc (.cells #[.int .i64 1, .slice (some ⟨w1.heap.size, 0, none⟩) 1 1] 28)) := (by repeat (first | exact Below.refl _ _ | refine Below.alloc ?_ (by simp) _ | refine Below.setCell ?_ (by simp) _ | refine Below.drew ?_))
  have HT2 := Lib.hid (HT1.out.below hba)
  have hb2 := hb1.trans (hba.mono (by have := hb1.size; omega))
  have hgt : w1.heap.size ≠ tb := by omega
  have hft : w1.heap.size + 1 ≠ tb := by omega
  have hmx2 : ∀ m, (none : Option Nat) = some m → tb ≤ m ∧ m ≠ w1.heap.size ∧ m ≠ w1.heap.size + 1 := by simp
  have hL2 : Hid (plainL ([] : List (List UInt8 × LV)) = []) := rfl
  clear hba HT1 hb1
  generalize (w1.alloc (.cells #[.int .u8 120] 5 (1, 2))).alloc (.cells #[.int .i64 1, .slice (some ⟨w1.heap.size, 0, none⟩) 1 1] 28) = w2 at *
  generalize hf : w1.heap.size + 1 = f at *
  generalize hg : w1.heap.size = g at *
  refine (set_step [97, 47, 98] 1 (some ⟨g, 0, none⟩) 1 [120] HT2.out hL2 ex1 ex1s (((Rd.of_block (size := 1) (n := 1) bg2 trivial rfl))) (by decide) (by decide)).mono ?_
  rintro e w3 ⟨rfl, mo3, L3, ht3, hL3, hmo3, hfr3⟩
  have HT3 := Lib.hid ht3
  have hb3 := hb2.trans (hfr3.below (by have := hb2.size; omega) (fun k hk e => by
    rcases e with e | e
    · omega
    · have := hmx2 _ e; omega))
  have hmx3 : ∀ m, mo3 = some m → tb ≤ m ∧ m ≠ g ∧ m ≠ f := fun m e => by
    rcases hmo3 m e with e | e
    · exact hmx2 m e
    · have := bg2.lt; have := bf2.lt; have := hb2.size; exact ⟨by omega, by omega, by omega⟩
  have bg3 := bg2.fr hfr3 (fun e => by rcases e with e | e; (· exact hgt e); (· exact (hmx2 _ e).2.1 rfl))
  have bf3 := bf2.fr hfr3 (fun e => by rcases e with e | e; (· exact hft e); (· exact (hmx2 _ e).2.2 rfl))
  clear ht3 hfr3 hmo3 HT2 bg2 bf2
  go_wp2_with fail
  refine (set_step [97] 2 none 0 [] HT3.out hL3 ex2 ex2s Rd.nil (by decide) (by decide)).mono ?_
  rintro e w4 ⟨rfl, mo4, L4, ht4, hL4, hmo4, hfr4⟩
  have HT4 := Lib.hid ht4
  have hb4 := hb3.trans (hfr4.below (by have := hb3.size; omega) (fun k hk e => by
    rcases e with e | e
    · omega
    · have := hmx3 _ e; omega))
  have hmx4 : ∀ m, mo4 = some m → tb ≤ m ∧ m ≠ g ∧ m ≠ f := fun m e => by
    rcases hmo4 m e with e | e
    · exact hmx3 m e
    · have := bg3.lt; have := bf3.lt; have := hb3.size; exact ⟨by omega, by omega, by omega⟩
  have bg4 := bg3.fr hfr4 (fun e => by rcases e with e | e; (· exact hgt e); (· exact (hmx3 _ e).2.1 rfl))
  have bf4 := bf3.fr hfr4 (fun e => by rcases e with e | e; (· exact hft e); (· exact (hmx3 _ e).2.2 rfl))
  clear ht4 hfr4 hmo4 HT3 bg3 bf3
  have q0 := bf4.cell 0
  have q1 := bf4.cell 1
  simp at q0 q1
  go_wp2_with fail
  clear q0 q1
  refine (set_step [97, 47, 98] 1 (some ⟨g, 0, none⟩) 1 [120] HT4.out hL4 ex3 ex3s (((Rd.of_block (size := 1) (n := 1) bg4 trivial rfl))) (by decide) (by decide)).mono ?_
  rintro e w5 ⟨rfl, mo5, L5, ht5, hL5, hmo5, hfr5⟩
  have HT5 := Lib.hid ht5
  have hb5 := hb4.trans (hfr5.below (by have := hb4.size; omega) (fun k hk e => by
    rcases e with e | e
    · omega
    · have := hmx4 _ e; omega))
  have hmx5 : ∀ m, mo5 = some m → tb ≤ m ∧ m ≠ g ∧ m ≠ f := fun m e => by
    rcases hmo5 m e with e | e
    · exact hmx4 m e
    · have := bg4.lt; have := bf4.lt; have := hb4.size; exact ⟨by omega, by omega, by omega⟩
  have bg5 := bg4.fr hfr5 (fun e => by rcases e with e | e; (· exact hgt e); (· exact (hmx4 _ e).2.1 rfl))
  have bf5 := bf4.fr hfr5 (fun e => by rcases e with e | e; (· exact hft e); (· exact (hmx4 _ e).2.2 rfl))
  clear ht5 hfr5 hmo5 HT4 bg4 bf4
  go_wp2_with fail
  refine (set_step [97] 0 none 0 [] HT5.out hL5 ex4 ex4s Rd.nil (by decide) (by decide)).mono ?_
  rintro e w6 ⟨rfl, mo6, L6, ht6, hL6, hmo6, hfr6⟩
  have HT6 := Lib.hid ht6
  have hb6 := hb5.trans (hfr6.below (by have := hb5.size; omega) (fun k hk e => by
    rcases e with e | e
    · omega
    · have := hmx5 _ e; omega))
  have hmx6 : ∀ m, mo6 = some m → tb ≤ m ∧ m ≠ g ∧ m ≠ f := fun m e => by
    rcases hmo6 m e with e | e
    · exact hmx5 m e
    · have := bg5.lt; have := bf5.lt; have := hb5.size; exact ⟨by omega, by omega, by omega⟩
  have bg6 := bg5.fr hfr6 (fun e => by rcases e with e | e; (· exact hgt e); (· exact (hmx5 _ e).2.1 rfl))
  have bf6 := bf5.fr hfr6 (fun e => by rcases e with e | e; (· exact hft e); (· exact (hmx5 _ e).2.2 rfl))
  clear ht6 hfr6 hmo6 HT5 bg5 bf5
  go_wp2_with fail
  have hlen : (L6.length : Int) = 2 := by rw [← plain_len, hL6.out]; rfl
  have HLN := Lib.hid (treeLen_any tb mo6 L6 w6 HT6.out)
  rw [hlen] at HLN
  clear hlen
  refine HLN.out.mono ?_
  rintro e w7 ⟨rfl, rfl⟩
  go_wp2_with fail
  go_ret
  rw [← htb] at hb6
  exact ⟨rfl, hb6⟩
end Go.Proofs.Ytedbjkmgfcnkeaa

/- What a tree on which items were set tells, in terms of the plain rows. -/
namespace Go.Proofs.Ytedbjkmgfcnkeaa
open Go.RowKit Go.Maps

def dataL (o : Option LP) : List UInt8 := (o.map (·.2)).getD []
theorem kind_plain (L : List (List UInt8 × LV)) (p : List UInt8) : ((getR L p).map LV.k).getD 0 = kindL (getR (plainL L) p) := by
  rw [get_plain]
  cases getR L p <;> rfl
theorem data_plain (L : List (List UInt8 × LV)) (p : List UInt8) : ((getR L p).map fun x => x.x.l).getD [] = dataL (getR (plainL L) p) := by
  rw [get_plain]
  cases getR L p <;> rfl
/-- the document's leaf, to be read -/
theorem refGetP {w : World} {B : Option Addr} {M : List (List UInt8 × LV)} {T : List (List UInt8 × LP)} (d : Nat) (h : Its w B M) (hT : Hid (plainL M = T)) (p : List UInt8) (hp : p.length ≤ 1048576) :
    Calls Try.prog 19 #[.slice B M.length d, .string ⟨⟨p⟩⟩] w fun e w' => (∃ (A : Option Addr) (c : Nat) (l : List UInt8), e = .returned (.agg #[.int .i64 (kindL (getR T p)), .slice A l.length c]) ∧ Hid (l = dataL (getR T p)) ∧ By w' (fun _ => True) A l) ∧ Below w.heap.size w w' := by
  refine (refGet08_any B d M p w h (by omega)).mono ?_
  rintro e w' ⟨rfl, hb⟩
  refine ⟨?_, hb⟩
  rw [← hT.out, get_plain]
  rcases hg : getR M p with _ | o
  · exact ⟨none, 0, [], rfl, rfl, Rd.nil⟩
  · exact ⟨o.x.A, o.x.c, o.x.l, rfl, rfl, ((h.ok _ (getR_mem hg)).below hb).1⟩
/-- the tree's, to be read -/
theorem treeGetP {w : World} {tb : Nat} {mo : Option Nat} {L : List (List UInt8 × LV)} {T : List (List UInt8 × LP)} (h : TreeAt w tb mo L) (hT : Hid (plainL L = T)) (p : List UInt8) (hp : p.length ≤ 1048576) :
    Calls Try.prog 18 #[.pointer (some ⟨tb, 0, none⟩), .string ⟨⟨p⟩⟩] w fun e w' => (∃ (A : Option Addr) (c : Nat) (l : List UInt8), e = .returned (.agg #[.int .i64 (kindL (getR T p)), .slice A l.length c]) ∧ Hid (l = dataL (getR T p)) ∧ OwB w' w.heap.size (.slice A l.length c) l) ∧ Below w.heap.size w w' := by
  refine (treeGet_any tb mo L p w h (by omega)).mono ?_
  rintro e w' ⟨⟨A, c, l, he, hl, ho⟩, hb⟩
  rw [kind_plain, hT.out] at he
  rw [data_plain, hT.out] at hl
  exact ⟨⟨A, c, l, he, hl, ho⟩, hb⟩
theorem own_txt {w : World} {base : Nat} {A : Option Addr} {c : Nat} {l : List (List UInt8)} (h : w.ownsRow base 9 1 (.slice A l.length c) l.length (l.map stv)) : Rd w (fun _ => True) 1 A l.length (l.map stv) := Rd.of_own h (fun _ _ _ => trivial)
theorem Played.lens {w : World} {T : List (List UInt8 × LP)} {tb : Nat} {mo : Option Nat} {L M : List (List UInt8 × LV)} {B : Option Addr} (h : Played w T tb mo L B M) : L.length = T.length ∧ M.length = T.length ∧ T.length ≤ 128 := by
  have h1 := h.tree.plain.len
  have h2 := plain_len L
  have h3 := plain_len M
  rw [h.plain.out] at h1 h2
  rw [h.same.out] at h3
  omega
/-- items that a tree has told, as a row -/
theorem ItsOwn.itsT {w : World} {base : Nat} {A : Option Addr} {c : Nat} {M : List (List UInt8 × LV)} {T : List (List UInt8 × LP)} (h : ItsOwn w base A c M) (hM : Hid (plainL M = T)) (hok : TreeOk T) : Its w A M := by
  refine h.its ?_ ?_
  · have := hok.len
    rw [← hM.out, plain_len] at this
    omega
  · intro x hx
    have hm : (x.1, x.2.p) ∈ T := by rw [← hM.out]; exact List.mem_map.2 ⟨x, hx, rfl⟩
    obtain ⟨g1, g2, g3⟩ := hok.good _ hm
    have h1 := goodB_len g1
    have h2 : x.2.x.l.length ≤ 4096 := by
      unfold checkN LV.p at g3
      dsimp only at g3
      by_cases h1 : x.2.k = 1
      · rw [if_pos h1] at g3
        by_cases h2 : x.2.x.l.length ≤ 4096
        · exact h2
        · rw [if_neg h2] at g3; simp at g3
      · rw [if_neg h1] at g3
        by_cases h3 : x.2.k = 0 ∨ x.2.k = 2
        · rw [if_pos h3] at g3
          by_cases h4 : x.2.x.l.length = 0
          · omega
          · rw [if_neg h4] at g3; simp at g3
        · rw [if_neg h3] at g3; simp at g3
    dsimp only at h1
    omega
end Go.Proofs.Ytedbjkmgfcnkeaa

/- tree.New of any items. -/
namespace Go.Proofs.Ytedbjkmgfcnkeaa
open Go.RowKit Go.Maps

/-- set, while there is no error -/
def stepS (R : List (List UInt8 × LP) × Int) (x : List UInt8 × LP) : List (List UInt8 × LP) × Int := if R.2 = 0 then (setS R.1 x.1 x.2, mayS R.1 x.1 x.2) else R
def newS (l : List (List UInt8 × LP)) : List (List UInt8 × LP) × Int := l.foldl stepS ([], 0)
theorem new_snoc (l : List (List UInt8 × LP)) (x : List UInt8 × LP) : newS (l ++ [x]) = stepS (newS l) x := by simp [newS]
theorem step_stop (R : List (List UInt8 × LP) × Int) (h : R.2 ≠ 0) : ∀ (l : List (List UInt8 × LP)), l.foldl stepS R = R
  | [] => rfl
  | x :: l => by
    rw [List.foldl_cons, show stepS R x = R by unfold stepS; rw [if_neg h]]
    exact step_stop R h l
theorem new_stop (l : List (List UInt8 × LP)) (i : Nat) (h : (newS (l.take i)).2 ≠ 0) : newS l = newS (l.take i) := by
  conv => lhs; rw [← List.take_append_drop i l]
  unfold newS at h ⊢
  rw [List.foldl_append]
  exact step_stop _ h _
theorem new_ok (l : List (List UInt8 × LP)) : TreeOk (newS l).1 := by
  unfold newS
  have : ∀ (l : List (List UInt8 × LP)) R, TreeOk R.1 → TreeOk (l.foldl stepS R).1 := by
    intro l
    induction l with
    | nil => exact fun R h => h
    | cons x l ih =>
      intro R h
      refine ih _ ?_
      unfold stepS
      split
      · exact h.set x.1 x.2
      · exact h
  exact this l _ TreeOk.nil
/-- what New tells -/
def NewTo (w w' : World) (e : Ending) (R : List (List UInt8 × LP) × Int) : Prop :=
  (Hid (R.2 ≠ 0) ∧ e = .returned (.tuple #[.pointer none, .int .i64 R.2]) ∧ Below w.heap.size w w') ∨
  (Hid (R.2 = 0) ∧ ∃ (tb : Nat) (mo : Option Nat) (L : List (List UInt8 × LV)), e = .returned (.tuple #[.pointer (some ⟨tb, 0, none⟩), .int .i64 0]) ∧ TreeAt w' tb mo L ∧ Hid (plainL L = R.1) ∧ Below w.heap.size w w')
set_option maxRecDepth 100000 in
set_option maxHeartbeats 1000000 in
theorem treeNew_any (A : Option Addr) (c : Nat) (l : List (List UInt8 × LV)) (w : World) (h : ItA w A l) (hl : l.length ≤ 200 ∧ ∀ x ∈ l, x.1.length ≤ 200 ∧ x.2.x.l.length ≤ 20000) :
    Calls Try.prog 12 #[.slice A l.length c] w fun e w' => NewTo w w' e (newS (plainL l)) := by
  have HA := Lib.hid h
  clear h
  go_enter Try.func12, Try.ntmps12
  go_wp2_with fail
  have ht1 := TreeAt.new w
  have hb1 : Below w.heap.size w (w.alloc (.cells #[.map none] 58)) := (by repeat (first | exact Below.refl _ _ | refine Below.alloc ?_ (by simp) _ | refine Below.setCell ?_ (by simp) _ | refine Below.drew ?_))
  generalize w.alloc (.cells #[.map none] 58) = w1 at *
  generalize htb : w.heap.size = tb at *
  have htw : w.heap.size ≤ tb := by omega
  have HT1 := Lib.hid ht1
  clear ht1
  go_loopw [12] (fun iv wr => ∃ (i : Nat) (mo : Option Nat) (L : List (List UInt8 × LV)), i ≤ l.length ∧ iv = .int .i64 (i : Int) ∧ TreeAt wr tb mo L ∧ Hid (newS (plainL (l.take i)) = (plainL L, 0)) ∧ (∀ m, mo = some m → tb ≤ m) ∧ Below tb w wr) (fun iv _ => l.length - (intOf iv).toNat)
  case atStart => exact ⟨0, none, [], Nat.zero_le _, rfl, HT1.out, rfl, by simp, hb1⟩
  case round =>
    obtain ⟨i, mo, L, hi, rfl, hT, hn, hmo, hb⟩ := hrel
    have hbw : Below w.heap.size w wr := by rw [htb]; exact hb
    by_cases hlt : i < l.length
    · have hA := HA.out.below hbw
      obtain ⟨b, off, rfl, hbb, hc0, hc1, hc2⟩ := hA.at_ hlt
      have hxo := hA.ok _ (List.getElem_mem hlt)
      have hxl := hl.2 _ (List.getElem_mem hlt)
      have hps : newS (plainL (l.take (i + 1))) = (setS (plainL L) l[i].1 l[i].2.p, mayS (plainL L) l[i].1 l[i].2.p) := by rw [plain_snoc l i hlt, new_snoc, hn.out]; rfl
      have hst : mayS (plainL L) l[i].1 l[i].2.p ≠ 0 → newS (plainL l) = newS (plainL (l.take (i + 1))) := fun h0 => by
        have e : plainL (l.take (i + 1)) = (plainL l).take (i + 1) := by simp [plainL]
        rw [e]
        refine new_stop _ _ ?_
        rw [← e, hps]
        exact h0
      have hsz := hbw.size
      obtain ⟨x, hx⟩ : ∃ x, x = l[i] := ⟨_, rfl⟩
      rw [← hx] at hc0 hc1 hc2 hxo hxl hps hst
      simp only [stv] at hc0
      have hba : Below wr.heap.size wr (wr.alloc (.cells #[.string ⟨⟨x.1⟩⟩, .int .i64 x.2.k, .slice x.2.x.A x.2.x.l.length x.2.x.c] 30)) := (Below.refl _ _).alloc (Nat.le_refl _) _
      have xb := Blk.new wr 30 #[.string ⟨⟨x.1⟩⟩, .int .i64 x.2.k, .slice x.2.x.A x.2.x.l.length x.2.x.c]
      have HT2 := Lib.hid (hT.below hba)
      have HX1 := Lib.hid (hxo.1.x.below hba)
      have hw1 := hbw.trans (hba.mono hbw.size)
      obtain ⟨hx1, hx2⟩ := hxl
      have q0 := xb.cell 0
      have q1 := xb.cell 1
      have q2 := xb.cell 2
      simp only [List.getElem?_toArray, List.getElem?_cons_zero, List.getElem?_cons_succ] at q0 q1 q2
      have HPS := Lib.hid hps
      have HST := Lib.hid hst
      obtain ⟨ms, hms⟩ : ∃ ms, ms = mayS (plainL L) x.1 (x.2.k, x.2.x.l) := ⟨_, rfl⟩
      have HMS := Lib.hid hms
      clear hT hA hxo hx hps hst hn hms
      go_wp2_with fail
      refine (treeSet_any sortsT tb mo L x.1 x.2.k x.2.x.A x.2.x.c x.2.x.l _ _ HT2.out HX1.out.1 (by omega) (by omega)).mono ?_
      rintro e w3 ⟨rfl, hto⟩
      rw [← HMS.out]
      obtain ⟨⟨mo', L', hT3, hL3, hmo3⟩, hfr⟩ := hto
      have hw3 : Below w.heap.size w w3 := hw1.trans (hfr.below hw1.size (fun k hk e => by
        rcases e with e | e
        · omega
        · have := hmo _ e; omega))
      have hmo4 : ∀ m, mo' = some m → tb ≤ m := fun m e => by
        rcases hmo3 m e with e | e
        · exact hmo m e
        · have := hw1.size; omega
      by_cases hm0 : ms = 0
      · have HN2 : Hid (newS (plainL (l.take (i + 1))) = (plainL L', 0)) := Lib.hid (by rw [HPS.out]; exact Prod.ext hL3.out.symm (HMS.out.symm.trans hm0))
        have HT3 := Lib.hid hT3
        subst hm0
        clear hT3 hfr hL3 HT2 HX1 xb hmo3 q0 q1 q2 HPS HST HMS hc0 hc1 hc2
        go_wp2_with fail
        go_roundw
        case rel => exact ⟨i + 1, mo', L', hlt, by go_num, HT3.out, HN2, hmo4, by rw [htb] at hw3; exact hw3⟩
        case measure => simp [intOf]; omega
      · have hmb : (ms != 0) = true := by simpa using hm0
        have hR2 : (newS (plainL l)).2 = ms := by
          rw [HST.out (by rw [show x.2.p = (x.2.k, x.2.x.l) from rfl, ← HMS.out]; exact hm0), HPS.out, HMS.out]; rfl
        have HR := Lib.hid hR2
        clear hT3 hfr hL3 HT2 HX1 xb hmo3 q0 q1 q2 HPS HST HMS hc0 hc1 hc2 hR2
        go_wp2_with fail
        go_ret2
        exact .inl ⟨by show _ ≠ _; rw [HR.out]; exact hm0, by rw [HR.out]; rfl, hw3⟩
    · have e : i = l.length := by omega
      subst e
      rw [List.take_length] at hn
      go_wp2_with fail
      go_ret2
      exact .inr ⟨by show _ = _; rw [hn.out], tb, mo, L, rfl, hT, by show _ = _; rw [hn.out], hbw⟩
end Go.Proofs.Ytedbjkmgfcnkeaa

/- name.Move. -/
namespace Go.Proofs.Ytedbjkmgfcnkeaa
open Go.RowKit

/-- where a path stands, once another one was moved -/
def moveT (p f t : List UInt8) : List UInt8 × Bool :=
  if goodB p && goodB f && goodB t && (p == f || underB p f) && goodB (t ++ p.drop f.length) then (t ++ p.drop f.length, true) else ([], false)
theorem drop_pre {p f : List UInt8} (h : preB p f = true) : ∃ q, p = f ++ 47 :: q := by
  unfold preB at h
  obtain ⟨q, rfl⟩ := List.isPrefixOf_iff_prefix.1 h
  exact ⟨q, by simp⟩
/-- the same by parts -/
theorem move_parts {p f : List UInt8} (t : List UInt8) (h : p = f ∨ preB p f = true) : pasteL (cutL t ++ (cutL p).drop (cutL f).length) = t ++ p.drop f.length := by
  rcases h with rfl | h
  · rw [List.drop_of_length_le (Nat.le_refl _), List.drop_of_length_le (Nat.le_refl _), List.append_nil, List.append_nil, paste_cut]
  · obtain ⟨q, rfl⟩ := drop_pre h
    rw [cut_app, List.drop_left' rfl, List.drop_left' rfl, paste_app _ _ (cutL_ne t) (cutL_ne q), paste_cut, paste_cut]

set_option maxRecDepth 100000 in
set_option maxHeartbeats 1000000 in
theorem move_any (p f t : ByteArray) (hp : p.size ≤ 1048576) (hf : f.size ≤ 1048576) (ht : t.size ≤ 1048576) (w : World) : Calls Try.prog 117 #[.string p, .string f, .string t] w fun e w' => ∃ s b, e = .returned (.tuple #[.string s, .bool b]) ∧ Hid ((tl s, b) = moveT (tl p) (tl f) (tl t)) ∧ Below w.heap.size w w' := by
  obtain ⟨M, hM⟩ : ∃ M, M = moveT (tl p) (tl f) (tl t) := ⟨_, rfl⟩
  rw [← hM]
  cases gp : goodB (tl p)
  · have HP := Lib.hid (check_no p (by omega) gp)
    have HM : Hid (M = ([], false)) := by show _ = _; rw [hM]; unfold moveT; rw [gp]; rfl
    clear gp hM
    go_enter Try.func117, Try.ntmps117
    go_wp2_with fail
    refine (HP.out _).mono ?_
    rintro e w1 ⟨rfl, hb1⟩
    go_wp2_with fail
    go_ret2
    exact ⟨_, _, rfl, HM.out.symm, hb1⟩
  have HP := Lib.hid (check_yes p (by omega) gp)
  cases gf : goodB (tl f)
  · have HF := Lib.hid (check_no f (by omega) gf)
    have HM : Hid (M = ([], false)) := by show _ = _; rw [hM]; unfold moveT; rw [gp, gf]; rfl
    clear gp gf hM
    go_enter Try.func117, Try.ntmps117
    go_wp2_with fail
    refine (HP.out _).mono ?_
    rintro e w1 ⟨rfl, hb1⟩
    go_wp2_with fail
    refine (HF.out _).mono ?_
    rintro e w2 ⟨rfl, hb2⟩
    go_wp2_with fail
    go_ret2
    exact ⟨_, _, rfl, HM.out.symm, bthen hb1 hb2⟩
  have HF := Lib.hid (check_yes f (by omega) gf)
  cases gt : goodB (tl t)
  · have HT := Lib.hid (check_no t (by omega) gt)
    have HM : Hid (M = ([], false)) := by show _ = _; rw [hM]; unfold moveT; rw [gp, gf, gt]; rfl
    clear gp gf gt hM
    go_enter Try.func117, Try.ntmps117
    go_wp2_with fail
    refine (HP.out _).mono ?_
    rintro e w1 ⟨rfl, hb1⟩
    go_wp2_with fail
    refine (HF.out _).mono ?_
    rintro e w2 ⟨rfl, hb2⟩
    go_wp2_with fail
    refine (HT.out _).mono ?_
    rintro e w3 ⟨rfl, hb3⟩
    go_wp2_with fail
    go_ret2
    exact ⟨_, _, rfl, HM.out.symm, bthen (bthen hb1 hb2) hb3⟩
  have HT := Lib.hid (check_yes t (by omega) gt)
  have HU := Lib.hid (fun w => under_any p f (by omega) (by omega) w)
  have hts := goodB_len gt
  rw [tl_len] at hts
  have hps := goodB_len gp
  rw [tl_len] at hps
  have hfs := goodB_len gf
  rw [tl_len] at hfs
  -- the new path
  have hO : ∀ (_ : f.size ≤ p.size), tl (t ++ p.extract f.size p.size) = tl t ++ (tl p).drop (tl f).length := fun _ => by rw [under_short, tl_tail, tl_len]
  by_cases hor : p = f ∨ preB (tl p) (tl f) = true
  · have hle : f.size ≤ p.size := by
      rcases hor with h | h
      · rw [h]; exact Nat.le_refl _
      · obtain ⟨q, h⟩ := drop_pre h
        have := congrArg List.length h
        rw [List.length_append, tl_len, tl_len] at this
        omega
    have hor2 : (tl p == tl f || underB (tl p) (tl f)) = true := by
      rcases hor with h | h
      · rw [h]; simp
      · unfold underB; rw [gp, gf, h]; simp
    cases go : goodB (tl t ++ (tl p).drop (tl f).length)
    all_goals
      have HG := Lib.hid (fun w => check_any (t ++ p.extract f.size p.size) (by simp; omega) w)
      rw [hO hle, go] at HG
      have HM : Hid (M = if goodB (tl t ++ (tl p).drop (tl f).length) then (tl (t ++ p.extract f.size p.size), true) else ([], false)) := by
        show _ = _
        rw [hM]; unfold moveT; rw [gp, gf, gt, hor2, go, hO hle]; rfl
      rw [go] at HM
      have b1 : (f.size : Int) ≤ (p.size : Int) := by omega
      have b2 : (0 : Int) ≤ (f.size : Int) := by omega
      have b3 : t.size + (p.size - f.size) ≤ 9223372036854775807 := by omega
      by_cases hpf : p = f
      · have hn := neq_yes hpf
        clear gp gf gt hor hor2 hM hO go hpf
        go_enter Try.func117, Try.ntmps117
        go_wp2_with fail
        refine (HP.out _).mono ?_
        rintro e w1 ⟨rfl, hb1⟩
        go_wp2_with fail
        refine (HF.out _).mono ?_
        rintro e w2 ⟨rfl, hb2⟩
        go_wp2_with fail
        refine (HT.out _).mono ?_
        rintro e w3 ⟨rfl, hb3⟩
        replace hb3 := bthen (bthen hb1 hb2) hb3
        go_wp2_with fail
        refine (HG.out _).mono ?_
        rintro e w4 ⟨rfl, hb4⟩
        go_wp2_with fail
        go_ret2
        exact ⟨_, _, rfl, HM.out.symm, bthen hb3 hb4⟩
      · have hn := neq_no hpf
        have hpu : preB (tl p) (tl f) = true := hor.resolve_left hpf
        have hut : underB (tl p) (tl f) = true := by unfold underB; rw [gp, gf, hpu]; rfl
        have HU2 := HU
        rw [hut] at HU2
        clear gp gf gt hor hor2 hM hO go hpf hpu hut HU
        go_enter Try.func117, Try.ntmps117
        go_wp2_with fail
        refine (HP.out _).mono ?_
        rintro e w1 ⟨rfl, hb1⟩
        go_wp2_with fail
        refine (HF.out _).mono ?_
        rintro e w2 ⟨rfl, hb2⟩
        go_wp2_with fail
        refine (HT.out _).mono ?_
        rintro e w3 ⟨rfl, hb3⟩
        replace hb3 := bthen (bthen hb1 hb2) hb3
        go_wp2_with fail
        refine (HU2.out _).mono ?_
        rintro e w5 ⟨rfl, hb5⟩
        replace hb5 := bthen hb3 hb5
        go_wp2_with fail
        refine (HG.out _).mono ?_
        rintro e w4 ⟨rfl, hb4⟩
        go_wp2_with fail
        go_ret2
        exact ⟨_, _, rfl, HM.out.symm, bthen hb5 hb4⟩
  · have hpf : p ≠ f := fun e => hor (.inl e)
    have hn := neq_no hpf
    have hut : underB (tl p) (tl f) = false := by
      have : preB (tl p) (tl f) = false := by cases h : preB (tl p) (tl f); rfl; exact (hor (.inr h)).elim
      unfold underB; rw [this]; simp
    have hne : (tl p == tl f) = false := by simp only [beq_eq_false_iff_ne, ne_eq]; exact fun e => hpf (tl_inj e)
    have HM : Hid (M = ([], false)) := by show _ = _; rw [hM]; unfold moveT; rw [hut, hne]; simp
    rw [hut] at HU
    clear gp gf gt hor hM hO hpf hut hne
    go_enter Try.func117, Try.ntmps117
    go_wp2_with fail
    refine (HP.out _).mono ?_
    rintro e w1 ⟨rfl, hb1⟩
    go_wp2_with fail
    refine (HF.out _).mono ?_
    rintro e w2 ⟨rfl, hb2⟩
    go_wp2_with fail
    refine (HT.out _).mono ?_
    rintro e w3 ⟨rfl, hb3⟩
    replace hb3 := bthen (bthen hb1 hb2) hb3
    go_wp2_with fail
    refine (HU.out _).mono ?_
    rintro e w5 ⟨rfl, hb5⟩
    replace hb5 := bthen hb3 hb5
    go_wp2_with fail
    go_ret2
    exact ⟨_, _, rfl, HM.out.symm, hb5⟩
end Go.Proofs.Ytedbjkmgfcnkeaa

/- What users' edits set, plainly. -/
namespace Go.Proofs.Ytedbjkmgfcnkeaa
open Go.RowKit

/-- an edit -/
structure XV where
  k : Int
  p : List UInt8
  t : List UInt8
  d : BV
/-- whether an edit is right -/
def checkX (k : Int) (p t : List UInt8) (n : Nat) : Int :=
  if userB p = false ∨ (k = 5 ∧ userB t = false) then 23
  else if k < 1 ∨ 5 < k ∨ (k = 5 ∧ (t = p ∨ underB t p = true)) then 2
  else if 4096 < n then 13 else 0
/-- nothing at a path, and under it -/
def goneS (T : List (List UInt8 × LP)) (p : List UInt8) : List (List UInt8 × LP) := (((keysR T).filter fun q => underB q p).reverse ++ [p]).map fun q => (q, (0, []))
/-- what stands at a path, as a leaf -/
def leafS (T : List (List UInt8 × LP)) (p : List UInt8) : LP := (kindL (getR T p), dataL (getR T p))
/-- a path and what is under it -/
def treeS (T : List (List UInt8 × LP)) (p : List UInt8) : List (List UInt8) := p :: (keysR T).filter fun q => underB q p
def movedS (T : List (List UInt8 × LP)) (p t : List UInt8) : List (List UInt8 × LP) × Int :=
  if kindL (getR T t) ≠ 0 then ([], 21)
  else if (treeS T p).all (fun q => (moveT q p t).2) = true then ((treeS T p).map (fun q => ((moveT q p t).1, leafS T q)) ++ goneS T p, 0)
  else ([], 23)
def planS (T : List (List UInt8 × LP)) (k : Int) (p t d : List UInt8) : List (List UInt8 × LP) × Int :=
  if k = 2 ∧ kindL (getR T p) = 2 then ([], 22)
  else if k = 2 then (if 4096 < (dataL (getR T p) ++ d).length then ([], 13) else ([(p, (1, dataL (getR T p) ++ d))], 0))
  else if k = 1 then ([(p, (1, d))], 0)
  else if k = 3 then ([(p, (2, []))], 0)
  else if kindL (getR T p) = 0 then ([], 20)
  else if k = 4 then (goneS T p, 0)
  else movedS T p t
/-- set, while there is no error -/
def tryS (T : List (List UInt8 × LP)) (l : List (List UInt8 × LP)) : List (List UInt8 × LP) × Int := l.foldl stepS (T, 0)
def itemsS (T : List (List UInt8 × LP)) (k : Int) (p t d : List UInt8) : List (List UInt8 × LP) × Int :=
  if checkX k p t d.length ≠ 0 then ([], checkX k p t d.length)
  else if (planS T k p t d).2 ≠ 0 then ([], (planS T k p t d).2)
  else if (tryS T (planS T k p t d).1).2 ≠ 0 then ([], (tryS T (planS T k p t d).1).2)
  else ((planS T k p t d).1, 0)
theorem try_snoc (T l : List (List UInt8 × LP)) (x : List UInt8 × LP) : tryS T (l ++ [x]) = stepS (tryS T l) x := by simp [tryS]
theorem try_stop (T l : List (List UInt8 × LP)) (i : Nat) (h : (tryS T (l.take i)).2 ≠ 0) : tryS T l = tryS T (l.take i) := by
  conv => lhs; rw [← List.take_append_drop i l]
  unfold tryS at h ⊢
  rw [List.foldl_append]
  exact step_stop _ h _
theorem try_ok (T l : List (List UInt8 × LP)) (h : TreeOk T) : TreeOk (tryS T l).1 := by
  have : ∀ (l : List (List UInt8 × LP)) R, TreeOk R.1 → TreeOk (l.foldl stepS R).1 := by
    intro l
    induction l with
    | nil => exact fun R h => h
    | cons x l ih =>
      intro R h
      refine ih _ ?_
      unfold stepS
      split
      · exact h.set x.1 x.2
      · exact h
  exact this l _ h
theorem move_top {p t : List UInt8} (hp : goodB p = true) (ht : goodB t = true) : moveT p p t = (t, true) := by
  unfold moveT
  rw [List.drop_length, List.append_nil, hp, ht]
  simp
theorem user_good {p : List UInt8} (h : userB p = true) : goodB p = true := by
  unfold userB at h
  simp only [Bool.and_eq_true] at h
  exact h.1
theorem good_ne {p : List UInt8} (h : goodB p = true) : p ≠ [] := by
  rintro rfl
  revert h
  decide
theorem move_ne (q p t : List UInt8) : (moveT q p t).2 = true ↔ (moveT q p t).1 ≠ [] := by
  unfold moveT
  split
  · rename_i h
    simp only [Bool.and_eq_true] at h
    exact ⟨fun _ => good_ne h.2, fun _ => rfl⟩
  · simp
theorem move_len (q p t : List UInt8) : (moveT q p t).1.length ≤ 96 := by
  unfold moveT
  split
  · rename_i h
    simp only [Bool.and_eq_true] at h
    exact goodB_len h.2
  · simp
/-- the items of a plan are few -/
theorem tree_len {T : List (List UInt8 × LP)} (h : TreeOk T) (p : List UInt8) : (treeS T p).length ≤ 129 := by
  have h1 := List.length_filter_le (fun q => underB q p) (keysR T)
  have h2 := keys_len T
  have h3 := h.len
  simp only [treeS, List.length_cons]
  omega
theorem gone_len {T : List (List UInt8 × LP)} (h : TreeOk T) (p : List UInt8) : (goneS T p).length ≤ 129 := by
  have h1 := List.length_filter_le (fun q => underB q p) (keysR T)
  have h2 := keys_len T
  have h3 := h.len
  simp only [goneS, List.length_map, List.length_append, List.length_reverse, List.length_cons, List.length_nil]
  omega

theorem leafS_len {T : List (List UInt8 × LP)} (h : TreeOk T) (p : List UInt8) : (leafS T p).2.length ≤ 4096 := by
  unfold leafS
  rcases hg : getR T p with _ | v
  · simp [dataL]
  · have h1 := (h.good _ (getR_mem hg)).2.2
    show v.2.length ≤ 4096
    unfold checkN at h1
    dsimp only at h1
    by_cases k1 : v.1 = 1
    · rw [if_pos k1] at h1
      by_cases h2 : v.2.length ≤ 4096
      · exact h2
      · rw [if_neg h2] at h1; simp at h1
    · rw [if_neg k1] at h1
      by_cases h3 : v.1 = 0 ∨ v.1 = 2
      · rw [if_pos h3] at h1
        by_cases h4 : v.2.length = 0
        · omega
        · rw [if_neg h4] at h1; simp at h1
      · rw [if_neg h3] at h1; simp at h1
theorem gone_small {T : List (List UInt8 × LP)} (h : TreeOk T) {p : List UInt8} (hp : p.length ≤ 1048576) : ∀ x ∈ goneS T p, x.1.length ≤ 1048576 ∧ x.2.2.length ≤ 4096 := by
  intro x hx
  obtain ⟨q, hq, rfl⟩ := List.mem_map.1 hx
  refine ⟨?_, by simp⟩
  rcases List.mem_append.1 hq with hq | hq
  · have h1 := (List.mem_filter.1 (List.mem_reverse.1 hq)).1
    obtain ⟨y, hy, rfl⟩ := List.mem_map.1 h1
    have := goodB_len (h.good y hy).1
    show y.1.length ≤ _
    omega
  · rw [List.mem_singleton.1 hq]; exact hp
theorem plan_small {T : List (List UInt8 × LP)} (h : TreeOk T) (k : Int) (p t d : List UInt8) (hp : p.length ≤ 1048576) (hd : d.length ≤ 4096) : (planS T k p t d).1.length ≤ 300 ∧ ∀ x ∈ (planS T k p t d).1, x.1.length ≤ 1048576 ∧ x.2.2.length ≤ 4096 := by
  have hg1 := gone_len h p
  have hg2 := gone_small h hp
  have ht := tree_len h p
  unfold planS
  split
  · simp
  · split
    · split
      · simp
      · rename_i h4
        refine ⟨by simp, fun x hx => ?_⟩
        rw [List.mem_singleton.1 hx]
        refine ⟨hp, ?_⟩
        dsimp only
        omega
    · split
      · refine ⟨by simp, fun x hx => ?_⟩
        rw [List.mem_singleton.1 hx]
        exact ⟨hp, hd⟩
      · split
        · refine ⟨by simp, fun x hx => ?_⟩
          rw [List.mem_singleton.1 hx]
          exact ⟨hp, by simp⟩
        · split
          · simp
          · split
            · exact ⟨by dsimp only; omega, hg2⟩
            · unfold movedS
              split
              · simp
              · split
                · refine ⟨by rw [List.length_append, List.length_map]; omega, fun x hx => ?_⟩
                  rcases List.mem_append.1 hx with hx | hx
                  · obtain ⟨q, _, rfl⟩ := List.mem_map.1 hx
                    have := move_len q p t
                    exact ⟨by dsimp only; omega, leafS_len h q⟩
                  · exact hg2 x hx
                · simp
end Go.Proofs.Ytedbjkmgfcnkeaa

/- edit.gone and tenderref10.gone. -/
namespace Go.Proofs.Ytedbjkmgfcnkeaa
open Go.Shelf Go.RowKit Go.Lib Go.Sort

theorem reverseT_any (base : Nat) (A : Option Addr) (c : Nat) (ss : List (List UInt8)) (w : World) (hown : w.ownsRow base 9 1 (.slice A ss.length c) ss.length (ss.map stv)) (hss : ss.length ≤ 1099511627776) :
    Calls Try.prog 116 #[.slice A ss.length c] w fun e w' => e = .returned (.tuple #[]) ∧ w'.ownsRow base 9 1 (.slice A ss.reverse.length c) ss.reverse.length (ss.reverse.map stv) ∧ w.grownBy w' (ablk A) := by
  rcases hown.2 with ⟨hnil, h0⟩ | ⟨g, cap, cur, hv, hbase, hb, h1, h2, h3, h4⟩
  · obtain ⟨rfl, hl0, rfl⟩ : A = none ∧ ss.length = 0 ∧ c = 0 := by simpa using hnil
    obtain rfl : ss = [] := List.eq_nil_of_length_eq_zero hl0
    refine (Try.slices_Reverse_string_empty none 0 w).mono ?_
    rintro e w' ⟨rfl, rfl⟩
    exact ⟨rfl, by simpa using hown, World.grownBy.refl _ _⟩
  · obtain ⟨rfl, rfl⟩ : A = some ⟨g, 0, none⟩ ∧ c = cap := by simpa using hv
    have hH : Holds encStr w g 0 ss.toArray := holds_of_blockG hb (by rw [Nat.mul_one] at h4; exact h4)
    refine (Try.slices_Reverse_string g 0 c ss w hH (by omega)).mono ?_
    rintro e w' ⟨rfl, n, rfl⟩
    refine ⟨rfl, ?_, ?_⟩
    · have := ownsRow_sortedG (enc := encStr) (n := n) (os := #[]) (ts := ss.reverse) (ss := ss) (by simp) hbase hb h1 h2 h3
      rw [List.length_reverse]
      exact this
    · exact grownBy_sortedG (os := #[]) _
/-- a row of texts of the call's own, and one more put behind it -/
theorem noneOf (q : List UInt8) : plainL [(q, (⟨0, ⟨none, 0, []⟩⟩ : LV))] = [(q, (0, []))] := rfl
set_option maxRecDepth 100000 in
set_option maxHeartbeats 1000000 in
theorem gone_any (tb : Nat) (mo : Option Nat) (L : List (List UInt8 × LV)) (p : List UInt8) (w : World) (h : TreeAt w tb mo L) (hp : p.length ≤ 1048576) :
    Calls Try.prog 88 #[.pointer (some ⟨tb, 0, none⟩), .string ⟨⟨p⟩⟩] w fun e w' => ∃ (A : Option Addr) (c : Nat) (M : List (List UInt8 × LV)), e = .returned (.slice A M.length c) ∧ Hid (plainL M = goneS (plainL L) p) ∧ ItsOwn w' w.heap.size A c M ∧ Below w.heap.size w w' := by
  have hlen : L.length ≤ 128 := by have := h.plain.len; rwa [plain_len] at this
  have hb0 : Below w.heap.size w (w.alloc (.cells #[.string ⟨⟨p⟩⟩] 9)) := (by repeat (first | exact Below.refl _ _ | refine Below.alloc ?_ (by simp) _ | refine Below.setCell ?_ (by simp) _ | refine Below.drew ?_))
  have hlit : (w.alloc (.cells #[.string ⟨⟨p⟩⟩] 9)).ownsRow w.heap.size 9 1 (.slice (some ⟨w.heap.size, 0, none⟩) 1 1) 1 [stv p] := World.ownsRow_lit (base := w.heap.size) (e := 9) (size := 1) w #[stv p] 1 (Nat.le_refl _) (by simp [maxLen]) (by simp)
  have HLIT := Lib.hid hlit
  have HB := Lib.hid (treeBelow_any sortsT tb mo L p _ (h.below hb0) (by omega))
  obtain ⟨G, hG⟩ : ∃ G, G = goneS (plainL L) p := ⟨_, rfl⟩
  rw [← hG]
  have HG := Lib.hid hG
  clear h hG hlit
  go_enter Try.func88, Try.ntmps88
  go_wp2_with fail
  refine HB.out.mono ?_
  rintro e w1 ⟨⟨A1, c1, l, rfl, hl, ho⟩, hb1⟩
  have hw1 := hb0.trans (hb1.mono hb0.size)
  have hll : l.length ≤ 128 := by
    rw [hl.out]
    refine Nat.le_trans (List.length_filter_le _ _) ?_
    rw [keys_len]
    exact hlen
  have HLIT1 := Lib.hid (own_below HLIT.out hb1)
  have HR1 := Lib.hid (own_txt ho)
  have HE : Hid (G = ((p :: l).reverse).map fun q => (q, (0, []))) := Lib.hid (by rw [HG.out, hl.out]; unfold goneS; rw [keys_plain, List.reverse_cons])
  obtain ⟨i0, hi0, hz0, hz1, hz2⟩ := info_parts str_info
  clear hl ho HB HG HLIT hb1 hb0
  go_wp2_with (at_builtin; refine wpList_append_any _ rfl (.tmp 9) (.tmp 12) 46 rfl w.heap.size 9 i0 _ 1 16 Try.underlying46 hi0 hz0 hz1 hz2 rfl (by omega) (.slice (some ⟨w.heap.size, 0, none⟩) 1 1) 1 [stv p] rfl HLIT1.out _ _ l.length c1 (l.map stv) rfl HR1.out (st_one _) (by simp only [maxLen]; omega) (by omega) hw1.size ?_; intro v4 w4 hown4 hg4 hat4; obtain ⟨A4, c4, rfl, hjk⟩ := own_form hown4; clear hjk)
  have hw4 : Below w.heap.size w w4 := hw1.trans (grown_below hg4 hw1.size (fun g hg => (HLIT1.out.lt _ hg).1))
  obtain ⟨ss, hss⟩ : ∃ ss, ss = p :: l := ⟨_, rfl⟩
  have hsl : ss.length = 1 + l.length := by rw [hss, List.length_cons, Nat.add_comm]
  rw [← hss] at HE
  have hown5 : w4.ownsRow w.heap.size 9 1 (.slice A4 ss.length c4) ss.length (ss.map stv) := by
    rw [hsl, hss]
    exact hown4
  rw [← hsl]
  have hss2 : ss.length ≤ 129 := by omega
  clear hown4 hg4 hat4 HLIT1 HR1 hss hsl hw1
  go_wp2_with fail
  refine (reverseT_any w.heap.size A4 c4 ss w4 hown5 (by omega)).mono ?_
  rintro e w5 ⟨rfl, hown6, hg6⟩
  have hblk : ∀ g, ablk A4 = some g → w.heap.size ≤ g := fun g hg => by
    obtain ⟨A', c', e, _, _, h6, _⟩ := own_form hown5
    injection e with e _ _
    subst e
    exact (h6 g hg).1
  have hw5 : Below w.heap.size w w5 := hw4.trans (grown_below hg6 hw4.size hblk)
  have hrl : ss.length = ss.reverse.length := by simp
  rw [hrl]
  have hr2 : ss.reverse.length ≤ 129 := by omega
  clear hrl hg6 hblk hown5 hw4 hss2
  generalize ss.reverse = rs at *
  have HO := Lib.hid hown6
  have hs1 := hw5.size
  clear hown6
  go_wp2_with fail
  go_loopw [4, 18] (fun ov iv wr => ∃ (i : Nat) (A : Option Addr) (c : Nat) (M : List (List UInt8 × LV)), i ≤ rs.length ∧ iv = .int .i64 (i : Int) ∧ ov = .slice A M.length c ∧ Hid (plainL M = (rs.take i).map fun q => (q, (0, []))) ∧ M.length = i ∧ ItsOwn wr w5.heap.size A c M ∧ Below w5.heap.size w5 wr) (fun _ iv _ => rs.length - (intOf iv).toNat)
  case atStart => exact ⟨0, none, 0, [], Nat.zero_le _, rfl, rfl, rfl, rfl, ⟨World.ownsRow_nil _ _ _ _, by simp⟩, Below.refl _ _⟩
  case round =>
    obtain ⟨i, A, c, M, hi, rfl, rfl, hM, hMi, hO, hb⟩ := hrel
    by_cases hlt : i < rs.length
    · obtain ⟨b, off, hA, hbb, c0⟩ := txt_at HO.out hlt
      have c0' := cellAt hb hbb c0
      have HN : Hid (plainL (M ++ [(rs[i], (⟨0, ⟨none, 0, []⟩⟩ : LV))]) = (rs.take (i + 1)).map fun q => (q, (0, []))) := by
        show _ = _
        rw [plain_app, hM.out, List.take_succ_eq_append_getElem hlt, List.map_append]
        rfl
      subst hA
      generalize rs[i] = q at *
      simp only [stv] at c0'
      obtain ⟨y, hy⟩ : ∃ y : List UInt8 × LV, y = (q, ⟨0, ⟨none, 0, []⟩⟩) := ⟨_, rfl⟩
      rw [← hy] at HN
      have hba : Below w5.heap.size w5 (wr.alloc (.cells #[.string ⟨⟨q⟩⟩, .int .i64 0, .slice none 0 0] 30)) := hb.alloc hb.size _
      have hal : Below wr.heap.size wr (wr.alloc (.cells #[.string ⟨⟨q⟩⟩, .int .i64 0, .slice none 0 0] 30)) := (Below.refl _ wr).alloc (Nat.le_refl _) _
      have hO3 := Lib.hid (hO.below hal)
      have ra : Hid (Rd (wr.alloc (.cells #[.string ⟨⟨q⟩⟩, .int .i64 0, .slice none 0 0] 30)) (fun _ => True) 3 (some ⟨wr.heap.size, 0, none⟩) 1 (itemC y)) := (Rd.lit (w := wr) (t := 30) (size := 3) (n := 1) (xs := itemC y) (by rw [hy]; rfl) rfl rfl).mono (fun _ _ _ => trivial)
      have hlb := Lib.hid (show M.length + 1 ≤ 1099511627776 by omega)
      have hyo := Lib.hid (show OwB (wr.alloc (.cells #[.string ⟨⟨q⟩⟩, .int .i64 0, .slice none 0 0] 30)) w5.heap.size (.slice y.2.x.A y.2.x.l.length y.2.x.c) y.2.x.l by rw [hy]; exact OwB.nil _ _)
      have hMe := Lib.hid hMi
      clear hO hal hM hb c0 hMi hy
      go_wp2_with (at_builtin; refine wpList_append_item rfl (.tmp 22) (.tmp 25) (t := 22) rfl rfl rfl hO3.out.row rfl ra.out hlb.out hba.size ?_; intro A5 c5 w6 ho5 hb5 hk5)
      have hb6 := hba.trans hb5
      have hO5 := hO3.out.push hyo.out ho5 hb5 hk5
      have hl5 : (M ++ [y]).length = i + 1 := by rw [List.length_append, hMe.out]; rfl
      go_roundw
      case rel => exact ⟨i + 1, A5, c5, M ++ [y], hlt, by go_num, by simp, HN, hl5, hO5, hb6⟩
      case measure => simp [intOf]; omega
    · have e : i = rs.length := by omega
      subst e
      have HN : Hid (plainL M = G) := by
        show _ = _
        rw [hM.out, HE.out, List.take_length]
      clear hM hMi
      go_wp2_with fail
      go_ret
      exact ⟨A, c, M, rfl, HN, hO.base hs1, hw5.trans (hb.mono hs1)⟩
set_option maxRecDepth 100000 in
set_option maxHeartbeats 1000000 in
theorem goneR_any (B : Option Addr) (d : Nat) (L : List (List UInt8 × LV)) (p : List UInt8) (w : World) (h : Its w B L) (hL : L.length ≤ 128) (hp : p.length ≤ 1048576) :
    Calls Try.prog 90 #[.slice B L.length d, .string ⟨⟨p⟩⟩] w fun e w' => ∃ (A : Option Addr) (c : Nat) (M : List (List UInt8 × LV)), e = .returned (.slice A M.length c) ∧ Hid (plainL M = goneS (plainL L) p) ∧ ItsOwn w' w.heap.size A c M ∧ Below w.heap.size w w' := by
  have HB := Lib.hid (refBelow_any B d L p w h hp)
  obtain ⟨G, hG⟩ : ∃ G, G = goneS (plainL L) p := ⟨_, rfl⟩
  rw [← hG]
  have HG := Lib.hid hG
  clear h hG
  go_enter Try.func90, Try.ntmps90
  go_wp2_with fail
  refine HB.out.mono ?_
  rintro e w1 ⟨⟨A1, c1, l, rfl, hl, ho⟩, hb1⟩
  have hll : l.length ≤ 128 := by
    rw [hl.out]
    refine Nat.le_trans (List.length_filter_le _ _) ?_
    rw [keys_len]
    exact hL
  have HE : Hid (G = (l.reverse ++ [p]).map fun q => (q, (0, []))) := Lib.hid (by rw [HG.out, hl.out]; unfold goneS; rw [keys_plain])
  have HO := Lib.hid ho
  have hs1 := hb1.size
  clear hl ho HB HG
  go_wp2_with fail
  go_loopw [5, 7] (fun ov iv wr => ∃ (i : Nat) (A : Option Addr) (c : Nat) (M : List (List UInt8 × LV)), i ≤ l.length ∧ iv = .int .i64 ((l.length : Int) - 1 - (i : Int)) ∧ ov = .slice A M.length c ∧ Hid (plainL M = (l.reverse.take i).map fun q => (q, (0, []))) ∧ M.length = i ∧ ItsOwn wr w1.heap.size A c M ∧ Below w1.heap.size w1 wr) (fun _ iv _ => (intOf iv + 1).toNat)
  case atStart => exact ⟨0, none, 0, [], Nat.zero_le _, by go_num, rfl, rfl, rfl, ⟨World.ownsRow_nil _ _ _ _, by simp⟩, Below.refl _ _⟩
  case round =>
    obtain ⟨i, A, c, M, hi, rfl, rfl, hM, hMi, hO, hb⟩ := hrel
    by_cases hlt : i < l.length
    · have hj : l.length - 1 - i < l.length := by omega
      obtain ⟨b, off, hA, hbb, c0⟩ := txt_at HO.out hj
      have c0' := cellAt hb hbb c0
      have hge : ((l.length : Int) - 1 - (i : Int)) = ((l.length - 1 - i : Nat) : Int) := by omega
      have hrv : l[l.length - 1 - i] = l.reverse[i]'(by simpa using hlt) := by rw [List.getElem_reverse]
      have HN : Hid (plainL (M ++ [(l[l.length - 1 - i], (⟨0, ⟨none, 0, []⟩⟩ : LV))]) = (l.reverse.take (i + 1)).map fun q => (q, (0, []))) := by
        show _ = _
        rw [plain_app, hM.out, List.take_succ_eq_append_getElem (by simpa using hlt), List.map_append, hrv]
        rfl
      rw [hge]
      subst hA
      generalize l[l.length - 1 - i] = q at *
      generalize hjn : l.length - 1 - i = j at *
      simp only [stv] at c0'
      obtain ⟨y, hy⟩ : ∃ y : List UInt8 × LV, y = (q, ⟨0, ⟨none, 0, []⟩⟩) := ⟨_, rfl⟩
      rw [← hy] at HN
      have hba : Below w1.heap.size w1 (wr.alloc (.cells #[.string ⟨⟨q⟩⟩, .int .i64 0, .slice none 0 0] 30)) := hb.alloc hb.size _
      have hal : Below wr.heap.size wr (wr.alloc (.cells #[.string ⟨⟨q⟩⟩, .int .i64 0, .slice none 0 0] 30)) := (Below.refl _ wr).alloc (Nat.le_refl _) _
      have hO3 := Lib.hid (hO.below hal)
      have ra : Hid (Rd (wr.alloc (.cells #[.string ⟨⟨q⟩⟩, .int .i64 0, .slice none 0 0] 30)) (fun _ => True) 3 (some ⟨wr.heap.size, 0, none⟩) 1 (itemC y)) := (Rd.lit (w := wr) (t := 30) (size := 3) (n := 1) (xs := itemC y) (by rw [hy]; rfl) rfl rfl).mono (fun _ _ _ => trivial)
      have hlb := Lib.hid (show M.length + 1 ≤ 1099511627776 by omega)
      have hyo := Lib.hid (show OwB (wr.alloc (.cells #[.string ⟨⟨q⟩⟩, .int .i64 0, .slice none 0 0] 30)) w1.heap.size (.slice y.2.x.A y.2.x.l.length y.2.x.c) y.2.x.l by rw [hy]; exact OwB.nil _ _)
      have hMe := Lib.hid hMi
      clear hO hal hM hb c0 hMi hy hge hrv
      go_wp2_with (at_builtin; refine wpList_append_item rfl (.tmp 18) (.tmp 24) (t := 22) rfl rfl rfl hO3.out.row rfl ra.out hlb.out hba.size ?_; intro A5 c5 w6 ho5 hb5 hk5)
      have hb6 := hba.trans hb5
      have hO5 := hO3.out.push hyo.out ho5 hb5 hk5
      have hl5 : (M ++ [y]).length = i + 1 := by rw [List.length_append, hMe.out]; rfl
      go_roundw
      case rel => exact ⟨i + 1, A5, c5, M ++ [y], hlt, by go_num, by simp, HN, hl5, hO5, hb6⟩
      case measure => simp only [intOf]; omega
    · have e : i = l.length := by omega
      subst e
      have hng : ((l.length : Int) - 1 - (l.length : Int)) = -1 := by omega
      rw [hng]
      obtain ⟨y, hy⟩ : ∃ y : List UInt8 × LV, y = (p, ⟨0, ⟨none, 0, []⟩⟩) := ⟨_, rfl⟩
      have HN : Hid (plainL (M ++ [y]) = G) := by
        show _ = _
        rw [plain_app, hM.out, HE.out, hy, show l.reverse.take l.length = l.reverse from List.take_of_length_le (by simp), List.map_append]
        rfl
      have hba : Below w1.heap.size w1 (wr.alloc (.cells #[.string ⟨⟨p⟩⟩, .int .i64 0, .slice none 0 0] 30)) := hb.alloc hb.size _
      have hal : Below wr.heap.size wr (wr.alloc (.cells #[.string ⟨⟨p⟩⟩, .int .i64 0, .slice none 0 0] 30)) := (Below.refl _ wr).alloc (Nat.le_refl _) _
      have hO3 := Lib.hid (hO.below hal)
      have ra : Hid (Rd (wr.alloc (.cells #[.string ⟨⟨p⟩⟩, .int .i64 0, .slice none 0 0] 30)) (fun _ => True) 3 (some ⟨wr.heap.size, 0, none⟩) 1 (itemC y)) := (Rd.lit (w := wr) (t := 30) (size := 3) (n := 1) (xs := itemC y) (by rw [hy]; rfl) rfl rfl).mono (fun _ _ _ => trivial)
      have hlb := Lib.hid (show M.length + 1 ≤ 1099511627776 by omega)
      have hyo := Lib.hid (show OwB (wr.alloc (.cells #[.string ⟨⟨p⟩⟩, .int .i64 0, .slice none 0 0] 30)) w1.heap.size (.slice y.2.x.A y.2.x.l.length y.2.x.c) y.2.x.l by rw [hy]; exact OwB.nil _ _)
      have hMe := Lib.hid hMi
      clear hO hal hM hb hMi hy
      go_wp2_with (at_builtin; refine wpList_append_item rfl (.tmp 26) (.tmp 29) (t := 22) rfl rfl rfl hO3.out.row rfl ra.out hlb.out hba.size ?_; intro A5 c5 w6 ho5 hb5 hk5)
      have hb6 := hba.trans hb5
      have hO5 := hO3.out.push hyo.out ho5 hb5 hk5
      have e5 : M.length + 1 = (M ++ [y]).length := by simp
      go_ret
      rw [e5]
      exact ⟨A5, c5, M ++ [y], rfl, HN, hO5.base hs1, hb1.trans (hb6.mono hs1)⟩
end Go.Proofs.Ytedbjkmgfcnkeaa

/- Drawn regions with two operations that make memory, neither of which waits for the other: both orders, and one continuation. No program. -/
namespace Go.Proofs.Ytedbjkmgfcnkeaa
open Go.RowKit

section
variable {P : Program} {ops : Array Oper} {md : Region.Mode} {C : World → Prop}
def mix2 (md : Region.Mode) (ops : Array Oper) (g m i j : Nat) (ks2 : List (Nat × Bool)) : List Nat → Array Bool → Bool
  | [], listed => decide (i < m) && decide (j < m) && decide (Region.ready md ops listed = [i, j]) && decide (Region.ready md ops (listed.setIfInBounds i true) = [j]) && decide (Region.ready md ops (listed.setIfInBounds j true) = [i]) &&
      mixP md ops g m ks2 ((listed.setIfInBounds i true).setIfInBounds j true) && mixP md ops g m ks2 ((listed.setIfInBounds j true).setIfInBounds i true)
  | k :: ks, listed => decide (k < m) && (Region.ready md ops listed).contains k && Region.free md ops listed k && mix2 md ops g m i j ks2 ks (listed.setIfInBounds k true)
theorem alone_step {m g i j : Nat} {Lq : Act → World → Prop} (hsel : ∀ (j : Nat) (o : Oper) cs b, ops[j]? = some o → o.op ≠ .select cs b) (hT : TailWaitsB md ops m)
    {oi oj : Oper} (hi : ops[i]? = some oi) (hj : ops[j]? = some oj) {listed : Array Bool} {a : Act} {w : World} (inv : HeadInv md ops m listed) (him : i < m) (hjm : j < m) (hri : i ∈ Region.ready md ops listed)
    (hr : Region.ready md ops (listed.setIfInBounds i true) = [j]) {ks2 : List (Nat × Bool)} {l2 : List Oper} (hl2 : l2.map some = ks2.map (fun x => ops[x.1]?)) (hs : mixP md ops g m ks2 ((listed.setIfInBounds i true).setIfInBounds j true) = true)
    (h : wpMix P ops C Lq (false :: false :: ks2.map (·.2)) (oi :: oj :: l2) a w) : i < m ∧ wpOp P ops Qz i (wpAnyT P md ops C m (fun listed' a' w' => Region.seqB md ops g m listed' = true ∧ Lq a' w') (l2.length + 1) (listed.setIfInBounds i true)) a w := by
  refine ⟨him, ?_⟩
  have rec_ : ∀ a' w', wpMix P ops C Lq (false :: ks2.map (·.2)) (oj :: l2) a' w' → wpAnyT P md ops C m (fun listed' a' w' => Region.seqB md ops g m listed' = true ∧ Lq a' w') (l2.length + 1) (listed.setIfInBounds i true) a' w' := fun a' w' h2 =>
    mix_perm hsel hT ((j, false) :: ks2) (oj :: l2) _ a' w' (by simp [hj, hl2]) (inv.set hri him) (by simp [mixP, hjm, hr, hs]) h2
  obtain ⟨_, h'⟩ := h
  unfold wpOp
  simp only [hi]
  rcases h' with ⟨hw, h'⟩ | ⟨hw, h'⟩
  · simp only [hw, if_true]
    exact .inl (Oper.wp_mono rec_ h')
  · simp only [hw, Bool.false_eq_true, if_false]
    exact rec_ _ _ h'
theorem mix_two {m g i j : Nat} {Lq : Act → World → Prop} (hsel : ∀ (j : Nat) (o : Oper) cs b, ops[j]? = some o → o.op ≠ .select cs b) (hT : TailWaitsB md ops m)
    {oi oj : Oper} (hi : ops[i]? = some oi) (hj : ops[j]? = some oj) {ks2 : List (Nat × Bool)} {l2 : List Oper} (hl2 : l2.map some = ks2.map (fun x => ops[x.1]?)) :
    ∀ (ks : List Nat) (l : List Oper) (listed : Array Bool) (a : Act) (w : World), l.map some = ks.map (fun x => ops[x]?) → HeadInv md ops m listed →
    mix2 md ops g m i j ks2 ks listed = true → wpMix P ops C (fun a' w' => MixW P ops C Lq (false :: false :: ks2.map (·.2)) (oi :: oj :: l2) a' w' ∧ MixW P ops C Lq (false :: false :: ks2.map (·.2)) (oj :: oi :: l2) a' w') (ks.map fun _ => true) l a w →
    wpAnyT P md ops C m (fun listed' a' w' => Region.seqB md ops g m listed' = true ∧ Lq a' w') (l.length + (l2.length + 2)) listed a w
  | [], [], listed, a, w, _, inv, hB, h => by
    simp only [mix2, Bool.and_eq_true, decide_eq_true_eq] at hB
    obtain ⟨⟨⟨⟨⟨⟨him, hjm⟩, hr⟩, hri⟩, hrj⟩, hs1⟩, hs2⟩ := hB
    obtain ⟨hc, h1, h2⟩ := h
    rw [List.length_nil, Nat.zero_add]
    refine ⟨hc, fun h => (by rw [hr] at h; cases h), fun x hx => ?_⟩
    have hx' := hx
    rw [hr] at hx
    rcases List.mem_cons.1 hx with rfl | hx
    · exact alone_step hsel hT hi hj inv him hjm hx' hri hl2 hs1 h1.go
    · obtain rfl := List.mem_singleton.1 hx
      exact alone_step hsel hT hj hi inv hjm him hx' hrj hl2 hs2 h2.go
  | k :: ks, o :: l, listed, a, w, hl, inv, hB, h => by
    simp only [List.map_cons, List.cons.injEq] at hl
    have h0 : ops[k]? = some o := hl.1.symm
    simp only [mix2, Bool.and_eq_true, decide_eq_true_eq] at hB
    obtain ⟨⟨⟨hkm, hr⟩, hf⟩, hB'⟩ := hB
    have hr' : k ∈ Region.ready md ops listed := by simpa using hr
    obtain ⟨v, hy, h'⟩ := h
    have := wpAnyT_first h0 hkm hsel hT _ listed a w inv (Region.free_spec h0 hf) hr' hy (mix_two hsel hT hi hj hl2 ks l _ _ w hl.2 (inv.set hr' hkm) hB' h')
    rwa [show l.length + (l2.length + 2) + 1 = (o :: l).length + (l2.length + 2) by simp only [List.length_cons]; omega] at this
  | [], _ :: _, _, _, _, hl, _, _, _ => by simp at hl
  | _ :: _, [], _, _, _, hl, _, _, _ => by simp at hl
theorem filterMap_someN (l : List Oper) : ∀ (ks : List Nat), ks.all (fun x => decide (x < l.length)) = true → (ks.filterMap fun x => l[x]?).map some = ks.map (fun x => l.toArray[x]?)
  | [], _ => rfl
  | x :: ks, h => by
    simp only [List.all_cons, Bool.and_eq_true, decide_eq_true_eq] at h
    have ih := filterMap_someN l ks h.2
    rw [List.filterMap_cons, List.getElem?_eq_getElem h.1]
    simp only [List.map_cons]
    rw [ih, show l.toArray[x]? = some l[x] by simp [h.1]]
/-- operations that tell, in an order of ours; two that are alone, in either order; more, by kinds; the rest one behind the other -/
theorem wp_region_2 {id : Nat} {Q : Exit → Act → World → Prop} {a : Act} {w : World} {l : List Oper} (ks : List Nat) (i j : Nat) (ks2 : List (Nat × Bool)) (n : Nat) (C : World → Prop) {oi oj : Oper} (hi : l.toArray[i]? = some oi) (hj : l.toArray[j]? = some oj) (hn : n = ks.length + (ks2.length + 2)) (hm : P.follows .mixedOrders = true)
    (hB : (ks.all (fun x => decide (x < l.length)) && ks2.all (fun x => decide (x.1 < l.length)) && tailOkB l.toArray n && mix2 .any l.toArray (l.toArray.size - n) n i j ks2 ks (Array.replicate l.toArray.size false)) = true)
    (h : MixW P l.toArray C (fun a' w' => MixW P l.toArray C (fun a' w' => wpList P l.toArray Q (l.drop n) a' w') (false :: false :: ks2.map (·.2)) (oi :: oj :: ks2.filterMap fun x => l[x.1]?) a' w' ∧ MixW P l.toArray C (fun a' w' => wpList P l.toArray Q (l.drop n) a' w') (false :: false :: ks2.map (·.2)) (oj :: oi :: ks2.filterMap fun x => l[x.1]?) a' w') (ks.map fun _ => true) (ks.filterMap fun x => l[x]?) a w.drew) : (Code.region id l.toArray true).wp P Q a w := by
  rw [Bool.and_eq_true, Bool.and_eq_true, Bool.and_eq_true] at hB
  obtain ⟨⟨⟨hall, hall2⟩, hok⟩, hlex⟩ := hB
  obtain ⟨hsel, hnl, hT⟩ := tailOkB_spec hok
  have hfm := filterMap_someN l ks hall
  have hfm2 := filterMap_some l ks2 hall2
  have hfl : (ks.filterMap fun x => l[x]?).length = ks.length := by simpa using congrArg List.length hfm
  have hfl2 : (ks2.filterMap fun x => l[x.1]?).length = ks2.length := by simpa using congrArg List.length hfm2
  have hdl : (l.drop n).length = l.toArray.size - n := by simp
  have H := mix_two (P := P) (md := .any) (m := n) (g := l.toArray.size - n) (Region.noSelect_spec hsel) hT hi hj hfm2 ks _ _ a w.drew hfm (inv_new _) hlex h.go
  refine wp_region_any hm ?_
  have := wpAny_of_T (Q := Q) (g := l.toArray.size - n) (fun listed a' w' hL => by
    have := wpAny_of_seq (md := .any) (Q' := Q) (l.drop n) n listed a' w' (fun j => by simp [List.getElem?_drop]) (by rw [hdl]; exact hL.1) hL.2
    rwa [hdl] at this) _ _ _ _ H
  rw [hfl, hfl2, show ks.length + (ks2.length + 2) + (l.toArray.size - n) = l.toArray.size by simp at hnl ⊢; omega] at this
  exact this
/-- the same, with the operations picked out of the region's row -/
theorem wp_region_two {id : Nat} {Q : Exit → Act → World → Prop} {a : Act} {w : World} {l : List Oper} (ks : List Nat) (i j : Nat) (ks2 : List (Nat × Bool)) (n : Nat) (C : World → Prop) (hm : P.follows .mixedOrders = true) (hn : n = ks.length + (ks2.length + 2))
    (hB : (decide (i < l.length) && decide (j < l.length) && (ks.all (fun x => decide (x < l.length)) && ks2.all (fun x => decide (x.1 < l.length)) && tailOkB l.toArray n && mix2 .any l.toArray (l.toArray.size - n) n i j ks2 ks (Array.replicate l.toArray.size false))) = true)
    (h : MixW P l.toArray C (fun a' w' => MixW P l.toArray C (fun a' w' => wpList P l.toArray Q (l.drop n) a' w') (false :: false :: ks2.map (·.2)) (([i, j] ++ ks2.map (·.1)).filterMap fun x => l[x]?) a' w' ∧ MixW P l.toArray C (fun a' w' => wpList P l.toArray Q (l.drop n) a' w') (false :: false :: ks2.map (·.2)) (([j, i] ++ ks2.map (·.1)).filterMap fun x => l[x]?) a' w') (ks.map fun _ => true) (ks.filterMap fun x => l[x]?) a w.drew) : (Code.region id l.toArray true).wp P Q a w := by
  rw [Bool.and_eq_true, Bool.and_eq_true, decide_eq_true_eq, decide_eq_true_eq] at hB
  obtain ⟨⟨hi, hj⟩, hB⟩ := hB
  refine wp_region_2 ks i j ks2 n C (oi := l[i]) (oj := l[j]) (by simp [hi]) (by simp [hj]) hn hm hB ?_
  have e : (ks2.map (·.1)).filterMap (fun x => l[x]?) = ks2.filterMap fun x => l[x.1]? := by rw [List.filterMap_map]; rfl
  simpa [List.filterMap_cons, hi, hj, e] using h
theorem wpMix_mono {E E' : Act → World → Prop} (hh : ∀ a' w', E a' w' → E' a' w') : ∀ (ks : List Bool) (l : List Oper) (a : Act) (w : World), wpMix P ops C E ks l a w → wpMix P ops C E' ks l a w
  | [], [], _, _, h => ⟨h.1, hh _ _ h.2⟩
  | true :: ks, _ :: l, _, _, ⟨v, hy, h⟩ => ⟨v, hy, wpMix_mono hh ks l _ _ h⟩
  | false :: ks, _ :: l, _, _, h => ⟨h.1, h.2.imp (fun h => ⟨h.1, Oper.wp_mono (fun a' w' => wpMix_mono hh ks l a' w') h.2⟩) (fun h => ⟨h.1, wpMix_mono hh ks l _ _ h.2⟩)⟩
  | [], _ :: _, _, _, h => h.elim
  | true :: _, [], _, _, h => h.elim
  | false :: _, [], _, _, h => h.elim
theorem wpMix_two {E : Act → World → Prop} {ks : List Bool} {l : List Oper} {o o' : Oper} {a : Act} {w : World} (h : wpMix P ops C (fun a' w' => wpMix P ops C E ks l a' w') [false, false] [o, o'] a w) : wpMix P ops C E (false :: false :: ks) (o :: o' :: l) a w := by
  have m1 : ∀ a' w', wpMix P ops C (fun a' w' => wpMix P ops C E ks l a' w') [false] [o'] a' w' → wpMix P ops C E (false :: ks) (o' :: l) a' w' := fun a' w' h => ⟨h.1, h.2.imp (fun h => ⟨h.1, Oper.wp_mono (fun _ _ h => h.2) h.2⟩) (fun h => ⟨h.1, h.2.2⟩)⟩
  exact ⟨h.1, h.2.imp (fun h => ⟨h.1, Oper.wp_mono m1 h.2⟩) (fun h => ⟨h.1, m1 _ _ h.2⟩)⟩
/-- both orders end in one: J tells what both have made, and the world -/
theorem two_join {E : Act → World → Prop} {ks : List Bool} {l : List Oper} {oi oj : Oper} {a : Act} {w : World} (J : Value → Value → World → Prop) (hc : ∀ vi vj, (a.put oj.dst vj).put oi.dst vi = (a.put oi.dst vi).put oj.dst vj)
    (h1 : MixW P ops C (fun a' w' => ∃ vi vj, a' = (a.put oi.dst vi).put oj.dst vj ∧ J vi vj w') [false, false] [oi, oj] a w)
    (h2 : MixW P ops C (fun a' w' => ∃ vi vj, a' = (a.put oj.dst vj).put oi.dst vi ∧ J vi vj w') [false, false] [oj, oi] a w)
    (hE : ∀ vi vj w', J vi vj w' → MixW P ops C E ks l ((a.put oi.dst vi).put oj.dst vj) w') : MixW P ops C E (false :: false :: ks) (oi :: oj :: l) a w ∧ MixW P ops C E (false :: false :: ks) (oj :: oi :: l) a w := by
  refine ⟨⟨wpMix_two (wpMix_mono ?_ _ _ _ _ h1.go)⟩, ⟨wpMix_two (wpMix_mono ?_ _ _ _ _ h2.go)⟩⟩
  · rintro a' w' ⟨vi, vj, rfl, hj⟩
    exact (hE _ _ _ hj).go
  · rintro a' w' ⟨vi, vj, rfl, hj⟩
    rw [hc]
    exact (hE _ _ _ hj).go
/-- alone, by its own law -/
theorem mx_wp {E : Act → World → Prop} {ks : List Bool} {o : Oper} {rest : List Oper} {a : Act} {w : World} (hc : C w) (hw : Region.wanted o (yielded ops a.tmps) = true) (h : o.wp P a w (fun a' w' => MixW P ops C E ks rest a' w') Qz) : MixW P ops C E (false :: ks) (o :: rest) a w :=
  ⟨hc, .inl ⟨hw, Oper.wp_mono (fun _ _ h => h.go) h⟩⟩
end
end Go.Proofs.Ytedbjkmgfcnkeaa
