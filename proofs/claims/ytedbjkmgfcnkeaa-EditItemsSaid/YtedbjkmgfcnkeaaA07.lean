/- tenderref08: Diff. -/
import Derived.Test.YtedbjkmgfcnkeaaA06
import Derived.Shelf.SlSortCmp.NoneTotal
import Derived.Ground.SlsfProg
import Derived.Shelf.SlMaps.Clone
import Derived.Ground.SlmcProg
import Derived.Test.YtedbjkmgfcnkeaaProg
import Derived.ChangeMaps5
import Derived.Lib.SlicesCompact
import Derived.Shelf.Small.Bits
import Derived.Sort.OwnSorted

namespace Go.Proofs.Ytedbjkmgfcnkeaa
open Go.RowKit

def dirV : LV := ⟨2, ⟨none, 0, []⟩⟩
/-- all of some paths, in order, each once -/
def unionR (ps : List (List UInt8)) : List (List UInt8 × LV) := ps.foldl (fun T p => putR T p dirV) []
theorem union_snoc (ps : List (List UInt8)) (p : List UInt8) : unionR (ps ++ [p]) = putR (unionR ps) p dirV := by simp [unionR]
theorem put_len_le {α : Type} (L : List (List UInt8 × α)) (p : List UInt8) (v : α) : (putR L p v).length ≤ L.length + 1 := by
  unfold putR
  rw [ins_len]
  have := without_len_le L p
  omega
theorem union_len (ps : List (List UInt8)) (n : Nat) (h : ps.length = n) : (unionR ps).length ≤ n + 0 := by
  subst h
  have : ∀ (qs : List (List UInt8)) (T : List (List UInt8 × LV)), (qs.foldl (fun T p => putR T p dirV) T).length ≤ T.length + qs.length := by
    intro qs
    induction qs with
    | nil => intro T; simp
    | cons q qs ih =>
      intro T
      have := ih (putR T q dirV)
      have h2 := put_len_le T q dirV
      simp only [List.foldl_cons, List.length_cons]
      omega
  have := this ps []
  simpa [unionR] using this
/-- what stands there, or nothing -/
def at0 (T : List (List UInt8 × LP)) (p : List UInt8) : LP := (getR T p).getD (0, [])
def diffB (S T : List (List UInt8 × LP)) (p : List UInt8) : Bool := !(at0 S p == at0 T p)
/-- the paths at which they are not the same -/
def diffS (S T : List (List UInt8 × LP)) : List (List UInt8) := (keysR (unionR (keysR S ++ keysR T))).filter (diffB S T)
theorem leafO_by {w : World} {A : Option Addr} {L : List (List UInt8 × LV)} (h : Its w A L) (p : List UInt8) : ∃ (k : Int) (A' : Option Addr) (c : Nat) (l : List UInt8), leafO (getR L p) = .agg #[.int .i64 k, .slice A' l.length c] ∧ By w (fun _ => True) A' l ∧ Hid (at0 (plainL L) p = (k, l)) := by
  unfold at0
  rw [get_plain]
  rcases hg : getR L p with _ | ⟨k, A', c, l⟩
  · exact ⟨0, none, 0, [], rfl, Rd.nil, rfl⟩
  · exact ⟨k, A', c, l, rfl, (h.ok _ (getR_mem hg)).1, rfl⟩
theorem keys_take {α : Type} (L : List (List UInt8 × α)) (i : Nat) (hi : i < L.length) : keysR (L.take (i + 1)) = keysR (L.take i) ++ [L[i].1] := by
  unfold keysR
  rw [List.take_succ_eq_append_getElem hi, List.map_append]
  rfl
theorem Its.put1 {w w' : World} {A A' : Option Addr} {c' : Nat} {base : Nat} {L : List (List UInt8 × LV)} {p : List UInt8} (h : Its w A L) (ho : OwI w' base A' c' (putR L p dirV)) (hp : p.length ≤ 1048576) (hn : L.length ≤ 1000000) (k : Below w.heap.size w w') : Its w' A' (putR L p dirV) := by
  have := h.putI (v := dirV) (p := p) (base := base) (A' := A') (c' := c') (w' := w') ho ⟨Rd.nil, by simp [dirV], by simp [dirV]⟩ hp (by simp [dirV]) hn k
  exact this

set_option maxRecDepth 100000 in
set_option maxHeartbeats 2000000 in
theorem refDiff_any (A B : Option Addr) (c d : Nat) (L M : List (List UInt8 × LV)) (w : World) (h : Its w A L) (h' : Its w B M) (hn : L.length + M.length ≤ 1000000) :
    Calls Try.prog 27 #[.slice A L.length c, .slice B M.length d] w fun e w' => TxtOwn w' w.heap.size e (diffS (plainL L) (plainL M)) ∧ Below w.heap.size w w' := by
  have HL := Lib.hid h
  have HM := Lib.hid h'
  obtain ⟨D, hD⟩ : ∃ D, D = diffS (plainL L) (plainL M) := ⟨_, rfl⟩
  rw [← hD]
  have HD := Lib.hid hD
  obtain ⟨F, hF⟩ : ∃ F, F = diffB (plainL L) (plainL M) := ⟨_, rfl⟩
  have HF := Lib.hid hF
  clear h h' hD hF
  go_enter Try.func27, Try.ntmps27
  go_wp2_with fail
  go_loopw [5, 6] (fun ov iv wr => ∃ (i : Nat) (A' : Option Addr) (c' : Nat) (l : List (List UInt8 × LV)), i ≤ L.length ∧ iv = .int .i64 (i : Int) ∧ ov = .slice A' l.length c' ∧ Hid (l = unionR (keysR (L.take i))) ∧ l.length ≤ 0 + i ∧ Its wr A' l ∧ Below w.heap.size w wr) (fun _ iv _ => L.length - (intOf iv).toNat)
  case atStart => exact ⟨0, none, 0, [], Nat.zero_le _, rfl, rfl, rfl, by simp, Its.nil _, Below.refl _ _⟩
  case round =>
    obtain ⟨i, A', c', l, hi, rfl, rfl, hl, hli, hI, hb⟩ := hrel
    by_cases hlt : i < L.length
    · have hkt := keys_take L i hlt
      obtain ⟨b, off, hA, hbb, c0, c1, c2⟩ := (HL.out.below hb).at_ hlt
      have hxl := (HL.out.txt _ (List.getElem_mem hlt)).1
      subst hA
      obtain ⟨x, hx⟩ : ∃ x, x = L[i] := ⟨_, rfl⟩
      rw [← hx] at c0 c1 c2 hxl hkt
      simp only [stv] at c0
      have hl2 := Lib.hid hl.out
      have HKT := Lib.hid hkt
      clear hl hkt hx
      go_wp2_with fail
      refine (refPut_any A' c' l x.1 2 none 0 [] wr hI hxl (by omega)).mono ?_
      rintro e w2 ⟨⟨A7, c7, l7, rfl, hl7, ho7⟩, hb7⟩
      have e7 : l7 = putR l x.1 dirV := by rw [hl7.out]; rfl
      have hI7 : Its w2 A7 l7 := by
        rw [e7] at ho7 ⊢
        exact hI.put1 ho7 hxl (by omega) hb7
      have hw7 := hb.trans (hb7.mono hb.size)
      have hln : l7.length ≤ 0 + (i + 1) := by rw [e7]; have := put_len_le l x.1 dirV; omega
      have HN : Hid (l7 = unionR (keysR (L.take (i + 1)))) := by
        show _ = _
        rw [e7, HKT.out, union_snoc, ← hl2.out]
      clear e7 hl7 ho7 hb7 hI hl2 HKT c0 c1 c2
      go_wp2_with fail
      go_roundw
      case rel => exact ⟨i + 1, A7, c7, l7, hlt, by go_num, rfl, HN, hln, hI7, hw7⟩
      case measure => simp [intOf]; omega
    · have e : i = L.length := by omega
      subst e
      rw [List.take_length] at hl
      clear hi hlt
      go_wp2_with fail
      clear hli
      obtain ⟨L0, hL0⟩ : ∃ n, n = L.length := ⟨_, rfl⟩
      have hn0 := Lib.hid hL0
      have hll : l.length ≤ L0 + 0 := by rw [hl.out]; rw [hL0]; exact union_len _ _ (keys_len L)
      go_loopw [5, 7] (fun ov iv wr => ∃ (i : Nat) (A' : Option Addr) (c' : Nat) (l : List (List UInt8 × LV)), i ≤ M.length ∧ iv = .int .i64 (i : Int) ∧ ov = .slice A' l.length c' ∧ Hid (l = unionR (keysR L ++ keysR (M.take i))) ∧ l.length ≤ L0 + i ∧ Its wr A' l ∧ Below w.heap.size w wr) (fun _ iv _ => M.length - (intOf iv).toNat)
      case atStart => exact ⟨0, A', c', l, Nat.zero_le _, rfl, rfl, by show _ = _; rw [hl.out]; simp [keysR], hll, hI, hb⟩
      case round =>
        clear hl hI hb hll
        obtain ⟨i, A', c', l, hi, rfl, rfl, hl, hli, hI, hb⟩ := hrel
        by_cases hlt : i < M.length
        · have hkt := keys_take M i hlt
          obtain ⟨b, off, hA, hbb, c0, c1, c2⟩ := (HM.out.below hb).at_ hlt
          have hxl := (HM.out.txt _ (List.getElem_mem hlt)).1
          subst hA
          obtain ⟨x, hx⟩ : ∃ x, x = M[i] := ⟨_, rfl⟩
          rw [← hx] at c0 c1 c2 hxl hkt
          simp only [stv] at c0
          have hl2 := Lib.hid hl.out
          have HKT := Lib.hid hkt
          clear hl hkt hx
          go_wp2_with fail
          refine (refPut_any A' c' l x.1 2 none 0 [] wr hI hxl (by omega)).mono ?_
          rintro e w2 ⟨⟨A7, c7, l7, rfl, hl7, ho7⟩, hb7⟩
          have e7 : l7 = putR l x.1 dirV := by rw [hl7.out]; rfl
          have hI7 : Its w2 A7 l7 := by
            rw [e7] at ho7 ⊢
            exact hI.put1 ho7 hxl (by omega) hb7
          have hw7 := hb.trans (hb7.mono hb.size)
          have hln : l7.length ≤ L0 + (i + 1) := by rw [e7]; have := put_len_le l x.1 dirV; omega
          have HN : Hid (l7 = unionR (keysR L ++ keysR (M.take (i + 1)))) := by
            show _ = _
            rw [e7, HKT.out, ← List.append_assoc, union_snoc, ← hl2.out]
          clear e7 hl7 ho7 hb7 hI hl2 HKT c0 c1 c2
          go_wp2_with fail
          go_roundw
          case rel => exact ⟨i + 1, A7, c7, l7, hlt, by go_num, rfl, HN, hln, hI7, hw7⟩
          case measure => simp [intOf]; omega
        · have e : i = M.length := by omega
          subst e
          rw [List.take_length] at hl
          have HD2 : Hid (D = (keysR l).filter F) := by
            show _ = _
            rw [HD.out, HF.out, hl.out, ← keys_plain L, ← keys_plain M]
            rfl
          have hl9 : l.length ≤ 1000000 := by omega
          clear hi hlt hli HD hl hL0 hn0
          go_wp2_with fail
          have hIw := Lib.hid hI
          have hbw := Lib.hid hb
          clear hI hb
          generalize wr = wb at *
          go_loopw [8, 9] (fun ov iv wr => ∃ (i : Nat) (Ao : Option Addr) (co : Nat) (o : List (List UInt8)), i ≤ l.length ∧ iv = .int .i64 (i : Int) ∧ ov = .slice Ao o.length co ∧ Hid (o = (keysR (l.take i)).filter F) ∧ o.length ≤ i ∧ wr.ownsRow wb.heap.size 9 1 (.slice Ao o.length co) o.length (o.map stv) ∧ Below wb.heap.size wb wr) (fun _ iv _ => l.length - (intOf iv).toNat)
          case atStart => exact ⟨0, none, 0, [], Nat.zero_le _, rfl, rfl, rfl, Nat.le_refl _, World.ownsRow_nil _ _ _ _, Below.refl _ _⟩
          case round =>
            obtain ⟨i, Ao, co, o, hi, rfl, rfl, ho, hoi, hown, hb⟩ := hrel
            have hwz := hbw.out.trans (hb.mono hbw.out.size)
            have hI := hIw.out.below hb
            by_cases hlt : i < l.length
            · have hsn := keys_snoc l F i hlt
              obtain ⟨b, off, hA, hbb, c0, c1', c2'⟩ := hI.at_ hlt
              have hxl := (hI.txt _ (List.getElem_mem hlt)).1
              subst hA
              obtain ⟨x, hx⟩ : ∃ x, x = l[i] := ⟨_, rfl⟩
              rw [← hx] at c0 hxl hsn
              simp only [stv] at c0
              have HSN := Lib.hid hsn
              have HLw : ∀ W, Below wr.heap.size wr W → Its W A L := fun W hW => HL.out.below (hwz.trans (hW.mono hwz.size))
              have HMw : ∀ W, Below wr.heap.size wr W → Its W B M := fun W hW => HM.out.below (hwz.trans (hW.mono hwz.size))
              obtain ⟨k1, A1, c1, l1, hv1, hy1, ha1⟩ := leafO_by (HLw wr (Below.refl _ _)) x.1
              obtain ⟨k2, A3, d2, l2, hv2, hy2, ha2⟩ := leafO_by (HMw wr (Below.refl _ _)) x.1
              have HG1 := Lib.hid (fun W (hW : Below wr.heap.size wr W) => refGet08_any A c L x.1 W (HLw W hW) (by omega))
              have HG2 := Lib.hid (fun W (hW : Below wr.heap.size wr W) => refGet08_any B d M x.1 W (HMw W hW) (by omega))
              rw [hv1] at HG1
              rw [hv2] at HG2
              obtain ⟨sm, hsm⟩ : ∃ sm, sm = (k1 == k2 && l1 == l2) := ⟨_, rfl⟩
              have HG3 := Lib.hid (fun W (hW : Below wr.heap.size wr W) => leafSameR_any k1 k2 A1 A3 c1 d2 l1 l2 _ _ W (hy1.below hW) (hy2.below hW))
              rw [← hsm] at HG3
              have hFx : Hid (F x.1 = !sm) := by
                show _ = _
                rw [HF.out]
                unfold diffB
                rw [ha1.out, ha2.out, hsm]
                rfl
              clear hsn c1' c2' hx ha1 ha2 hsm hv1 hv2 hy1 hy2 HLw HMw
              go_wp2_with fail
              refine wp_region_b 16 (by kernel_rfl) (by kernel_rfl) ?_
              simp only [List.take_succ_cons, List.take_zero, List.drop_succ_cons, List.drop_zero]
              refine lb_move _ (by kernel_rfl) rfl ⟨_, (by ((try simp [go_sem]); (try rfl); done)), _, (by (simp only [Act.put, List.setIfInBounds_toArray, List.set_cons_zero, List.set_cons_succ]; rfl)), ?_⟩
              refine lb_move _ (by kernel_rfl) rfl ⟨_, (by ((try simp [go_sem]); (try rfl); done)), _, (by (simp only [Act.put, List.setIfInBounds_toArray, List.set_cons_zero, List.set_cons_succ]; rfl)), ?_⟩
              refine lb_move _ (by kernel_rfl) rfl ⟨_, (by ((try simp [go_sem]); (try rfl); done)), _, (by (simp only [Act.put, List.setIfInBounds_toArray, List.set_cons_zero, List.set_cons_succ]; rfl)), ?_⟩
              refine lb_val (by kernel_rfl) ⟨_, (by (intro w' hC; clear hC; (try go_simp); (try with_reducible rfl); done)), _, (by (simp only [Act.put, List.setIfInBounds_toArray, List.set_cons_zero, List.set_cons_succ]; rfl)), ?_⟩
              refine lb_val (by kernel_rfl) ⟨_, (by (intro w' hC; clear hC; (try go_simp); (try with_reducible rfl); done)), _, (by (simp only [Act.put, List.setIfInBounds_toArray, List.set_cons_zero, List.set_cons_succ]; rfl)), ?_⟩
              refine lb_val (by kernel_rfl) ⟨_, (by (intro w' hC; (have q := cellAt hC hbb c0); clear hC; (try go_simp); (try with_reducible rfl); done)), _, (by (simp only [Act.put, List.setIfInBounds_toArray, List.set_cons_zero, List.set_cons_succ]; rfl)), ?_⟩
              refine lb_call (by kernel_rfl) (fun w' hC => HG1.out w' hC) (by (intro w'; go_simp; done)) ⟨_, (by (simp only [Act.put, List.setIfInBounds_toArray, List.set_cons_zero, List.set_cons_succ]; rfl)), ?_⟩
              refine lb_move _ (by kernel_rfl) rfl ⟨_, (by ((try simp [go_sem]); (try rfl); done)), _, (by (simp only [Act.put, List.setIfInBounds_toArray, List.set_cons_zero, List.set_cons_succ]; rfl)), ?_⟩
              refine lb_move _ (by kernel_rfl) rfl ⟨_, (by ((try simp [go_sem]); (try rfl); done)), _, (by (simp only [Act.put, List.setIfInBounds_toArray, List.set_cons_zero, List.set_cons_succ]; rfl)), ?_⟩
              refine lb_move _ (by kernel_rfl) rfl ⟨_, (by ((try simp [go_sem]); (try rfl); done)), _, (by (simp only [Act.put, List.setIfInBounds_toArray, List.set_cons_zero, List.set_cons_succ]; rfl)), ?_⟩
              refine lb_val (by kernel_rfl) ⟨_, (by (intro w' hC; clear hC; (try go_simp); (try with_reducible rfl); done)), _, (by (simp only [Act.put, List.setIfInBounds_toArray, List.set_cons_zero, List.set_cons_succ]; rfl)), ?_⟩
              refine lb_val (by kernel_rfl) ⟨_, (by (intro w' hC; clear hC; (try go_simp); (try with_reducible rfl); done)), _, (by (simp only [Act.put, List.setIfInBounds_toArray, List.set_cons_zero, List.set_cons_succ]; rfl)), ?_⟩
              refine lb_val (by kernel_rfl) ⟨_, (by (intro w' hC; (have q := cellAt hC hbb c0); clear hC; (try go_simp); (try with_reducible rfl); done)), _, (by (simp only [Act.put, List.setIfInBounds_toArray, List.set_cons_zero, List.set_cons_succ]; rfl)), ?_⟩
              refine lb_call (by kernel_rfl) (fun w' hC => HG2.out w' hC) (by (intro w'; go_simp; done)) ⟨_, (by (simp only [Act.put, List.setIfInBounds_toArray, List.set_cons_zero, List.set_cons_succ]; rfl)), ?_⟩
              refine lb_call (by kernel_rfl) (fun w' hC => HG3.out w' hC) (by (intro w'; go_simp; done)) ⟨_, (by (simp only [Act.put, List.setIfInBounds_toArray, List.set_cons_zero, List.set_cons_succ]; rfl)), ?_⟩
              refine lb_val (by kernel_rfl) ⟨_, (by (intro w' hC; clear hC; (try go_simp); (try with_reducible rfl); done)), _, (by (simp only [Act.put, List.setIfInBounds_toArray, List.set_cons_zero, List.set_cons_succ]; rfl)), ?_⟩
              refine .nil ?_
              intro w4 hlow4
              have hw4 := hb.trans (hlow4.mono hb.size)
              have ho4 := own_below hown hlow4
              have c4 : w4.cell? ⟨b, off + i * 3, none⟩ = some (.string ⟨⟨x.1⟩⟩) := cellAt hlow4 hbb c0
              clear hown hI hwz c0 HG1 HG2 HG3 hb hlow4
              cases sm
              · have HN : Hid (o ++ [x.1] = (keysR (l.take (i + 1))).filter F) := by
                  show _ = _
                  rw [HSN.out, if_pos (by rw [hFx.out]; rfl), ho.out]
                have hs4 := hw4.size
                have hba : Below wb.heap.size wb (w4.alloc (.cells #[.string ⟨⟨x.1⟩⟩] 9)) := hw4.alloc hs4 _
                have oa := Lib.hid (own_below ho4 ((Below.refl _ w4).alloc (Nat.le_refl _) (.cells #[.string ⟨⟨x.1⟩⟩] 9)))
                have ra : Hid (Rd (w4.alloc (.cells #[.string ⟨⟨x.1⟩⟩] 9)) (fun _ => True) 1 (some ⟨w4.heap.size, 0, none⟩) 1 [stv x.1]) := (Rd.lit (w := w4) (t := 9) (size := 1) (n := 1) (xs := [stv x.1]) rfl rfl rfl).mono (fun _ _ _ => trivial)
                clear HSN ho hFx ho4
                go_wp2_with (at_builtin; refine wpList_append_txt rfl (.tmp 60) (.tmp 66) (t := 46) rfl rfl rfl oa.out rfl ra.out (by omega) hba.size ?_; intro A5 c5 w5 ho5 hb5)
                have hb6 := hba.trans hb5
                go_roundw
                case rel => exact ⟨i + 1, A5, c5, o ++ [x.1], hlt, by go_num, by simp, HN, by simp; omega, ho5, hb6⟩
                case measure => simp [intOf]; omega
              · have HN : Hid (o = (keysR (l.take (i + 1))).filter F) := by
                  show _ = _
                  rw [HSN.out, if_neg (by rw [hFx.out]; simp), ho.out, List.append_nil]
                clear HSN ho hFx c4
                go_wp2_with fail
                go_roundw
                case rel => exact ⟨i + 1, Ao, co, o, hlt, by go_num, rfl, HN, by omega, ho4, hw4⟩
                case measure => simp [intOf]; omega
            · have e : i = l.length := by omega
              subst e
              have HN : Hid (o = D) := by
                show _ = _
                rw [HD2.out, ho.out, List.take_length]
              clear ho HD2
              go_wp2_with fail
              go_ret
              exact ⟨⟨Ao, co, o, rfl, HN, own_base hown (fun g hg => Nat.le_trans hbw.out.size (hown.lt g hg).1)⟩, hwz⟩

end Go.Proofs.Ytedbjkmgfcnkeaa

/- tree.Tree: Items, Size. -/
namespace Go.Proofs.Ytedbjkmgfcnkeaa
open Go.RowKit

/-- rows of unlike things lie apart -/
theorem own_apart {w : World} {base base' : Nat} {e e' : TypeId} {s s' n n' : Nat} {v v' : Value} {xs xs' : List Value} (h : w.ownsRow base e s v n xs) (h' : w.ownsRow base' e' s' v' n' xs') (hne : e ≠ e') : ∀ g, v.ownBlock = some g → v'.ownBlock ≠ some g := by
  rcases h.2 with ⟨rfl, _⟩ | ⟨g', cap, cur, rfl, _, hh, _⟩
  · simp [Value.ownBlock]
  · intro g he
    have e1 : g' = g := by simpa [Value.ownBlock] using he
    subst e1
    have hb : Blk w g' e _ := hh
    exact Blk.own_ne hb h' (fun e => hne e.symm)
/-- items, each of the call's own, bytes and all -/
structure ItsOwn (w : World) (base : Nat) (A : Option Addr) (c : Nat) (M : List (List UInt8 × LV)) : Prop where
  row : OwI w base A c M
  byt : ∀ x ∈ M, OwB w base (.slice x.2.x.A x.2.x.l.length x.2.x.c) x.2.x.l
theorem ItsOwn.below {w w' : World} {base : Nat} {A : Option Addr} {c : Nat} {M : List (List UInt8 × LV)} (h : ItsOwn w base A c M) (k : Below w.heap.size w w') : ItsOwn w' base A c M := ⟨h.row.below k, fun x hx => own_below (h.byt x hx) k⟩
theorem ItsOwn.base {w : World} {base base' : Nat} {A : Option Addr} {c : Nat} {M : List (List UInt8 × LV)} (h : ItsOwn w base A c M) (hb : base' ≤ base) : ItsOwn w base' A c M :=
  ⟨own_base h.row (fun g hg => Nat.le_trans hb (h.row.lt g hg).1), fun x hx => own_base (h.byt x hx) (fun g hg => Nat.le_trans hb ((h.byt x hx).lt g hg).1)⟩
theorem ItsOwn.its {w : World} {base : Nat} {A : Option Addr} {c : Nat} {M : List (List UInt8 × LV)} (h : ItsOwn w base A c M) (hl : M.length ≤ 1099511627776) (ht : ∀ x ∈ M, x.1.length ≤ 1048576 ∧ x.2.x.l.length ≤ 140737488355328) : Its w A M :=
  h.row.its (fun x hx => by
    obtain ⟨A', c', e, h1, h2, _⟩ := own_form (h.byt x hx)
    injection e with e1 e2 e3
    subst e1 e3
    exact ⟨(h.byt x hx).rd.mono (fun _ _ _ => trivial), h1, h2⟩) hl ht
theorem ItsOwn.push {w w' : World} {base : Nat} {A A' : Option Addr} {c c' : Nat} {M : List (List UInt8 × LV)} {y : List UInt8 × LV} (h : ItsOwn w base A c M) (hy : OwB w base (.slice y.2.x.A y.2.x.l.length y.2.x.c) y.2.x.l) (hr : OwI w' base A' c' (M ++ [y])) (hb : Below base w w')
    (hk : ∀ k, k < w.heap.size → (Value.slice A M.length c).ownBlock ≠ some k → w'.heap[k]? = w.heap[k]?) : ItsOwn w' base A' c' (M ++ [y]) := by
  have hf : Fr (fun k => (Value.slice A M.length c).ownBlock = some k) w w' := ⟨hb.os, hb.tape, hb.output, hb.size, hk⟩
  refine ⟨hr, fun x hx => ?_⟩
  rcases List.mem_append.1 hx with hx | hx
  · exact own_fr (h.byt x hx) hf (own_apart (h.byt x hx) h.row (by decide))
  · rw [List.mem_singleton.1 hx]
    exact own_fr hy hf (own_apart hy h.row (by decide))
theorem plain_app (L M : List (List UInt8 × LV)) : plainL (L ++ M) = plainL L ++ plainL M := by simp [plainL]

theorem txt_at {w : World} {base : Nat} {A : Option Addr} {c : Nat} {l : List (List UInt8)} (h : w.ownsRow base 9 1 (.slice A l.length c) l.length (l.map stv)) {i : Nat} (hi : i < l.length) :
    ∃ b off, A = some ⟨b, off, none⟩ ∧ b < w.heap.size ∧ w.cell? ⟨b, off + i, none⟩ = some (stv l[i]) := by
  have hr : Rd w (fun _ => True) 1 A l.length (l.map stv) := Rd.of_own h (fun _ _ _ => trivial)
  obtain ⟨b, off, hA, _, hb, hc⟩ := hr.2 (by omega)
  exact ⟨b, off, hA, hb, hc i _ (by rw [List.getElem?_map, List.getElem?_eq_getElem hi]; rfl)⟩
set_option maxRecDepth 100000 in
set_option maxHeartbeats 1000000 in
theorem treeItems_any (hS : SortsT) (tb : Nat) (mo : Option Nat) (L : List (List UInt8 × LV)) (w : World) (h : TreeAt w tb mo L) :
    Calls Try.prog 14 #[.pointer (some ⟨tb, 0, none⟩)] w fun e w' => ∃ (A : Option Addr) (c : Nat) (M : List (List UInt8 × LV)), e = .returned (.slice A M.length c) ∧ Hid (plainL M = plainL L) ∧ ItsOwn w' w.heap.size A c M ∧ Below w.heap.size w w' := by
  have HT := Lib.hid h
  have hlen : L.length ≤ 128 := by have := h.plain.len; rwa [plain_len] at this
  have hsort : SortR L := (sort_map LV.p).1 h.plain.sort
  have hkl : ∀ q ∈ keysR L, q.length ≤ 96 := fun q hq => by
    obtain ⟨x, hx, rfl⟩ := List.mem_map.1 hq
    exact goodB_len (h.small hx).2.1
  have HP := Lib.hid (treeall_any hS tb mo L w h)
  clear h
  go_enter Try.func14, Try.ntmps14
  go_wp2_with fail
  refine HP.out.mono ?_
  rintro e w1 ⟨⟨A1, c1, l, rfl, hl, ho⟩, hb1⟩
  have hT1 := Lib.hid (HT.out.below hb1)
  have hll : l.length = L.length := by rw [hl.out, keys_len]
  have hs1 := hb1.size
  have HLL := Lib.hid hll
  clear HP HT hll
  go_wp2_with fail
  go_loopw [2, 8] (fun ov iv wr => ∃ (i : Nat) (A : Option Addr) (c : Nat) (M : List (List UInt8 × LV)), i ≤ l.length ∧ iv = .int .i64 (i : Int) ∧ ov = .slice A M.length c ∧ Hid (plainL M = plainL (L.take i)) ∧ M.length = i ∧ ItsOwn wr w1.heap.size A c M ∧ Below w1.heap.size w1 wr) (fun _ iv _ => l.length - (intOf iv).toNat)
  case atStart => exact ⟨0, none, 0, [], Nat.zero_le _, rfl, rfl, rfl, rfl, ⟨World.ownsRow_nil _ _ _ _, by simp⟩, Below.refl _ _⟩
  case round =>
    obtain ⟨i, A, c, M, hi, rfl, rfl, hM, hMi, hO, hb⟩ := hrel
    by_cases hlt : i < l.length
    · have hltL : i < L.length := by rw [← HLL.out]; exact hlt
      obtain ⟨b, off, hA, hbb, c0⟩ := txt_at ho hlt
      have hli : l[i] = L[i].1 := by
        have := hl.out
        subst this
        simp [keysR]
      rw [hli] at c0
      have hps := plain_snoc L i hltL
      have hget := hsort.get (List.getElem_mem hltL)
      have hpl : L[i].1.length ≤ 96 := hkl _ (List.mem_map.2 ⟨_, List.getElem_mem hltL, rfl⟩)
      subst hA
      obtain ⟨x, hx⟩ : ∃ x, x = L[i] := ⟨_, rfl⟩
      rw [← hx] at c0 hps hget hpl
      simp only [stv] at c0
      have hT2 := hT1.out.below hb
      have c0' := cellAt hb hbb c0
      have HPS := Lib.hid hps
      have HG := Lib.hid (treeGet_any tb mo L x.1 wr hT2 (by omega))
      rw [hget] at HG
      have hMe := Lib.hid hMi
      clear hps hget hx hli hT2 c0
      go_wp2_with fail
      refine HG.out.mono ?_
      rintro e w2 ⟨⟨A2, c2, l2, he, hl2, ho2⟩, hb2⟩
      obtain rfl : e = .returned (.agg #[.int .i64 x.2.k, .slice A2 l2.length c2]) := he
      have hl3 : l2 = x.2.x.l := hl2.out
      obtain ⟨y, hy⟩ : ∃ y : List UInt8 × LV, y = (x.1, ⟨x.2.k, ⟨A2, c2, l2⟩⟩) := ⟨_, rfl⟩
      have hw2 := hb.trans (hb2.mono hb.size)
      have ho3 : OwB w2 w1.heap.size (.slice y.2.x.A y.2.x.l.length y.2.x.c) y.2.x.l := by
        rw [hy]
        exact own_base ho2 (fun g hg => Nat.le_trans hb.size (ho2.lt g hg).1)
      have hpy : plainL [y] = [(x.1, x.2.p)] := by rw [hy]; show [(x.1, (x.2.k, l2))] = _; rw [hl3]; rfl
      have hba : Below w1.heap.size w1 (w2.alloc (.cells #[.string ⟨⟨x.1⟩⟩, .int .i64 x.2.k, .slice A2 l2.length c2] 30)) := hw2.alloc hw2.size _
      have hal : Below w2.heap.size w2 (w2.alloc (.cells #[.string ⟨⟨x.1⟩⟩, .int .i64 x.2.k, .slice A2 l2.length c2] 30)) := (Below.refl _ w2).alloc (Nat.le_refl _) _
      have hO3 := Lib.hid ((hO.below hb2).below hal)
      have ho4 := Lib.hid (own_below ho3 hal)
      have ra : Hid (Rd (w2.alloc (.cells #[.string ⟨⟨x.1⟩⟩, .int .i64 x.2.k, .slice A2 l2.length c2] 30)) (fun _ => True) 3 (some ⟨w2.heap.size, 0, none⟩) 1 (itemC y)) := (Rd.lit (w := w2) (t := 30) (size := 3) (n := 1) (xs := itemC y) (by rw [hy]; rfl) rfl rfl).mono (fun _ _ _ => trivial)
      have HN : Hid (plainL (M ++ [y]) = plainL (L.take (i + 1))) := by
        show _ = _
        rw [plain_app, hpy, HPS.out, hM.out]
      have hlb := Lib.hid (show M.length + 1 ≤ 1099511627776 by omega)
      clear hO ho2 ho3 hal hb2 hl2 hl3 hy hpy HPS HG hM hb c0' hMi
      go_wp2_with (at_builtin; refine wpList_append_item rfl (.tmp 12) (.tmp 18) (t := 22) rfl rfl rfl hO3.out.row rfl ra.out hlb.out hba.size ?_; intro A5 c5 w5 ho5 hb5 hk5)
      have hb6 := hba.trans hb5
      have hO5 := hO3.out.push ho4.out ho5 hb5 hk5
      have hl5 : (M ++ [y]).length = i + 1 := by rw [List.length_append, hMe.out]; rfl
      go_roundw
      case rel => exact ⟨i + 1, A5, c5, M ++ [y], hlt, by go_num, by simp, HN, hl5, hO5, hb6⟩
      case measure => simp [intOf]; omega
    · have e : i = l.length := by omega
      subst e
      have HN : Hid (plainL M = plainL L) := by
        show _ = _
        rw [hM.out, HLL.out, List.take_length]
      clear hM hMi
      go_wp2_with fail
      go_ret
      exact ⟨A, c, M, rfl, HN, hO.base hs1, hb1.trans (hb.mono hs1)⟩
/-- how many bytes -/
def sizeR (T : List (List UInt8 × LP)) : Nat := (T.map fun x => x.2.2.length).sum
theorem size_app (S T : List (List UInt8 × LP)) : sizeR (S ++ T) = sizeR S + sizeR T := by simp [sizeR]
theorem size_le (T : List (List UInt8 × LP)) (h : ∀ x ∈ T, x.2.2.length ≤ 4096) : sizeR T ≤ T.length * 4096 := by
  induction T with
  | nil => simp [sizeR]
  | cons x T ih =>
    have h1 := h x (by simp)
    have h2 := ih (fun y hy => h y (by simp [hy]))
    simp only [sizeR, List.map_cons, List.sum_cons, List.length_cons] at h2 ⊢
    omega
set_option maxRecDepth 100000 in
set_option maxHeartbeats 1000000 in
theorem treeSize_any (hS : SortsT) (tb : Nat) (mo : Option Nat) (L : List (List UInt8 × LV)) (w : World) (h : TreeAt w tb mo L) :
    Calls Try.prog 26 #[.pointer (some ⟨tb, 0, none⟩)] w fun e w' => e = .returned (.int .i64 (sizeR (plainL L) : Int)) ∧ Below w.heap.size w w' := by
  have HT := Lib.hid h
  have hlen : L.length ≤ 128 := by have := h.plain.len; rwa [plain_len] at this
  have hsort : SortR L := (sort_map LV.p).1 h.plain.sort
  have hkl : ∀ q ∈ keysR L, q.length ≤ 96 := fun q hq => by
    obtain ⟨x, hx, rfl⟩ := List.mem_map.1 hq
    exact goodB_len (h.small hx).2.1
  have hsl : ∀ x ∈ L, x.2.x.l.length ≤ 4096 := fun x hx => (h.small hx).1
  have HP := Lib.hid (treeall_any hS tb mo L w h)
  clear h
  go_enter Try.func26, Try.ntmps26
  go_wp2_with fail
  refine HP.out.mono ?_
  rintro e w1 ⟨⟨A1, c1, l, rfl, hl, ho⟩, hb1⟩
  have hT1 := Lib.hid (HT.out.below hb1)
  have hll : l.length = L.length := by rw [hl.out, keys_len]
  have hs1 := hb1.size
  have HLL := Lib.hid hll
  clear HP HT hll
  go_wp2_with fail
  go_loopw [2, 8] (fun ov iv wr => ∃ (i n : Nat), i ≤ l.length ∧ iv = .int .i64 (i : Int) ∧ ov = .int .i64 (n : Int) ∧ Hid (n = sizeR (plainL (L.take i))) ∧ n ≤ i * 4096 ∧ Below w1.heap.size w1 wr) (fun _ iv _ => l.length - (intOf iv).toNat)
  case atStart => exact ⟨0, 0, Nat.zero_le _, rfl, rfl, rfl, by simp, Below.refl _ _⟩
  case round =>
    obtain ⟨i, n, hi, rfl, rfl, hn, hni, hb⟩ := hrel
    by_cases hlt : i < l.length
    · have hltL : i < L.length := by rw [← HLL.out]; exact hlt
      obtain ⟨b, off, hA, hbb, c0⟩ := txt_at ho hlt
      have hli : l[i] = L[i].1 := by
        have := hl.out
        subst this
        simp [keysR]
      rw [hli] at c0
      have hps := plain_snoc L i hltL
      have hget := hsort.get (List.getElem_mem hltL)
      have hpl : L[i].1.length ≤ 96 := hkl _ (List.mem_map.2 ⟨_, List.getElem_mem hltL, rfl⟩)
      have hx4 := hsl _ (List.getElem_mem hltL)
      subst hA
      obtain ⟨x, hx⟩ : ∃ x, x = L[i] := ⟨_, rfl⟩
      rw [← hx] at c0 hps hget hpl hx4
      simp only [stv] at c0
      have hT2 := hT1.out.below hb
      have c0' := cellAt hb hbb c0
      have q0 := hT2.c0
      have hlk := hT2.look x.1 (by simp only [maxLen]; omega)
      rw [hget] at hlk
      unfold leafO LV.v at hlk
      dsimp only at hlk
      have hn2 : n + x.2.x.l.length = sizeR (plainL (L.take (i + 1))) := by
        rw [hps, size_app, ← hn.out]
        simp [sizeR, LV.p]
      have HN := Lib.hid hn2
      clear hps hget hx hli hT2 c0 hn hn2
      go_wp2_with fail
      refine (leafSize_any x.2.k x.2.x.A x.2.x.l.length x.2.x.c wr).mono ?_
      rintro e w2 ⟨rfl, hb2⟩
      have hw2 := hb.trans (hb2.mono hb.size)
      clear hb2 hb c0' q0 hlk
      go_wp2_with fail
      go_roundw
      case rel => exact ⟨i + 1, n + x.2.x.l.length, hlt, by go_num, by go_num, HN, by omega, hw2⟩
      case measure => simp [intOf]; omega
    · have e : i = l.length := by omega
      subst e
      have HN : Hid (n = sizeR (plainL L)) := by
        show _ = _
        rw [hn.out, HLL.out, List.take_length]
      clear hn hni
      have hn3 := HN.out
      subst hn3
      clear HN
      go_wp2_with fail
      go_ret
      exact ⟨rfl, hb1.trans (hb.mono hs1)⟩
end Go.Proofs.Ytedbjkmgfcnkeaa

/-
  DERIVED: THE SHELF's CONTRACTS AT THIS DUMP, IN PLAIN WORDS (tools/lay-plain.mjs out of 'TryLays.lean', which tools/lay-shelf.mjs wrote): THE SAME DECLARATIONS UNDER THE SAME NAMES: 'import', 'namespace', 'open', 'def', 'theorem' AND NOTHING ELSE: no command of the shelf's: FOR A HAND-IN. Each laying: the table of numbers ('.._ren') and one theorem, a field a fact of the dump's own or the kernel's comparison; each contract: ONE APPLICATION.
-/
namespace Go.Proofs
open Go.Shelf
def Try.sortT_ren : Go.Shelf.Ren := ⟨fun | 6 => 60 | 15 => 80 | 14 => 79 | 28 => 112 | 29 => 113 | 20 => 104 | 21 => 105 | 22 => 106 | 23 => 107 | 24 => 108 | 25 => 109 | 26 => 110 | 27 => 111 | 46 => 121 | 47 => 122 | 48 => 123 | 49 => 124 | 50 => 125 | 57 => 130 | n => n, fun | 22 => 46 | 24 => 9 | 25 => 89 | 3 => 3 | 39 => 103 | 0 => 0 | 53 => 133 | 55 => 135 | 4 => 4 | 46 => 127 | 45 => 126 | 50 => 119 | 5 => 5 | 9 => 9 | 66 => 139 | 70 => 143 | 76 => 147 | 77 => 148 | n => n, fun | n => n⟩
theorem Try.sortT : Go.Proofs.SlLaysF.n6 Try.prog Try.sortT_ren := {
  mixed := by kernel_rfl
  f6 := ⟨Try.f60.name, by decide, Try.func60.trans (congrArg some (by kernel_rfl))⟩
  f14 := ⟨Try.f79.name, by decide, Try.func79.trans (congrArg some (by kernel_rfl))⟩
  f15 := Try.func80.trans (congrArg some (by kernel_rfl))
  f20 := ⟨Try.f104.name, by decide, Try.func104.trans (congrArg some (by kernel_rfl))⟩
  f21 := ⟨Try.f105.name, by decide, Try.func105.trans (congrArg some (by kernel_rfl))⟩
  f22 := ⟨Try.f106.name, by decide, Try.func106.trans (congrArg some (by kernel_rfl))⟩
  f23 := ⟨Try.f107.name, by decide, Try.func107.trans (congrArg some (by kernel_rfl))⟩
  f24 := ⟨Try.f108.name, by decide, Try.func108.trans (congrArg some (by kernel_rfl))⟩
  f25 := ⟨Try.f109.name, by decide, Try.func109.trans (congrArg some (by kernel_rfl))⟩
  f26 := ⟨Try.f110.name, by decide, Try.func110.trans (congrArg some (by kernel_rfl))⟩
  f27 := ⟨Try.f111.name, by decide, Try.func111.trans (congrArg some (by kernel_rfl))⟩
  f28 := Try.func112.trans (congrArg some (by kernel_rfl))
  f29 := Try.func113.trans (congrArg some (by kernel_rfl))
  f46 := ⟨Try.f121.name, by decide, Try.func121.trans (congrArg some (by kernel_rfl))⟩
  f47 := Try.func122.trans (congrArg some (by kernel_rfl))
  f48 := Try.func123.trans (congrArg some (by kernel_rfl))
  f49 := ⟨Try.f124.name, by decide, Try.func124.trans (congrArg some (by kernel_rfl))⟩
  f50 := ⟨Try.f125.name, by decide, Try.func125.trans (congrArg some (by kernel_rfl))⟩
  f57 := ⟨Try.f130.name, by decide, Try.func130.trans (congrArg some (by kernel_rfl))⟩
  t0 := Try.underlying0
  a0 := Try.isAgg0
  z0 := Try.sizeOf0
  v0 := Try.zeroValue0
  t3 := Try.underlying3
  a3 := Try.isAgg3
  z3 := Try.sizeOf3
  v3 := Try.zeroValue3
  t4 := Try.underlying4
  a4 := Try.isAgg4
  z4 := Try.sizeOf4
  v4 := Try.zeroValue4
  t5 := Try.underlying5
  a5 := Try.isAgg5
  z5 := Try.sizeOf5
  v5 := Try.zeroValue5
  t9 := Try.underlying9
  a9 := Try.isAgg9
  z9 := Try.sizeOf9
  v9 := Try.zeroValue9
  t22 := Try.underlying46
  a22 := Try.isAgg46
  z22 := Try.sizeOf46
  v22 := Try.zeroValue46
  a24 := Try.isAgg9
  z24 := Try.sizeOf9
  t25 := Try.underlying89
  a25 := Try.isAgg89
  z25 := Try.sizeOf89
  v25 := Try.zeroValue89
  t39 := Try.underlying103
  a39 := Try.isAgg103
  z39 := Try.sizeOf103
  v39 := Try.zeroValue103
  t45 := Try.underlying126
  a45 := Try.isAgg126
  z45 := Try.sizeOf126
  v45 := Try.zeroValue126
  t46 := Try.underlying127
  a46 := Try.isAgg127
  z46 := Try.sizeOf127
  v46 := Try.zeroValue127
  t50 := Try.underlying119
  a50 := Try.isAgg119
  z50 := Try.sizeOf119
  v50 := Try.zeroValue119
  t53 := Try.underlying133
  a53 := Try.isAgg133
  z53 := Try.sizeOf133
  v53 := Try.zeroValue133
  t55 := Try.underlying135
  a55 := Try.isAgg135
  z55 := Try.sizeOf135
  v55 := Try.zeroValue135
  t66 := Try.underlying139
  a66 := Try.isAgg139
  z66 := Try.sizeOf139
  v66 := Try.zeroValue139
  t70 := Try.underlying143
  a70 := Try.isAgg143
  z70 := Try.sizeOf143
  v70 := Try.zeroValue143
  t76 := Try.underlying147
  a76 := Try.isAgg147
  z76 := Try.sizeOf147
  v76 := Try.zeroValue147
  t77 := Try.underlying148
  a77 := Try.isAgg148
  z77 := Try.sizeOf148
  v77 := Try.zeroValue148 }
def Try.cloneM_ren : Go.Shelf.Ren := ⟨fun | 5 => 63 | 7 => 84 | n => n, fun | 23 => 56 | 25 => 9 | 3 => 28 | 4 => 4 | 20 => 20 | n => n, fun | n => n⟩
theorem Try.cloneM : Go.Proofs.SlLaysW.n5 Try.prog Try.cloneM_ren := {
  mixed := by kernel_rfl
  f5 := ⟨Try.f63.name, by decide, Try.func63.trans (congrArg some (by kernel_rfl))⟩
  f7 := Try.func84.trans (congrArg some (by kernel_rfl))
  t4 := Try.underlying4
  a4 := Try.isAgg4
  z4 := Try.sizeOf4
  v4 := Try.zeroValue4
  t20 := Try.underlying20
  a20 := Try.isAgg20
  z20 := Try.sizeOf20
  v20 := Try.zeroValue20
  t23 := Try.underlying56
  a23 := Try.isAgg56
  z23 := Try.sizeOf56
  v23 := Try.zeroValue56 }
end Go.Proofs

/- tree.Tree.Clone, New without items. -/
namespace Go.Proofs.Ytedbjkmgfcnkeaa
open Go.RowKit Go.Maps Go.Shelf

theorem MapAt.clone {b : Nat} {L : List (List UInt8 × Value)} {w : World} (h : MapAt w Try.prog 9 b L) :
    Calls Try.prog 63 #[.map (some b)] w fun e w' => e = .returned (.map (some w.heap.size)) ∧ MapAt w' Try.prog 9 w.heap.size L ∧ Below w.heap.size w w' := by
  obtain ⟨D, h1, h2⟩ := h.own
  have := AnyW.maps_Clone_owns Try.cloneM 9 heldR b L.length D w h1
  change Calls Try.prog 63 _ _ _ at this
  refine this.mono ?_
  rintro e w' ⟨rfl, k1, k2, k3⟩
  exact ⟨rfl, ⟨h.sort, ⟨D, k1, h2⟩, h.len⟩, k3⟩
theorem mapClone_nil (w : World) : Calls Try.prog 63 #[.map none] w fun e w' => e = .returned (.map none) ∧ w' = w := AnyW.maps_Clone_nil Try.cloneM w
/-- a clone: the same, at blocks of its own -/
theorem treeClone_any (tb : Nat) (mo : Option Nat) (L : List (List UInt8 × LV)) (w : World) (h : TreeAt w tb mo L) :
    Calls Try.prog 30 #[.pointer (some ⟨tb, 0, none⟩)] w fun e w' => ∃ (cb : Nat) (mo' : Option Nat), e = .returned (.pointer (some ⟨cb, 0, none⟩)) ∧ w.heap.size ≤ cb ∧ (∀ m, mo' = some m → w.heap.size ≤ m) ∧ TreeAt w' cb mo' L ∧ Below w.heap.size w w' := by
  have HT := Lib.hid h
  have c0 := h.c0
  rcases h.map with ⟨rfl, rfl⟩ | ⟨mb, rfl, hm⟩
  · clear h
    go_enter Try.func30, Try.ntmps30
    go_wp2_with fail
    refine (mapClone_nil _).mono ?_
    rintro e w1 ⟨rfl, rfl⟩
    go_wp2_with fail
    go_ret
    exact ⟨_, none, rfl, Nat.le_refl _, by simp, TreeAt.new _, (by repeat (first | exact Below.refl _ _ | refine Below.alloc ?_ (by simp) _ | refine Below.setCell ?_ (by simp) _ | refine Below.drew ?_))⟩
  · clear h
    have HM := Lib.hid hm
    clear hm
    go_enter Try.func30, Try.ntmps30
    go_wp2_with fail
    refine HM.out.clone.mono ?_
    rintro e w1 ⟨rfl, hm1, hb1⟩
    have hT1 := HT.out.below hb1
    have hs1 := hb1.size
    have hlt := hm1.lt
    have ba : Below w.heap.size w (w1.alloc (.cells #[.map (some w.heap.size)] 58)) := hb1.alloc hs1 _
    have bb : Below w1.heap.size w1 (w1.alloc (.cells #[.map (some w.heap.size)] 58)) := (Below.refl _ w1).alloc (Nat.le_refl _) _
    have HN : Hid (TreeAt (w1.alloc (.cells #[.map (some w.heap.size)] 58)) w1.heap.size (some w.heap.size) L) := by
      refine ⟨Blk.new _ _ _, .inr ⟨_, rfl, hm1.below bb⟩, fun x hx => ?_, HT.out.plain⟩
      have h1 := HT.out.ok x hx
      refine ((h1.mono (Z' := fun b => b < w.heap.size) (fun b hb _ => hb)).below ba).mono (fun b _ hz => ⟨by omega, fun e => ?_⟩)
      injection e with e
      omega
    clear hT1 hm1
    go_wp2_with fail
    go_ret
    exact ⟨_, some w.heap.size, rfl, hs1, fun m e => by injection e with e; omega, HN.out, ba⟩
end Go.Proofs.Ytedbjkmgfcnkeaa

/- api.Leaf: as an argument. -/
namespace Go.Proofs.Ytedbjkmgfcnkeaa
open Go.RowKit Go.WideShapes Go.ChangeShapes Go.ChangeAt Go.Deep Go.Joins

section
variable {H : Type} {enc : TypeId × Value → H} {w : World} {spare : Nat → Bool} {held : Bool}
/-- what is known of a leaf -/
structure LV.okAt (w : World) (Z : Nat → Prop) (o : LV) : Prop where
  x : o.x.ok w Z
  len : o.x.l.length ≤ 140737488355328
  k : -9223372036854775808 ≤ o.k ∧ o.k < 9223372036854775808
theorem list2 {α : Type} {l : List α} (h : l.length = 2) : ∃ a0 a1, l = [a0, a1] := by
  match l, h with
  | [a0, a1], _ => exact ⟨_, _, rfl⟩
set_option maxRecDepth 100000 in
theorem open_leaf {n : Nat} {cs : List Value} {x : DataW H × List MemPlace} (h : DataW.trod enc Try.prog w 0 spare held n 28 cs = some x) (hw : Within 28 x) :
    ∃ o : LV, cs = o.cells ∧ o.okAt w (fun b => b < w.heap.size) := by
  obtain ⟨ys, n', hcl, hyl, hf⟩ := open_st Try.underlying28 (by kernel_rfl) h (by kernel_rfl) hw
  obtain ⟨a0, a1, rfl⟩ := list2 hcl
  obtain ⟨y0, y1, rfl⟩ := list2 hyl
  obtain ⟨k, e, _, wk⟩ := DataW.trod_int Try.underlying3 (hf 0 _ _ _ rfl rfl rfl).1
  obtain rfl := List.singleton_inj.1 e
  obtain ⟨b, rfl, hb, hbl⟩ := open_bv (hf 1 _ _ _ rfl rfl rfl).1 (hf 1 _ _ _ rfl rfl rfl).2
  have bk := i64_bd wk
  exact ⟨⟨k, b⟩, rfl, hb, hbl, bk⟩
set_option maxRecDepth 100000 in
theorem open_leafv {r : Reach} {b0 : Nat} {v : Value} {d : DataW H} {p : List MemPlace} (hv : Value.okWide Try.prog w r b0 28 v) (h : DataW.Trod enc Try.prog w 0 spare held 28 v d p) (hw : Within 28 (d, p)) :
    ∃ o : LV, v = .agg #[.int .i64 o.k, .slice o.x.A o.x.l.length o.x.c] ∧ o.okAt w (fun b => b < w.heap.size) := by
  obtain ⟨cs, rfl, hsz⟩ := okWide_struct Try.underlying28 hv
  obtain ⟨l⟩ := cs
  obtain ⟨n, hn⟩ := h
  obtain ⟨o, e, ho⟩ := open_leaf (cs := l) hn hw
  subst e
  exact ⟨o, rfl, ho⟩
end
end Go.Proofs.Ytedbjkmgfcnkeaa

/- api.Item in slices: as an argument. -/
namespace Go.Proofs.Ytedbjkmgfcnkeaa
open Go.RowKit Go.WideShapes Go.ChangeShapes Go.ChangeAt Go.ChangeMaps Go.Deep Go.Joins

/-- items as they come in -/
structure ItA (w : World) (A : Option Addr) (L : List (List UInt8 × LV)) : Prop where
  rd : Rd w (fun b => b < w.heap.size) 3 A L.length (L.flatMap itemC)
  ok : ∀ x ∈ L, x.2.okAt w (fun b => b < w.heap.size) ∧ x.1.length ≤ 140737488355328
  len : L.length ≤ 140737488355328
section
variable {H : Type} {enc : TypeId × Value → H} {w : World} {spare : Nat → Bool} {held : Bool}
/-- a struct of fields of any number of cells -/
theorem open_sti {t : TypeId} {fs : Array Field} {N : Nat} (hs : Try.prog.underlying t = some (.struct fs)) {n : Nat} {cs : List Value} {x : DataW H × List MemPlace} (h : DataW.trod enc Try.prog w 0 spare held n t cs = some x) (hC : Try.prog.cellsOf t = N) (hw : Within t x) :
    ∃ (ys : List (DataW H × List MemPlace)) (n' : Nat), cs.length = N ∧ ys.length = fs.size ∧
      ∀ (j : Nat) (f : Field) (y : DataW H × List MemPlace), fs[j]? = some f → ys[j]? = some y → DataW.trod enc Try.prog w 0 spare held n' f.type ((cs.drop f.offset).take (Try.prog.cellsOf f.type)) = some y ∧ Within f.type y := by
  obtain ⟨xs, n', _, hx, hl, hlen, hg⟩ := DataW.trod_struct hs h
  rw [hC] at hl
  refine ⟨xs, n', hl, hlen, fun j f y hj hy => ⟨by rw [hg j f hj, hy], fun k hk => hw k ?_⟩⟩
  rw [hx]
  simp only [DataW.weights, hs]
  refine DataW.weights_mem_each (j := j) (t := f.type) (d := y.1) ?_ ?_ k hk
  · rw [List.getElem?_map]
    have : fs.toList[j]? = some f := by simpa using hj
    rw [this]; rfl
  · rw [List.getElem?_map, hy]; rfl
theorem list3i {α : Type} {l : List α} (h : l.length = 3) : ∃ a0 a1 a2, l = [a0, a1, a2] := by
  match l, h with
  | [a0, a1, a2], _ => exact ⟨_, _, _, rfl⟩
theorem str_withini {b : List UInt8} {p : List MemPlace} (hw : Within 9 ((DataW.lit (Lit.string b) : DataW H), p)) : b.length ≤ 140737488355328 := by
  have h1 := hw b.length (by simp [DataW.weights])
  have h2 := reachBytes_lt
  omega
set_option maxRecDepth 100000 in
theorem open_item {n : Nat} {cs : List Value} {x : DataW H × List MemPlace} (h : DataW.trod enc Try.prog w 0 spare held n 30 cs = some x) (hw : Within 30 x) :
    ∃ o : List UInt8 × LV, cs = itemC o ∧ o.2.okAt w (fun b => b < w.heap.size) ∧ o.1.length ≤ 140737488355328 := by
  obtain ⟨ys, n', hcl, hyl, hf⟩ := open_sti (N := 3) Try.underlying30 h (by kernel_rfl) hw
  obtain ⟨a0, a1, a2, rfl⟩ := list3i hcl
  obtain ⟨y0, y1, rfl⟩ := list2 hyl
  obtain ⟨f0, w0⟩ := hf 0 _ _ rfl rfl
  obtain ⟨f1, w1⟩ := hf 1 _ _ rfl rfl
  have c0 : Try.prog.cellsOf 9 = 1 := by kernel_rfl
  have c1 : Try.prog.cellsOf 28 = 2 := by kernel_rfl
  replace f0 : DataW.trod enc Try.prog w 0 spare held n' 9 (([a0, a1, a2].drop 0).take (Try.prog.cellsOf 9)) = some y0 := f0
  replace f1 : DataW.trod enc Try.prog w 0 spare held n' 28 (([a0, a1, a2].drop 1).take (Try.prog.cellsOf 28)) = some y1 := f1
  rw [c0] at f0
  rw [c1] at f1
  obtain ⟨p, e, hx0, _⟩ := DataW.trod_string Try.underlying9 f0
  obtain ⟨o, e2, ho⟩ := open_leaf f1 w1
  obtain rfl : a0 = .string p := by simpa using e
  obtain ⟨k, xx⟩ := o
  obtain ⟨rfl, rfl⟩ : a1 = .int .i64 k ∧ a2 = .slice xx.A xx.l.length xx.c := by simpa [LV.cells] using e2
  rw [hx0] at w0
  exact ⟨(p.data.toList, ⟨k, xx⟩), rfl, ho, str_withini w0⟩
set_option maxRecDepth 100000 in
theorem open_items {n : Nat} {v : Value} {x : DataW H × List MemPlace} (h : DataW.trod enc Try.prog w 0 spare held n 22 [v] = some x) (hw : Within 22 x) :
    ∃ (A : Option Addr) (c : Nat) (l : List (List UInt8 × LV)), v = .slice A l.length c ∧ ItA w A l := by
  obtain ⟨A, c, l, rfl, _, _, h3, h4, h5⟩ := open_sl (w := w) (enc := enc) (spare := spare) (held := held) itemC (fun o => o.2.okAt w (fun b => b < w.heap.size) ∧ o.1.length ≤ 140737488355328) 3 48 (t := 22) (e := 30) Try.underlying22 (by kernel_rfl) (by kernel_rfl) (by omega) (fun n cs x hx hx2 => open_item hx hx2) h hw
  refine ⟨A, c, l, rfl, h3, h4, ?_⟩
  have := reachBytes_lt
  omega
end
end Go.Proofs.Ytedbjkmgfcnkeaa

/- What trees keep while items are set, plainly; what a tree's writes leave. -/
namespace Go.Proofs.Ytedbjkmgfcnkeaa
open Go.RowKit Go.Maps

theorem par_under {q : List UInt8} (h : (parT q).2 = true) : underB q (parT q).1 = true := by
  unfold parT at h ⊢
  split at h
  · rename_i hc
    rw [if_pos hc]
    simp only [Bool.and_eq_true, decide_eq_true_eq] at hc
    obtain ⟨hg, hl⟩ := hc
    have h1 : (cutL q).dropLast ≠ [] := by intro e; have := congrArg List.length e; rw [List.length_dropLast] at this; simp at this; omega
    have h2 := cut_paste (cutL q).dropLast h1 (fun y hy => cut_no q y ((List.dropLast_sublist _).subset hy))
    have hne : cutL q ≠ [] := fun e => by rw [e] at hl; simp at hl
    have h3 : preB q (pasteL (cutL q).dropLast) = true := (preB_iff _ _).2 ⟨[(cutL q).getLast hne], by simp, by rw [h2, List.dropLast_concat_getLast hne]⟩
    show underB q (pasteL (cutL q).dropLast) = true
    unfold underB
    rw [hg, good_pre hg h3, h3]; rfl
  · simp at h
theorem under_irr (p : List UInt8) : underB p p = false := by
  rcases h : underB p p with _ | _
  · rfl
  · have := (under_order (b := p) h).1
    rw [cmpT_self] at this
    omega
/-- above each path that has a leaf stands a Dir -/
def DirsOk (T : List (List UInt8 × LP)) : Prop := ∀ x ∈ T, (parT x.1).2 = true → kindL (getR T (parT x.1).1) = 2
theorem DirsOk.nil : DirsOk [] := by simp [DirsOk]
theorem DirsOk.set {T : List (List UInt8 × LP)} (h : DirsOk T) (p : List UInt8) (l : LP) : DirsOk (setS T p l) := by
  unfold setS
  split
  · rename_i hm
    unfold mayS at hm
    split at hm
    · simp at hm
    · split at hm
      · rename_i hc; exact absurd hm hc
      · split at hm
        · simp at hm
        · rename_i hb
          have hbe : l.1 ≠ 2 → ∀ x ∈ T, underB x.1 p = false := fun h2 x hx => by
            rcases hu : underB x.1 p with _ | _
            · rfl
            · refine absurd ⟨h2, ?_⟩ hb
              intro e
              have : x.1 ∈ (keysR T).filter fun q => underB q p := List.mem_filter.2 ⟨List.mem_map.2 ⟨x, hx, rfl⟩, hu⟩
              rw [e] at this
              cases this
          unfold doS
          split
          · rename_i h0
            intro x hx hp
            have hxT := (List.mem_filter.1 hx).1
            have h1 := h x hxT hp
            rw [getR_without, if_neg]
            · exact h1
            · intro e
              have h2 := par_under hp
              rw [e, hbe (by omega) x hxT] at h2
              cases h2
          · rename_i h0
            rw [if_neg h0] at hm
            split at hm
            · simp at hm
            · rename_i hk
              intro x hx hp
              unfold putR at hx
              rcases mem_ins.1 hx with rfl | hx
              · dsimp only at hp ⊢
                have h1 : kindL (getR T (parT p).1) = 2 := by
                  by_cases e : kindL (getR T (parT p).1) = 2
                  · exact e
                  · exact absurd ⟨hp, e⟩ hk
                rw [getR_put, if_neg]
                · exact h1
                · intro e
                  have h2 := par_under hp
                  rw [e, under_irr] at h2
                  cases h2
              · have hxT := (List.mem_filter.1 hx).1
                have h1 := h x hxT hp
                rw [getR_put]
                split
                · rename_i e
                  by_cases h2 : l.1 = 2
                  · show l.1 = 2
                    exact h2
                  · have h3 := par_under hp
                    rw [e, hbe h2 x hxT] at h3
                    cases h3
                · exact h1
  · exact h
/-- one item behind the other set -/
def playS (T : List (List UInt8 × LP)) (l : List (List UInt8 × LP)) : List (List UInt8 × LP) := l.foldl (fun T x => setS T x.1 x.2) T
theorem play_snoc (T l : List (List UInt8 × LP)) (x : List UInt8 × LP) : playS T (l ++ [x]) = setS (playS T l) x.1 x.2 := by simp [playS]
theorem play_ok (T l : List (List UInt8 × LP)) (h : TreeOk T) : TreeOk (playS T l) := by
  induction l generalizing T with
  | nil => exact h
  | cons x l ih => exact ih _ (h.set x.1 x.2)
theorem play_dirs (T l : List (List UInt8 × LP)) (h : DirsOk T) : DirsOk (playS T l) := by
  induction l generalizing T with
  | nil => exact h
  | cons x l ih => exact ih _ (h.set x.1 x.2)
/-- the reference's step, plainly -/
theorem plain_step (L : List (List UInt8 × LV)) (p : List UInt8) (v : LV) : plainL (if mayS (plainL L) p v.p = 0 then putI L p v else L) = setS (plainL L) p v.p := by
  unfold setS
  split
  · unfold putI doS
    show plainL (if v.k = 0 then _ else _) = if v.k = 0 then _ else _
    split
    · exact plain_without L p
    · exact plain_put L p v
  · rfl

/-- what is read at cells that are no maps does not lie in the tree's own blocks -/
theorem TreeAt.apart {w : World} {tb : Nat} {mo : Option Nat} {K : List (List UInt8 × LV)} (t : TreeAt w tb mo K) {Z : Nat → Prop} {size n : Nat} {A : Option Addr} {xs : List Value} (h : Rd w Z size A n xs) (hx : ∀ u ∈ xs, ∀ m, u ≠ .map m) : Rd w (fun b => Z b ∧ b ≠ tb ∧ mo ≠ some b) size A n xs := by
  refine ⟨h.1, fun hn => ?_⟩
  obtain ⟨b, off, e, hz, hlt, hc⟩ := h.2 hn
  refine ⟨b, off, e, ?_, hlt, hc⟩
  have h0 : 0 < xs.length := by rw [h.1]; exact hn
  have hc0 := hc 0 _ (List.getElem?_eq_getElem h0)
  have hne := hx _ (List.getElem_mem h0)
  refine ⟨hz, fun eb => ?_, fun em => ?_⟩
  · subst eb
    rw [t.blk.cell] at hc0
    rcases Nat.eq_zero_or_pos (off + 0) with h1 | h1
    · rw [h1] at hc0
      simp at hc0
      exact hne _ hc0.symm
    · rw [Array.getElem?_eq_none (by simp; omega)] at hc0; cases hc0
  · rcases t.map with ⟨e0, _⟩ | ⟨mb, e0, hm⟩
    · rw [e0] at em; cases em
    · rw [e0] at em
      injection em with em
      subst em
      obtain ⟨D, ⟨es, clock, h1, _⟩, _⟩ := hm.own
      simp [World.cell?, h1] at hc0
theorem bv_no_map (l : List UInt8) : ∀ u ∈ l.map bv, ∀ m, u ≠ .map m := by
  intro u hu m e
  obtain ⟨x, _, rfl⟩ := List.mem_map.1 hu
  simp [bv] at e
theorem item_no_map (L : List (List UInt8 × LV)) : ∀ u ∈ L.flatMap itemC, ∀ m, u ≠ .map m := by
  intro u hu m e
  obtain ⟨x, _, hx⟩ := List.mem_flatMap.1 hu
  subst e
  simp [itemC, stv] at hx
/-- rows of items stay, whatever is set on a tree -/
theorem Its.set {w w' : World} {A : Option Addr} {L K : List (List UInt8 × LV)} {tb : Nat} {mo : Option Nat} (h : Its w A L) (t : TreeAt w tb mo K) (k : Fr (fun g => g = tb ∨ mo = some g) w w') : Its w' A L := by
  refine ⟨((t.apart h.rd (item_no_map L)).fr k fun b _ hz e => ?_).mono (fun _ _ _ => trivial), fun x hx => ?_, h.len, h.txt⟩
  · exact e.elim hz.2.1 hz.2.2
  · have h1 := h.ok x hx
    exact ⟨((t.apart h1.1 (bv_no_map _)).fr k fun b _ hz e => e.elim hz.2.1 hz.2.2).mono (fun _ _ _ => trivial), h1.2⟩
theorem ItA.fr {w w' : World} {A : Option Addr} {L : List (List UInt8 × LV)} {S : Nat → Prop} (h : ItA w A L) (k : Fr S w w') (hS : ∀ b, b < w.heap.size → ¬ S b) : ItA w' A L := by
  refine ⟨(h.rd.fr k fun b hb _ => hS b hb).mono (fun b hb _ => hb), fun x hx => ?_, h.len⟩
  have h1 := h.ok x hx
  exact ⟨⟨(h1.1.x.fr k fun b hb _ => hS b hb).mono (fun b hb _ => hb), h1.1.len, h1.1.k⟩, h1.2⟩
theorem ItA.below {w w' : World} {A : Option Addr} {L : List (List UInt8 × LV)} (h : ItA w A L) (k : Below w.heap.size w w') : ItA w' A L := h.fr (Fr.of_below k (fun _ => False)) (fun _ _ h => h)
theorem ItA.at_ {w : World} {A : Option Addr} {L : List (List UInt8 × LV)} {i : Nat} (h : ItA w A L) (hi : i < L.length) :
    ∃ b off, A = some ⟨b, off, none⟩ ∧ b < w.heap.size ∧ w.cell? ⟨b, off + i * 3, none⟩ = some (stv L[i].1) ∧ w.cell? ⟨b, off + i * 3 + 1, none⟩ = some (.int .i64 L[i].2.k) ∧ w.cell? ⟨b, off + i * 3 + 2, none⟩ = some (.slice L[i].2.x.A L[i].2.x.l.length L[i].2.x.c) := by
  obtain ⟨b, off, hA, _, hb, hc⟩ := h.rd.2 (by omega)
  have hg : ∀ j, j < 3 → (L.flatMap itemC)[i * 3 + j]? = (itemC L[i])[j]? := fun j hj => flat_get (k := 3) item_len L i j hi hj
  refine ⟨b, off, hA, hb, hc _ _ (hg 0 (by omega)), ?_, ?_⟩
  · rw [Nat.add_assoc]; exact hc _ _ (hg 1 (by omega))
  · rw [Nat.add_assoc]; exact hc _ _ (hg 2 (by omega))
theorem item_at {w : World} {Z : Nat → Prop} {A : Option Addr} {L : List (List UInt8 × LV)} {i : Nat} (h : Rd w Z 3 A L.length (L.flatMap itemC)) (hi : i < L.length) :
    ∃ b off, A = some ⟨b, off, none⟩ ∧ b < w.heap.size ∧ w.cell? ⟨b, off + i * 3, none⟩ = some (stv L[i].1) ∧ w.cell? ⟨b, off + i * 3 + 1, none⟩ = some (.int .i64 L[i].2.k) ∧ w.cell? ⟨b, off + i * 3 + 2, none⟩ = some (.slice L[i].2.x.A L[i].2.x.l.length L[i].2.x.c) := by
  obtain ⟨b, off, hA, _, hb, hc⟩ := h.2 (by omega)
  have hg : ∀ j, j < 3 → (L.flatMap itemC)[i * 3 + j]? = (itemC L[i])[j]? := fun j hj => flat_get (k := 3) item_len L i j hi hj
  refine ⟨b, off, hA, hb, hc _ _ (hg 0 (by omega)), ?_, ?_⟩
  · rw [Nat.add_assoc]; exact hc _ _ (hg 1 (by omega))
  · rw [Nat.add_assoc]; exact hc _ _ (hg 2 (by omega))
end Go.Proofs.Ytedbjkmgfcnkeaa

/- tree.New. -/
namespace Go.Proofs.Ytedbjkmgfcnkeaa
open Go.RowKit Go.Maps

theorem treeNew_nil (w : World) :
    Calls Try.prog 12 #[.slice none 0 0] w fun e w' => e = .returned (.tuple #[.pointer (some ⟨w.heap.size, 0, none⟩), .int .i64 0]) ∧ TreeAt w' w.heap.size none [] ∧ Below w.heap.size w w' := by
  go_enter Try.func12, Try.ntmps12
  go_wp2_with fail
  go_loopw [12] (fun iv wr => iv = .int .i64 0 ∧ wr = w.alloc (.cells #[.map none] 58)) (fun _ _ => 0)
  case atStart => exact ⟨rfl, rfl⟩
  case round =>
    obtain ⟨rfl, rfl⟩ := hrel
    go_wp2_with fail
    go_ret2
    exact ⟨rfl, TreeAt.new _, (by repeat (first | exact Below.refl _ _ | refine Below.alloc ?_ (by simp) _ | refine Below.setCell ?_ (by simp) _ | refine Below.drew ?_))⟩
end Go.Proofs.Ytedbjkmgfcnkeaa

/- tenderlaw08: lives, Light. -/
namespace Go.Proofs.Ytedbjkmgfcnkeaa
open Go.RowKit Go.Maps

/-- are there few items, and small ones? -/
def bytesI (L : List (List UInt8 × LV)) : Nat := (L.map fun x => x.2.x.l.length).sum
def lightI (L : List (List UInt8 × LV)) : Bool := L.all (fun x => decide (x.1.length ≤ 200)) && (decide (L.length ≤ 200) && decide (bytesI L ≤ 20000))
theorem bytesI_take (L : List (List UInt8 × LV)) (i : Nat) (hi : i < L.length) : bytesI (L.take (i + 1)) = bytesI (L.take i) + L[i].2.x.l.length := by
  unfold bytesI
  rw [List.take_succ_eq_append_getElem hi, List.map_append, List.sum_append]
  simp
theorem bytesI_le (K : Nat) : ∀ (L : List (List UInt8 × LV)), (∀ o ∈ L, o.2.x.l.length ≤ K) → bytesI L ≤ L.length * K
  | [], _ => by simp [bytesI]
  | o :: l, h => by
    have h1 := h o (by simp)
    have h2 := bytesI_le K l (fun o ho => h o (by simp [ho]))
    simp only [bytesI, List.map_cons, List.sum_cons, List.length_cons, Nat.add_mul] at h2 ⊢
    omega
theorem bytesI_take_le (K : Nat) (l : List (List UInt8 × LV)) (i : Nat) (h : ∀ o ∈ l, o.2.x.l.length ≤ K) : bytesI (l.take i) ≤ i * K := by
  have h1 := bytesI_le K (l.take i) (fun o ho => h o (List.mem_of_mem_take ho))
  have h2 : (l.take i).length ≤ i := List.length_take_le _ _
  have h3 : (l.take i).length * K ≤ i * K := Nat.mul_le_mul_right _ h2
  omega
/-- the sum that Light has made: right while few have been seen -/
def SeenI (l : List (List UInt8 × LV)) (i : Nat) (s : Int) : Prop := i ≤ 400 → s = (bytesI (l.take i) : Int)
theorem seenI_step {l : List (List UInt8 × LV)} {i : Nat} {s : Int} (hs : SeenI l i s) (hi : i < l.length) (h : ∀ o ∈ l, o.2.x.l.length ≤ 140737488355328) : SeenI l (i + 1) (wrap64 (s + (l[i].2.x.l.length : Int))) := by
  intro hi2
  have e := hs (by omega)
  have h1 := bytesI_take_le 140737488355328 l (i + 1) h
  have h2 := bytesI_take l i hi
  have h3 : (i + 1) * 140737488355328 ≤ 401 * 140737488355328 := Nat.mul_le_mul_right _ (by omega)
  rw [h2] at h1 ⊢
  rw [e, IntWalk.wrap64_in _ ⟨by omega, by omega⟩]
  omega
theorem le_sum : ∀ (l : List Nat) (n : Nat), n ∈ l → n ≤ l.sum
  | [], _, h => by cases h
  | m :: l, n, h => by
    rw [List.sum_cons]
    rcases List.mem_cons.1 h with rfl | h
    · omega
    · have := le_sum l n h
      omega
theorem lightI_len {L : List (List UInt8 × LV)} (h : lightI L = true) : L.length ≤ 200 ∧ ∀ x ∈ L, x.1.length ≤ 200 ∧ x.2.x.l.length ≤ 20000 := by
  unfold lightI at h
  simp only [Bool.and_eq_true, decide_eq_true_eq, List.all_eq_true] at h
  refine ⟨h.2.1, fun x hx => ⟨h.1 x hx, ?_⟩⟩
  have h1 : x.2.x.l.length ≤ bytesI L := by
    unfold bytesI
    exact le_sum _ _ (List.mem_map.2 ⟨x, hx, rfl⟩)
  omega
set_option maxRecDepth 100000 in
set_option maxHeartbeats 400000 in
theorem lightI_any (A : Option Addr) (c : Nat) (l : List (List UInt8 × LV)) (w : World) (h : ItA w A l) :
    Calls Try.prog 9 #[.slice A l.length c] w fun e w' => e = .returned (.bool (lightI l)) ∧ Below w.heap.size w w' := by
  have hlen := h.len
  go_enter Try.func9, Try.ntmps9
  go_wp2_with fail
  go_loopw [3, 8] (fun sv iv wr => ∃ (i : Nat) (s : Int), i ≤ l.length ∧ iv = .int .i64 (i : Int) ∧ sv = .int .i64 s ∧ SeenI l i s ∧ (∀ x ∈ l.take i, x.1.length ≤ 200) ∧ Below w.heap.size w wr) (fun _ iv _ => l.length - (intOf iv).toNat)
  case atStart => exact ⟨0, 0, Nat.zero_le _, rfl, rfl, by intro _; simp [bytesI], by simp, Below.refl _ _⟩
  case round =>
    obtain ⟨i, s, hi, rfl, rfl, hs, hp, hb⟩ := hrel
    by_cases hlt : i < l.length
    · obtain ⟨b, off, rfl, hbb, hc0, hc1, hc2⟩ := (h.below hb).at_ hlt
      have hsz := hb.size
      have hok := h.ok _ (List.getElem_mem hlt)
      have hxl := hok.1.len
      have hpl := hok.2
      have hst := Lib.hid (seenI_step hs hlt (fun o ho => (h.ok o ho).1.len))
      have hmem := List.getElem_mem hlt
      have hp2 : l[i].1.length ≤ 200 → Hid (∀ x ∈ l.take (i + 1), x.1.length ≤ 200) := fun h2 => Lib.hid (by
        rw [List.take_succ_eq_append_getElem hlt]
        intro x hx
        rcases List.mem_append.1 hx with hx | hx
        · exact hp x hx
        · rw [List.mem_singleton.1 hx]; exact h2)
      have hno : ¬ l[i].1.length ≤ 200 → Hid (lightI l = false) := fun h2 => Lib.hid (by
        unfold lightI
        rw [Bool.and_eq_false_iff]
        refine .inl ?_
        rw [List.all_eq_false]
        exact ⟨_, hmem, by simpa using h2⟩)
      clear hok hmem hp
      generalize l[i] = o at *
      obtain ⟨p, k, xA, xc, xl⟩ := o
      simp only [stv] at *
      by_cases h2 : p.length ≤ 200
      · have hp3 := hp2 h2
        clear hp2 hno
        go_wp2_with fail
        go_roundw
        case rel => exact ⟨i + 1, _, hlt, by go_num, rfl, by have := hst.out; push_cast at this; exact this, hp3.out, (hb.alloc hsz _)⟩
        case measure => simp [intOf]; omega
      · have hn := hno h2
        clear hp2 hno
        go_wp2_with fail
        go_ret
        exact ⟨ret_b hn.out.symm, hb.alloc hsz _⟩
    · have e : i = l.length := by omega
      subst e
      rw [List.take_length] at hp
      have hall : l.all (fun x => decide (x.1.length ≤ 200)) = true := by simpa using hp
      have hli : Hid (lightI l = (decide (l.length ≤ 200) && decide (bytesI l ≤ 20000))) := Lib.hid (by unfold lightI; rw [hall]; simp)
      by_cases h2 : l.length ≤ 200
      · have hss := hs (by omega)
        rw [List.take_length] at hss
        subst hss
        clear hp hall
        go_wp2
        all_goals
          go_ret
          exact ⟨ret_b (by rw [hli.out, Bool.eq_iff_iff]; simp; omega), hb⟩
      · clear hp hall
        go_wp2
        all_goals
          go_ret
          exact ⟨ret_b (by rw [hli.out, Bool.eq_iff_iff]; simp; omega), hb⟩
end Go.Proofs.Ytedbjkmgfcnkeaa

/- Drawn regions in an order of ours: as Mix, but the operations are told in any order that the region may have. No program. -/
namespace Go.Proofs.Ytedbjkmgfcnkeaa
open Go.RowKit

section
variable {P : Program} {ops : Array Oper} {md : Region.Mode} {C : World → Prop}
def mixP (md : Region.Mode) (ops : Array Oper) (g m : Nat) : List (Nat × Bool) → Array Bool → Bool
  | [], listed => Region.seqB md ops g m listed
  | (k, true) :: ks, listed => decide (k < m) && (Region.ready md ops listed).contains k && Region.free md ops listed k && mixP md ops g m ks (listed.setIfInBounds k true)
  | (k, false) :: ks, listed => decide (k < m) && decide (Region.ready md ops listed = [k]) && mixP md ops g m ks (listed.setIfInBounds k true)
theorem mix_perm {m g : Nat} {Lq : Act → World → Prop} (hsel : ∀ (j : Nat) (o : Oper) cs b, ops[j]? = some o → o.op ≠ .select cs b) (hT : TailWaitsB md ops m) :
    ∀ (ks : List (Nat × Bool)) (l : List Oper) (listed : Array Bool) (a : Act) (w : World), l.map some = ks.map (fun x => ops[x.1]?) → HeadInv md ops m listed →
    mixP md ops g m ks listed = true → wpMix P ops C Lq (ks.map (·.2)) l a w →
    wpAnyT P md ops C m (fun listed' a' w' => Region.seqB md ops g m listed' = true ∧ Lq a' w') l.length listed a w
  | [], [], listed, a, w, _, _, hB, h => ⟨h.1, seqB_ready hB, hB, h.2⟩
  | (k, true) :: ks, o :: l, listed, a, w, hl, inv, hB, h => by
    simp only [List.map_cons, List.cons.injEq] at hl
    have h0 : ops[k]? = some o := hl.1.symm
    simp only [mixP, Bool.and_eq_true, decide_eq_true_eq] at hB
    obtain ⟨⟨⟨hkm, hr⟩, hf⟩, hB'⟩ := hB
    have hr' : k ∈ Region.ready md ops listed := by simpa using hr
    obtain ⟨v, hy, h'⟩ := h
    exact wpAnyT_first h0 hkm hsel hT _ listed a w inv (Region.free_spec h0 hf) hr' hy (mix_perm hsel hT ks l _ _ w hl.2 (inv.set hr' hkm) hB' h')
  | (k, false) :: ks, o :: l, listed, a, w, hl, inv, hB, h => by
    simp only [List.map_cons, List.cons.injEq] at hl
    have h0 : ops[k]? = some o := hl.1.symm
    simp only [mixP, Bool.and_eq_true, decide_eq_true_eq] at hB
    obtain ⟨⟨hkm, hr⟩, hB'⟩ := hB
    obtain ⟨hc, h'⟩ := h
    refine ⟨hc, fun h1 => (by rw [hr] at h1; cases h1), fun i hi => ?_⟩
    have hi' := hi
    rw [hr] at hi
    have hik : i = k := by simpa using hi
    subst hik
    refine ⟨hkm, ?_⟩
    have rec_ : ∀ a' w', wpMix P ops C Lq (ks.map (·.2)) l a' w' → wpAnyT P md ops C m (fun listed' a' w' => Region.seqB md ops g m listed' = true ∧ Lq a' w') l.length (listed.setIfInBounds i true) a' w' := fun a' w' h2 =>
      mix_perm hsel hT ks l _ a' w' hl.2 (inv.set hi' hkm) hB' h2
    unfold wpOp
    simp only [h0]
    rcases h' with ⟨hw, h'⟩ | ⟨hw, h'⟩
    · simp only [hw, if_true]
      exact .inl (Oper.wp_mono rec_ h')
    · simp only [hw, Bool.false_eq_true, if_false]
      exact rec_ _ _ h'
  | [], _ :: _, _, _, _, hl, _, _, _ => by simp at hl
  | (_, true) :: _, [], _, _, _, hl, _, _, _ => by simp at hl
  | (_, false) :: _, [], _, _, _, hl, _, _, _ => by simp at hl
theorem filterMap_some (l : List Oper) : ∀ (ks : List (Nat × Bool)), ks.all (fun x => decide (x.1 < l.length)) = true → (ks.filterMap fun x => l[x.1]?).map some = ks.map (fun x => l.toArray[x.1]?)
  | [], _ => rfl
  | x :: ks, h => by
    simp only [List.all_cons, Bool.and_eq_true, decide_eq_true_eq] at h
    have ih := filterMap_some l ks h.2
    rw [List.filterMap_cons, List.getElem?_eq_getElem h.1]
    simp only [List.map_cons]
    rw [ih, show l.toArray[x.1]? = some l[x.1] by simp [h.1]]
/-- the first operations in an order of ours, by kinds; the rest one behind the other -/
theorem wp_region_p {id : Nat} {Q : Exit → Act → World → Prop} {a : Act} {w : World} {l : List Oper} (ks : List (Nat × Bool)) (C : World → Prop) (hm : P.follows .mixedOrders = true)
    (hB : (ks.all (fun x => decide (x.1 < l.length)) && tailOkB l.toArray ks.length && mixP .any l.toArray (l.toArray.size - ks.length) ks.length ks (Array.replicate l.toArray.size false)) = true)
    (h : MixW P l.toArray C (fun a' w' => wpList P l.toArray Q (l.drop ks.length) a' w') (ks.map (·.2)) (ks.filterMap fun x => l[x.1]?) a w.drew) : (Code.region id l.toArray true).wp P Q a w := by
  rw [Bool.and_eq_true, Bool.and_eq_true] at hB
  obtain ⟨⟨hall, hok⟩, hlex⟩ := hB
  obtain ⟨hsel, hnl, hT⟩ := tailOkB_spec hok
  have hfm := filterMap_some l ks hall
  have hfl : (ks.filterMap fun x => l[x.1]?).length = ks.length := by simpa using congrArg List.length hfm
  have hdl : (l.drop ks.length).length = l.toArray.size - ks.length := by simp
  have H := mix_perm (P := P) (md := .any) (m := ks.length) (g := l.toArray.size - ks.length) (Region.noSelect_spec hsel) hT ks _ _ a w.drew hfm (inv_new ks.length) hlex h.go
  refine wp_region_any hm ?_
  have := wpAny_of_T (Q := Q) (g := l.toArray.size - ks.length) (fun listed a' w' hL => by
    have := wpAny_of_seq (md := .any) (Q' := Q) (l.drop ks.length) ks.length listed a' w' (fun j => by simp [List.getElem?_drop]) (by rw [hdl]; exact hL.1) hL.2
    rwa [hdl] at this) _ _ _ _ H
  rw [hfl, show ks.length + (l.toArray.size - ks.length) = l.toArray.size by simp at hnl ⊢; omega] at this
  exact this
end
end Go.Proofs.Ytedbjkmgfcnkeaa

/- tree.Diff, Same. -/
namespace Go.Proofs.Ytedbjkmgfcnkeaa
open Go.RowKit

/-- a tree, or none -/
def TreeP (w : World) (v : Option Addr) (L : List (List UInt8 × LV)) : Prop := (v = none ∧ L = []) ∨ ∃ tb mo, v = some ⟨tb, 0, none⟩ ∧ TreeAt w tb mo L
theorem TreeP.below {w w' : World} {v : Option Addr} {L : List (List UInt8 × LV)} (h : TreeP w v L) (k : Below w.heap.size w w') : TreeP w' v L := h.imp id fun ⟨tb, mo, e, ht⟩ => ⟨tb, mo, e, ht.below k⟩
theorem TreeP.ok {w : World} {v : Option Addr} {L : List (List UInt8 × LV)} (h : TreeP w v L) : TreeOk (plainL L) := by
  rcases h with ⟨_, rfl⟩ | ⟨tb, mo, _, ht⟩
  · exact TreeOk.nil
  · exact ht.plain
theorem treeget_nil (p : List UInt8) (w : World) : Calls Try.prog 48 #[.pointer none, .string ⟨⟨p⟩⟩] w fun e w' => e = .returned (leafO none) ∧ Below w.heap.size w w' := by
  unfold leafO
  go_enter Try.func48, Try.ntmps48
  go_wp2_with fail
  refine bodyPost_ret (v := .agg #[.int .i64 0, .slice none 0 0]) (by simp [results, Try.results48, go_sem]) rfl ?_
  exact ⟨rfl, (by repeat (first | exact Below.refl _ _ | refine Below.alloc ?_ (by simp) _ | refine Below.setCell ?_ (by simp) _ | refine Below.drew ?_))⟩
theorem treegetP_any (v : Option Addr) (L : List (List UInt8 × LV)) (p : List UInt8) (w : World) (h : TreeP w v L) (hp : p.length ≤ 140737488355328) :
    Calls Try.prog 48 #[.pointer v, .string ⟨⟨p⟩⟩] w fun e w' => e = .returned (leafO (getR L p)) ∧ Below w.heap.size w w' := by
  rcases h with ⟨rfl, rfl⟩ | ⟨tb, mo, rfl, ht⟩
  · exact treeget_nil p w
  · exact treeget_any tb mo L p w ht hp
theorem leafO_byT {w : World} {v : Option Addr} {L : List (List UInt8 × LV)} (h : TreeP w v L) (p : List UInt8) : ∃ (k : Int) (A' : Option Addr) (c : Nat) (l : List UInt8), leafO (getR L p) = .agg #[.int .i64 k, .slice A' l.length c] ∧ By w (fun _ => True) A' l ∧ Hid (at0 (plainL L) p = (k, l)) := by
  unfold at0
  rw [get_plain]
  rcases h with ⟨rfl, rfl⟩ | ⟨tb, mo, rfl, ht⟩
  · exact ⟨0, none, 0, [], rfl, Rd.nil, rfl⟩
  · rcases hg : getR L p with _ | ⟨k, A', c, l⟩
    · exact ⟨0, none, 0, [], rfl, Rd.nil, rfl⟩
    · exact ⟨k, A', c, l, rfl, (ht.ok _ (getR_mem hg)).1.mono (fun _ _ _ => trivial), rfl⟩
set_option maxHeartbeats 400000 in
theorem diff1_any (va vb : Option Addr) (L M : List (List UInt8 × LV)) (p : List UInt8) (xa xb : Nat) (w : World) (ha : TreeP w va L) (hb : TreeP w vb M) (hp : p.length ≤ 140737488355328) (hxa : Blk w xa 33 #[.pointer va]) (hxb : Blk w xb 33 #[.pointer vb]) :
    Calls Try.prog 58 #[.string ⟨⟨p⟩⟩, .pointer (some ⟨xa, 0, none⟩), .pointer (some ⟨xb, 0, none⟩)] w fun e w' => e = .returned (.bool (diffB (plainL L) (plainL M) p)) ∧ Below w.heap.size w w' := by
  obtain ⟨k1, A1, c1, l1, hv1, hy1, ha1⟩ := leafO_byT ha p
  obtain ⟨k2, A2, d2, l2, hv2, hy2, ha2⟩ := leafO_byT hb p
  have HG1 := Lib.hid (fun W (hW : Below w.heap.size w W) => treegetP_any va L p W (ha.below hW) hp)
  have HG2 := Lib.hid (fun W (hW : Below w.heap.size w W) => treegetP_any vb M p W (hb.below hW) hp)
  rw [hv1] at HG1
  rw [hv2] at HG2
  obtain ⟨sm, hsm⟩ : ∃ sm, sm = (k1 == k2 && l1 == l2) := ⟨_, rfl⟩
  have HG3 := Lib.hid (fun W (hW : Below w.heap.size w W) => leafSame_any k1 k2 A1 A2 c1 d2 l1 l2 _ _ W (hy1.below hW) (hy2.below hW))
  rw [← hsm] at HG3
  have hF : diffB (plainL L) (plainL M) p = !sm := by
    unfold diffB
    rw [ha1.out, ha2.out, hsm]
    rfl
  rw [hF]
  have q0 := Lib.hid hxa
  have q1 := Lib.hid hxb
  clear hF ha1 ha2 hsm hv1 hv2 hy1 hy2 ha hb hxa hxb
  go_enter Try.func58, Try.ntmps58
  go_wp2_with fail
  refine wp_region_b 9 (by kernel_rfl) (by kernel_rfl) ?_
  simp only [List.take_succ_cons, List.take_zero, List.drop_succ_cons, List.drop_zero]
  refine lb_val (by kernel_rfl) ⟨_, (by (intro w' hC; (have q := (q0.out.below hC).cell 0; simp at q); clear hC; (try go_simp); (try with_reducible rfl); done)), _, (by (simp only [Act.put, List.setIfInBounds_toArray, List.set_cons_zero, List.set_cons_succ]; rfl)), ?_⟩
  refine lb_move _ (by kernel_rfl) rfl ⟨_, (by ((try simp [go_sem]); (try rfl); done)), _, (by (simp only [Act.put, List.setIfInBounds_toArray, List.set_cons_zero, List.set_cons_succ]; rfl)), ?_⟩
  refine lb_call (by kernel_rfl) (fun w' hC => HG1.out w' hC) (by (intro w'; go_simp; done)) ⟨_, (by (simp only [Act.put, List.setIfInBounds_toArray, List.set_cons_zero, List.set_cons_succ]; rfl)), ?_⟩
  refine lb_val (by kernel_rfl) ⟨_, (by (intro w' hC; (have q := (q1.out.below hC).cell 0; simp at q); clear hC; (try go_simp); (try with_reducible rfl); done)), _, (by (simp only [Act.put, List.setIfInBounds_toArray, List.set_cons_zero, List.set_cons_succ]; rfl)), ?_⟩
  refine lb_move _ (by kernel_rfl) rfl ⟨_, (by ((try simp [go_sem]); (try rfl); done)), _, (by (simp only [Act.put, List.setIfInBounds_toArray, List.set_cons_zero, List.set_cons_succ]; rfl)), ?_⟩
  refine lb_call (by kernel_rfl) (fun w' hC => HG2.out w' hC) (by (intro w'; go_simp; done)) ⟨_, (by (simp only [Act.put, List.setIfInBounds_toArray, List.set_cons_zero, List.set_cons_succ]; rfl)), ?_⟩
  refine lb_call (by kernel_rfl) (fun w' hC => HG3.out w' hC) (by (intro w'; go_simp; done)) ⟨_, (by (simp only [Act.put, List.setIfInBounds_toArray, List.set_cons_zero, List.set_cons_succ]; rfl)), ?_⟩
  refine lb_val (by kernel_rfl) ⟨_, (by (intro w' hC; clear hC; (try go_simp); (try with_reducible rfl); done)), _, (by (simp only [Act.put, List.setIfInBounds_toArray, List.set_cons_zero, List.set_cons_succ]; rfl)), ?_⟩
  refine lb_assign _ (by kernel_rfl) rfl ⟨_, (by ((try simp [go_sem]); (try rfl); done)), _, (by (simp only [Act.put, List.setIfInBounds_toArray, List.set_cons_zero, List.set_cons_succ]; rfl)), ?_⟩
  refine .nil ?_
  intro w4 hb4
  go_wp2_with fail
  go_ret
  exact ⟨rfl, hb4⟩
end Go.Proofs.Ytedbjkmgfcnkeaa

/- What slices.Compact makes of a sorted row of texts: plain. -/
namespace Go.Proofs.Ytedbjkmgfcnkeaa
open Go.RowKit Go.Lib

theorem compact_spec (zs : List (List UInt8)) (hs : zs.Pairwise fun a b => leT a b = true) : ∀ m, m ≤ zs.length →
    (∀ x, x ∈ compactUpTo zs.toArray m ↔ x ∈ zs.take m) ∧ (compactUpTo zs.toArray m).Pairwise fun a b => leT a b = true ∧ a ≠ b
  | 0, _ => ⟨by simp [compactUpTo], by simp [compactUpTo]⟩
  | m + 1, hm => by
    obtain ⟨h1, h2⟩ := compact_spec zs hs m (by omega)
    rw [compactUpTo_succ]
    have hlt : m < zs.length := by omega
    have ht : zs.take (m + 1) = zs.take m ++ [zs[m]] := List.take_succ_eq_append_getElem hlt
    have hg : zs.toArray[m]! = zs[m] := by simp [hlt]
    have hle : ∀ x ∈ zs.take m, leT x zs[m] = true := by
      intro x hx
      have hp : (zs.take (m + 1)).Pairwise fun a b => leT a b = true := hs.sublist (List.take_sublist _ _)
      rw [ht] at hp
      exact (List.pairwise_append.1 hp).2.2 x hx _ (by simp)
    rw [hg]
    by_cases hk : keeps zs.toArray m = true
    · rw [if_pos hk]
      have hne : ∀ x ∈ zs.take m, x ≠ zs[m] := by
        intro x hx e
        have hm0 : 0 < m := by
          rcases Nat.eq_zero_or_pos m with rfl | h
          · simp at hx
          · exact h
        have hg1 : zs.toArray[m - 1]! = zs[m - 1] := by simp [show m - 1 < zs.length by omega]
        unfold keeps at hk
        rw [hg, hg1] at hk
        simp only [decide_eq_true_eq] at hk
        rcases hk with hk | hk
        · omega
        · obtain ⟨i, hi, rfl⟩ := List.getElem_of_mem hx
          rw [List.length_take] at hi
          rw [List.getElem_take] at e
          have e1 : leT zs[i] zs[m - 1] = true := by
            by_cases hi2 : i = m - 1
            · subst hi2
              have := leT_total zs[m - 1] zs[m - 1]
              simpa using this
            · exact List.pairwise_iff_getElem.1 hs i (m - 1) (by omega) (by omega) (by omega)
          have e2 : leT zs[m - 1] zs[m] = true := List.pairwise_iff_getElem.1 hs (m - 1) m (by omega) (by omega) (by omega)
          rw [e] at e1
          exact hk (leT_anti _ _ e1 e2)
      refine ⟨fun x => ?_, ?_⟩
      · rw [ht, List.mem_append, List.mem_append, h1]
      · rw [List.pairwise_append]
        refine ⟨h2, by simp, fun a ha b hb => ?_⟩
        rw [List.mem_singleton.1 hb]
        have ha' := (h1 a).1 ha
        exact ⟨hle a ha', hne a ha'⟩
    · rw [if_neg hk, List.append_nil]
      refine ⟨fun x => ?_, h2⟩
      rw [ht, List.mem_append, h1]
      refine ⟨.inl, fun h => h.elim id fun h => ?_⟩
      rw [List.mem_singleton.1 h]
      unfold keeps at hk
      simp only [decide_eq_true_eq, not_or, Classical.not_not] at hk
      have hg1 : zs.toArray[m - 1]! = zs[m - 1] := by simp [show m - 1 < zs.length by omega]
      rw [hg, hg1] at hk
      rw [hk.2]
      have : zs[m - 1] = (zs.take m)[m - 1]'(by rw [List.length_take]; omega) := by rw [List.getElem_take]
      rw [this]
      exact List.getElem_mem _
/-- two rows of paths, sorted, each once: the paths of both -/
theorem compact_union (ss ts : List (List UInt8)) {α : Type} {U : List (List UInt8 × α)} (hU : SortR U) (f : List UInt8 → Bool) (hm : ∀ k, k ∈ ss ++ ts ↔ (k ∈ keysR U ∧ f k = true)) : compact ((ss ++ ts).mergeSort leT) = (keysR U).filter f := by
  have hso : ((ss ++ ts).mergeSort leT).Pairwise fun a b => leT a b = true := List.pairwise_mergeSort leT_trans leT_total _
  obtain ⟨h1, h2⟩ := compact_spec _ hso _ (Nat.le_refl _)
  rw [List.take_length] at h1
  have hnd : (compact ((ss ++ ts).mergeSort leT)).Nodup := by
    rw [List.nodup_iff_pairwise_ne]
    exact h2.imp fun h => h.2
  have hmm : ∀ k, k ∈ compact ((ss ++ ts).mergeSort leT) ↔ (k ∈ keysR U ∧ f k = true) := by
    intro k
    rw [← hm k]
    exact (h1 k).trans (List.mergeSort_perm _ _).mem_iff
  have hp : (compact ((ss ++ ts).mergeSort leT)).Perm ((keysR U).filter f) := (List.perm_ext_iff_of_nodup hnd (hU.nodup.filter _)).2 fun k => by rw [hmm, List.mem_filter]
  exact List.Perm.eq_of_pairwise (le := fun a b => leT a b = true) (fun a b _ _ h1 h2 => leT_anti a b h1 h2) (h2.imp fun h => h.1) (hU.keys.filter _) hp
end Go.Proofs.Ytedbjkmgfcnkeaa

/- slices.SortFunc of texts by name.Compare: a row of the call's own, in the paths' order. -/
namespace Go.Proofs.Ytedbjkmgfcnkeaa
open Go.Shelf Go.RowKit Go.Lib Go.Sort

/-- a text that is no longer than a text may be -/
abbrev TxtB := { l : List UInt8 // l.length ≤ 9223372036854775807 }
instance : Inhabited TxtB := ⟨⟨[], by simp⟩⟩
def txtV (x : TxtB) : Value := .string ⟨⟨x.1⟩⟩
def cmpX (x y : TxtB) : Int := cmpT x.1 y.1

section
variable {α : Type} [Inhabited α] {enc : α → Value}
theorem heap_sortedG {w : World} {g n : Nat} {os : Array Obj} {cur : Array Value} {e : TypeId} {fr : Nat × Nat} (d : Array α) (hb : w.heap[g]? = some (.cells cur e fr)) :
    (grow (putRow enc (Sort.ahead w n) g 0 d) os).heap[g]? = some (.cells (putCells enc 0 d cur) e fr) := by
  have hg : g < w.heap.size := (Array.getElem?_eq_some_iff.1 hb).1
  rw [heap_grow_old _ _ (by simpa using hg)]
  simp [putRow, mapBlock, Sort.ahead, Array.getElem?_modify, hb, onCells]
theorem grownBy_sortedG {w : World} {g n : Nat} {os : Array Obj} (d : Array α) : w.grownBy (grow (putRow enc (Sort.ahead w n) g 0 d) os) (some g) := by
  refine ⟨rfl, rfl, rfl, by simp, fun k hk hne => ?_⟩
  rw [heap_grow_old _ _ (by simpa using hk)]
  have : g ≠ k := fun e => hne (by rw [e])
  simp [putRow, mapBlock, Sort.ahead, Array.getElem?_modify, this]
theorem take_putCellsG (cur : Array Value) (ts : List α) (h : ts.length ≤ cur.size) : (putCells enc 0 ts.toArray cur).toList.take ts.length = ts.map enc := by
  apply List.ext_getElem?
  intro j
  by_cases hj : j < ts.length
  · rw [List.getElem?_take_of_lt hj, Array.getElem?_toList]
    simp [putCells, hj, show j < cur.size by omega]
  · rw [List.getElem?_take_eq_none (by omega), List.getElem?_eq_none (by simp; omega)]
theorem ownsRow_sortedG {w : World} {base g cap n : Nat} {e : TypeId} {os : Array Obj} {cur : Array Value} {ss ts : List α} (hl : ts.length = ss.length) (hbase : base ≤ g) (hb : w.heap[g]? = some (.cells cur e (0, 0)))
    (h1 : ss.length ≤ cap) (h2 : cap ≤ maxLen) (h3 : cur.size = cap * 1) :
    (grow (putRow enc (Sort.ahead w n) g 0 ts.toArray) os).ownsRow base e 1 (.slice (some ⟨g, 0, none⟩) ss.length cap) ss.length (ts.map enc) :=
  ⟨by simp [hl], .inr ⟨g, cap, _, rfl, hbase, heap_sortedG _ hb, h1, h2, by simp [putCells, h3], by rw [Nat.mul_one, ← hl]; exact take_putCellsG cur ts (by omega)⟩⟩
theorem holds_of_blockG {w : World} {g : Nat} {cur : Array Value} {e : TypeId} {ss : List α} (hb : w.heap[g]? = some (.cells cur e (0, 0))) (ht : cur.toList.take ss.length = ss.map enc) : Holds enc w g 0 ss.toArray := by
  intro j hj
  have hj' : j < ss.length := by simpa using hj
  refine ⟨?_, by simp [World.frozen?, hb]⟩
  have h1 : (cur.toList.take ss.length)[j]? = (ss.map enc)[j]? := by rw [ht]
  rw [List.getElem?_take_of_lt hj'] at h1
  simp only [World.cell?, hb, Nat.zero_add]
  simp only [Option.isSome_none, Bool.false_eq_true, if_false]
  rw [← Array.getElem?_toList, h1]
  simp [hj']
end
theorem cmpX_lt (x y : TxtB) : ltOf cmpX x y = decide (cmpT x.1 y.1 < 0) := rfl
theorem swoX : SWO (ltOf cmpX) where
  irrefl x := by rw [cmpX_lt, cmpT_self]; simp
  trans x y z h1 h2 := by
    rw [cmpX_lt] at *
    simp only [decide_eq_true_eq] at *
    exact ordT.trans _ _ _ h1 h2
  ntrans x y z h1 h2 := by
    rw [cmpX_lt] at *
    have := leT_trans z.1 y.1 x.1 (by simpa [leT] using h2) (by simpa [leT] using h1)
    simpa [leT] using this
theorem totX (x y : TxtB) (h1 : ltOf cmpX x y = false) (h2 : ltOf cmpX y x = false) : x = y := by
  rw [cmpX_lt] at *
  exact Subtype.ext (leT_anti x.1 y.1 (by simpa [leT] using h2) (by simpa [leT] using h1))
theorem cmpReadsX (blk off size : Nat) (w : World) : CmpReads Try.prog 61 #[] txtV cmpX blk off size w := by
  intro m os dk _ x y
  refine (compare_any ⟨⟨x.1⟩⟩ ⟨⟨y.1⟩⟩ x.2 y.2 _).mono ?_
  rintro e w' ⟨rfl, hq⟩
  exact ⟨rfl, hq⟩
theorem txts : ∀ (ss : List (List UInt8)), (∀ x ∈ ss, x.length ≤ 140737488355328) → ∃ ts : List TxtB, ts.map Subtype.val = ss
  | [], _ => ⟨[], rfl⟩
  | x :: ss, h => by
    obtain ⟨ts, e⟩ := txts ss (fun y hy => h y (by simp [hy]))
    exact ⟨⟨x, by have := h x (by simp); omega⟩ :: ts, by rw [List.map_cons, e]⟩
set_option maxHeartbeats 1000000 in
/-- a row of texts is sorted by name.Compare -/
theorem sortsT : SortsT := by
  intro base A c ss w hown hl hss
  obtain ⟨ts, hts⟩ := txts ss hl
  have hlen : ts.length = ss.length := by rw [← hts, List.length_map]
  have hmv : ss.map stv = ts.map txtV := by rw [← hts, List.map_map]; rfl
  rcases hown.2 with ⟨hnil, h0⟩ | ⟨g, cap, cur, hv, hbase, hb, h1, h2, h3, h4⟩
  · obtain ⟨rfl, hl0, rfl⟩ : A = none ∧ ss.length = 0 ∧ c = 0 := by simpa using hnil
    obtain rfl : ss = [] := List.eq_nil_of_length_eq_zero hl0
    have hcon := AnyF.slices_SortFunc_none { Try.sortT with } none 0 (.func (.func 61) #[] #[]) w
    change Calls Try.prog 60 _ _ _ at hcon
    refine hcon.mono ?_
    rintro e w' ⟨rfl, rfl⟩
    exact ⟨rfl, by simpa using hown, World.grownBy.refl _ _⟩
  · obtain ⟨rfl, rfl⟩ : A = some ⟨g, 0, none⟩ ∧ c = cap := by simpa using hv
    have eg : ∀ args w, (callFunc 61 args).run Try.prog w = .ok (.enter 61 args) w := enters_of Try.func61 (by kernel_rfl) rfl
    have hglt : g < w.heap.size := (Array.getElem?_eq_some_iff.1 hb).1
    have hH : Holds txtV w g 0 ts.toArray := holds_of_blockG hb (by rw [hlen, ← hmv]; simpa using h4)
    have hbig : ss.length < 4611686018427387904 := by omega
    have hcon := Any.slices_SortFunc_total Try.sortT txtV (fun _ => rfl) cmpX swoX 61 #[] g 0 c ts.toArray w eg (cmpReadsX g 0 ts.toArray.size w).lays hH hglt (by simpa [hlen] using hbig) totX
    change Calls Try.prog 60 _ _ _ at hcon
    rw [show ts.toArray.size = ss.length by simp [hlen]] at hcon
    refine hcon.mono ?_
    rintro e w' ⟨rfl, n, os, rfl⟩
    have hms : (ts.mergeSort fun x y => !(ltOf cmpX) y x).map Subtype.val = ss.mergeSort leT := by
      rw [← hts]
      exact List.map_mergeSort (fun a _ b _ => rfl)
    refine ⟨rfl, ?_, ?_⟩
    · have := ownsRow_sortedG (enc := txtV) (n := n) (os := os) (ts := ts.mergeSort fun x y => !(ltOf cmpX) y x) (ss := ts) (by rw [List.length_mergeSort]) hbase hb (by omega) h2 h3
      rw [hlen] at this
      have e2 : (ss.mergeSort leT).map stv = (ts.mergeSort fun x y => !(ltOf cmpX) y x).map txtV := by rw [← hms, List.map_map]; rfl
      rw [e2]
      exact this
    · exact grownBy_sortedG _
end Go.Proofs.Ytedbjkmgfcnkeaa

/- slices.Compact of a sorted row of texts of the call's own. -/
namespace Go.Proofs.Ytedbjkmgfcnkeaa
open Go.Shelf Go.RowKit Go.Lib Go.Sort

theorem own_cut {w : World} {base : Nat} {e : TypeId} {size n c : Nat} {A : Option Addr} {xs : List Value} (h : w.ownsRow base e size (.slice A n c) n xs) (k : Nat) (hk : k ≤ n) (hA : A = none → k = 0) : w.ownsRow base e size (.slice A k c) k (xs.take (k * size)) := by
  have hkn : k * size ≤ n * size := Nat.mul_le_mul_right _ hk
  refine ⟨by rw [List.length_take, h.1]; omega, ?_⟩
  rcases h.2 with ⟨hv, h0⟩ | ⟨g, cap, cur, hv, hb, hg, h1, h2, h3, h4⟩
  · injection hv with e1 e2 e3
    subst e1 e3
    have : k = 0 := by omega
    subst this
    exact .inl ⟨rfl, rfl⟩
  · injection hv with e1 e2 e3
    subst e1 e3
    exact .inr ⟨g, c, cur, rfl, hb, hg, by omega, h2, h3, by rw [← h4, List.take_take]; congr 1; omega⟩
theorem compactT_any (base : Nat) (A : Option Addr) (c : Nat) (ss : List (List UInt8)) (w : World) (hown : w.ownsRow base 9 1 (.slice A ss.length c) ss.length (ss.map stv)) (hss : ss.length ≤ 1099511627776) :
    Calls Try.prog 62 #[.slice A ss.length c] w fun e w' => e = .returned (.slice A (compact ss).length c) ∧ w'.ownsRow base 9 1 (.slice A (compact ss).length c) (compact ss).length ((compact ss).map stv) ∧ w.grownBy w' (ablk A) := by
  rcases hown.2 with ⟨hnil, h0⟩ | ⟨g, cap, cur, hv, hbase, hb, h1, h2, h3, h4⟩
  · obtain ⟨rfl, hl0, rfl⟩ : A = none ∧ ss.length = 0 ∧ c = 0 := by simpa using hnil
    obtain rfl : ss = [] := List.eq_nil_of_length_eq_zero hl0
    refine (Try.slices_Compact_string_empty none 0 w).mono ?_
    rintro e w' ⟨rfl, rfl⟩
    exact ⟨rfl, by simpa [compact, compactUpTo] using hown, World.grownBy.refl _ _⟩
  · obtain ⟨rfl, rfl⟩ : A = some ⟨g, 0, none⟩ ∧ c = cap := by simpa using hv
    have hH : Holds encStr w g 0 ss.toArray := holds_of_blockG hb (by rw [Nat.mul_one] at h4; exact h4)
    refine (Try.slices_Compact_string g 0 c ss w hH (by omega) h1).mono ?_
    rintro e w' ⟨rfl, n, rfl⟩
    have hle := compact_length_le ss
    have hl2 : (compact ss ++ List.replicate (ss.length - (compact ss).length) ([] : List UInt8)).length = ss.length := by simp; omega
    refine ⟨rfl, ?_, ?_⟩
    · have := ownsRow_sortedG (enc := encStr) (n := n) (os := #[]) (ts := compact ss ++ List.replicate (ss.length - (compact ss).length) ([] : List UInt8)) (ss := ss) hl2 hbase hb h1 h2 h3
      have h5 := own_cut this (compact ss).length hle (by simp)
      rw [List.map_append, List.take_append_of_le_length (by simp), List.take_of_length_le (by simp)] at h5
      exact h5
    · exact grownBy_sortedG (os := #[]) _
end Go.Proofs.Ytedbjkmgfcnkeaa
