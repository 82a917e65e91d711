/- entry.Write. -/
import Derived.Test.YtofllgmieciakabEntryLight
import Derived.Test.YtofllgmieciakabLeafWrite
import Derived.Test.YtofllgmieciakabConvStr
namespace Go.Proofs.Ytofllgmieciakab
open Go.RowKit

/-- an entry's bytes -/
def entB (p l : List UInt8) (v k : Int) : List UInt8 := if checkE p v k l.length ≠ 0 then [] else textB p ++ (numB v.toNat ++ leafB k l)
abbrev EV.b (o : EV) : List UInt8 := entB (tl o.p) o.x.l o.v o.k
theorem entB_bad {p l : List UInt8} {v k : Int} (h : checkE p v k l.length ≠ 0) : entB p l v k = [] := by unfold entB; rw [if_pos h]
theorem entB_good {p l : List UInt8} {v k : Int} (h : checkE p v k l.length = 0) : entB p l v k = textB p ++ (numB v.toNat ++ leafB k l) := by unfold entB; rw [if_neg (by simpa using h)]
theorem entB_len (p l : List UInt8) (v k : Int) : (entB p l v k).length ≤ 36 + (p.length + l.length) := by
  have h1 := numB_len p.length
  have h2 := numB_len v.toNat
  have h3 := leafB_len k l
  unfold entB textB
  split
  · simp
  · simp only [List.length_append]; omega
theorem EV.b_len (o : EV) : o.b.length ≤ 36 + lenE o := entB_len _ _ _ _
/-- bytes that entries take at most -/
def wideE (ls : List EV) : Nat := (ls.map fun o => 36 + lenE o).sum
theorem wideE_light (l : List EV) : wideE l = 36 * l.length + lensE l := by
  induction l with
  | nil => simp [wideE, lensE]
  | cons x l ih =>
    simp only [wideE, lensE, List.map_cons, List.sum_cons, List.length_cons] at ih ⊢
    omega
theorem wideE_all (l : List EV) : (l.flatMap EV.b).length ≤ wideE l := by
  induction l with
  | nil => simp [wideE]
  | cons x cs ih =>
    have := x.b_len
    simp only [wideE, List.flatMap_cons, List.length_append, List.map_cons, List.sum_cons] at ih ⊢
    omega
theorem wideE_take (ls : List EV) (i : Nat) (hi : i < ls.length) : ((ls.take i).flatMap EV.b).length + (36 + lenE ls[i]) ≤ wideE ls := by
  have h2 := wideE_all (ls.take i)
  have h3 : wideE (ls.take i) + (36 + lenE ls[i]) ≤ wideE ls := by
    have e : ls = ls.take i ++ ls[i] :: ls.drop (i + 1) := by simp
    have e2 : wideE ls = wideE (ls.take i ++ ls[i] :: ls.drop (i + 1)) := congrArg wideE e
    rw [e2]
    simp only [wideE, List.map_append, List.map_cons, List.sum_append, List.sum_cons]
    omega
  omega
theorem wideE_len : ∀ ls : List EV, ls.length ≤ wideE ls
  | [] => by simp
  | x :: ls => by
    have := wideE_len ls
    simp only [wideE, List.map_cons, List.sum_cons, List.length_cons] at this ⊢
    omega

set_option maxRecDepth 100000 in
set_option maxHeartbeats 1000000 in
theorem entryWrite_any (base pb : Nat) (v : Value) (l : List UInt8) (A : Option Addr) (c : Nat) (ls : List EV) (Z : Nat → Prop) (w : World) (hp : Pen w base pb v l) (hr : Rd w Z 4 A ls.length (ls.flatMap EV.cells)) (hok : ∀ x ∈ ls, x.ok w Z)
    (hZ : ∀ b, b < w.heap.size → Z b → ¬ (b = pb ∨ v.ownBlock = some b)) (hbase : base ≤ w.heap.size) (hlen : l.length + wideE ls ≤ 140737488355328) :
    Calls Try.prog 41 #[.pointer (some ⟨pb, 0, none⟩), .slice A ls.length c] w fun e w' => e = .returned (.tuple #[]) ∧ ∃ v', PenTo w base pb v (l ++ ls.flatMap EV.b) w' v' := by
  have hbl := wideE_len ls
  go_enter Try.func41, Try.ntmps41
  go_wp2_with fail
  go_loopw [8] (fun iv wr => ∃ (i : Nat) (Li : List UInt8) (v' : Value), i ≤ ls.length ∧ iv = .int .i64 (i : Int) ∧ PenTo w base pb v Li wr v' ∧ Hid (Li = l ++ (ls.take i).flatMap EV.b)) (fun iv _ => ls.length - (intOf iv).toNat)
  case atStart => exact ⟨0, l, v, Nat.zero_le _, rfl, PenTo.refl hp, by show l = _; simp⟩
  case round =>
    obtain ⟨i, Li, v', hi, rfl, hpi, hLi⟩ := hrel
    have hsz := hpi.fr.size
    by_cases hlt : i < ls.length
    · obtain ⟨b, off, rfl, _, _, hc0, hc1, hc2, hc3⟩ := ent_at (hr.fr hpi.fr hZ) hlt
      have hxok := hok _ (List.getElem_mem hlt)
      have hw := wideE_take ls i hlt
      have hll : Li.length + (36 + lenE ls[i]) ≤ 140737488355328 := by rw [hLi.out, List.length_append]; omega
      have hLn := flat_take (f := EV.b) hlt hLi.out
      have HLn := Lib.hid hLn
      clear hLn hw
      generalize ls[i] = o at hc0 hc1 hc2 hc3 HLn hxok hll
      obtain ⟨⟨⟨pl⟩⟩, u, k, xA, xc, xl⟩ := o
      obtain ⟨hbx, hxl, hpl0, hu, hk⟩ := hxok
      replace hll : Li.length + (36 + (pl.length + xl.length)) ≤ 140737488355328 := hll
      replace hpl0 : pl.length ≤ 140737488355328 := hpl0
      replace HLn : Hid (Li ++ entB pl xl u k = l ++ (ls.take (i + 1)).flatMap EV.b) := HLn
      dsimp only at *
      obtain ⟨n, rfl⟩ : ∃ n : Nat, u = n := ⟨u.toNat, by omega⟩
      have HCK := Lib.hid (fun w => entryCheck_any ⟨⟨pl⟩⟩ (n : Int) k xA xl.length xc w (by show pl.length ≤ _; omega) hu hxl)
      rw [show tl ⟨⟨pl⟩⟩ = pl from rfl] at HCK
      by_cases hck : checkE pl (n : Int) k xl.length = 0
      · rw [hck] at HCK
        rw [entB_good hck, Int.toNat_natCast] at HLn
        clear hck
        go_wp2_with fail
        refine (HCK.out _).mono ?_
        rintro e w1 ⟨rfl, hb1⟩
        have hx1 : Blk w1 wr.heap.size 58 #[.string ⟨⟨pl⟩⟩, .int .u64 (n : Int), .int .i64 k, .slice xA xl.length xc] := (Blk.new wr 58 #[.string ⟨⟨pl⟩⟩, .int .u64 (n : Int), .int .i64 k, .slice xA xl.length xc]).below hb1
        have hlow1 : Below wr.heap.size wr w1 := ((Below.refl _ _).alloc (Nat.le_refl _) _).trans (hb1.mono (by simp))
        have hp1 : PenTo w base pb v Li w1 v' := hpi.mem hlow1
        have hn1 : wr.heap.size ≠ pb := by have := hpi.pen.blk.lt; omega
        have hn2 : v'.ownBlock ≠ some wr.heap.size := fun e => by have := (hpi.pen.own.lt _ e).2; omega
        have c0 : w1.cell? ⟨wr.heap.size, 0, none⟩ = some (.string ⟨⟨pl⟩⟩) := hx1.cell 0
        have hs1 := hlow1.size
        have hbx1 := hx1.lt
        clear hb1 HCK
        obtain ⟨cc, W2, hcv, hby, hcc1, hcc2, hlow2, hs2⟩ := conv_str w1 pl (by simp only [maxLen]; omega)
        go_wp2_with fail
        have hp2 := hp1.mem hlow2
        have hx2 := hx1.below hlow2
        clear hcv
        refine (Text_any base pb v' Li _ _ [⟨some ⟨w1.heap.size, 0, none⟩, cc, pl⟩] (fun b => b = w1.heap.size ∨ W2.heap.size ≤ b) _ (hp2.pen.alloc _) ((Rd.lit rfl rfl hs2.symm).mono (fun b _ hb => .inr hb)) ?_ ?_ ?_ ?_).mono ?_
        · intro y hy
          obtain rfl := List.mem_singleton.1 hy
          exact BV.ok.mono (BV.ok.below (w := W2) ⟨hby, hcc1, hcc2⟩ ((Below.refl _ _).alloc (Nat.le_refl _) _)) (fun b _ hb => .inl hb)
        · rintro b' _ hb' he
          have h9 := hp1.pen.blk.lt
          rcases he with rfl | he
          · rcases hb' with e | e <;> omega
          · have h8 := (hp1.pen.own.lt _ he).2
            rcases hb' with e | e <;> omega
        · simp; omega
        · simp [wide]; omega
        rintro e w3 ⟨rfl, v3, h3⟩
        have hp3 := hp2.trans (PenTo.after hp2.pen ((Below.refl _ _).alloc (Nat.le_refl _) _) h3)
        rw [List.flatMap_cons, List.flatMap_nil, List.append_nil] at hp3
        have hx3 := box_keep h3 (hx2.alloc _) hn1 hn2
        have hn3 : v3.ownBlock ≠ some wr.heap.size := by
          rcases h3.at_ with e | ⟨g, e, hg⟩
          · rw [e]; exact hn2
          · rw [e]
            intro e2
            injection e2 with e2
            simp at hg
            omega
        have c1 : w3.cell? ⟨wr.heap.size, 1, none⟩ = some (.int .u64 (n : Int)) := hx3.cell 1
        have hs3 := hp3.fr.size
        have htl := numB_len pl.length
        have htb : (textB pl).length ≤ 9 + pl.length := by unfold textB; rw [List.length_append]; omega
        have hs3' : W2.heap.size + 1 ≤ w3.heap.size := by have := h3.fr.size; simpa using this
        clear c0 hp1 hp2 hx1 hx2 h3 hby hlow2 hn2
        go_wp2_with fail
        refine (Num_any base pb v3 (Li ++ textB pl) _ _ [n] (fun b => w3.heap.size ≤ b) _ (hp3.pen.alloc _) (Rd.lit rfl rfl (by simp)) ?_ ?_ ?_ ?_).mono ?_
        · rintro b' _ hb' (rfl | e)
          · have := hp3.pen.blk.lt; omega
          · have := (hp3.pen.own.lt _ e).2; omega
        · simp; omega
        · simp; omega
        · simp; omega
        rintro e w4 ⟨rfl, v4, h4⟩
        have hp4 := hp3.trans (PenTo.after hp3.pen ((Below.refl _ _).alloc (Nat.le_refl _) _) h4)
        rw [List.flatMap_cons, List.flatMap_nil, List.append_nil] at hp4
        have hx4 := box_keep h4 (hx3.alloc _) hn1 hn3
        have c2 : w4.cell? ⟨wr.heap.size, 2, none⟩ = some (.int .i64 k) := hx4.cell 2
        have c3 : w4.cell? ⟨wr.heap.size, 3, none⟩ = some (.slice xA xl.length xc) := hx4.cell 3
        have hs4 := hp4.fr.size
        have hnb := numB_len n
        have hat4 := hp4.at_
        have hxs : BV.ok w4 (fun b => Z b ∧ b < w.heap.size) ⟨xA, xc, xl⟩ := (BV.ok.mono (Z' := fun b => Z b ∧ b < w.heap.size) hbx (fun b h1 h2 => ⟨h2, h1⟩)).fr hp4.fr (fun b _ h2 => hZ b h2.2 h2.1)
        clear c1 hp3 hx3 h4
        go_wp2_with fail
        refine (leafWrite_any base pb v4 (Li ++ textB pl ++ numB n) _ _ [⟨k, ⟨xA, xc, xl⟩⟩] (fun b => (Z b ∧ b < w.heap.size) ∨ w4.heap.size ≤ b) _ (hp4.pen.alloc _) ((Rd.lit rfl rfl (by simp)).mono (fun b _ hb => .inr hb)) ?_ ?_ ?_ ?_).mono ?_
        · intro y hy
          obtain rfl := List.mem_singleton.1 hy
          exact BV.ok.mono (BV.ok.below (w := w4) hxs ((Below.refl _ _).alloc (Nat.le_refl _) _)) (fun b _ hb => .inl hb)
        · rintro b' _ hb' he
          rcases hb' with hb' | hb'
          · refine hZ b' hb'.2 hb'.1 ?_
            rcases he with he | he
            · exact .inl he
            · rcases hat4 with e | ⟨g, e, hg⟩
              · exact .inr (by rw [← e]; exact he)
              · rw [e] at he
                injection he with he
                omega
          · rcases he with he | he
            · have := hp4.pen.blk.lt; omega
            · have := (hp4.pen.own.lt _ he).2; omega
        · simp; omega
        · simp only [wideL, List.length_append, List.map_cons, List.map_nil, List.sum_cons, List.sum_nil]; omega
        rintro e w5 ⟨rfl, v5, h5⟩
        have hp5 := hp4.trans (PenTo.after hp4.pen ((Below.refl _ _).alloc (Nat.le_refl _) _) h5)
        rw [List.flatMap_cons, List.flatMap_nil, List.append_nil, List.append_assoc, List.append_assoc] at hp5
        go_wp2_with fail
        go_roundw
        case rel => exact ⟨i + 1, _, v5, hlt, by go_num, hp5, HLn⟩
        case measure => simp [intOf]; omega
      · rw [entB_bad hck, List.append_nil] at HLn
        have hckb : (checkE pl (n : Int) k xl.length == 0) = false := by simpa using hck
        clear hck
        generalize checkE pl (n : Int) k xl.length = C at *
        go_wp2_with fail
        refine (HCK.out _).mono ?_
        rintro e w1 ⟨rfl, hb1⟩
        have hlow1 : Below wr.heap.size wr w1 := ((Below.refl _ _).alloc (Nat.le_refl _) _).trans (hb1.mono (by simp))
        have hp1 : PenTo w base pb v Li w1 v' := hpi.mem hlow1
        go_wp2_with fail
        go_roundw
        case rel => exact ⟨i + 1, _, v', hlt, by go_num, hp1, HLn⟩
        case measure => simp [intOf]; omega
    · have e : i = ls.length := by omega
      go_wp2_with fail
      go_end0
      subst e
      refine ⟨rfl, v', ?_⟩
      have hL : Li = l ++ ls.flatMap EV.b := by rw [hLi.out, List.take_length]
      rw [← hL]
      exact hpi
end Go.Proofs.Ytofllgmieciakab
