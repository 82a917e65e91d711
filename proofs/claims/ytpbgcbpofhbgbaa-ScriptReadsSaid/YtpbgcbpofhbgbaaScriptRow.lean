/- Rows of acts; tenderlaw41.same of rows that have the same. -/
import Derived.Test.YtpbgcbpofhbgbaaScriptSameEq
import Derived.Test.YtpbgcbpofhbgbaaClassF
import Derived.StillTailTactics
namespace Go.Proofs.Ytpbgcbpofhbgbaa
open Go.RowKit

/-- an act's cells from one place on -/
def At11 (w : World) (g o : Nat) (v : AV) : Prop := w.cell? ⟨g, o, none⟩ = some (.int .i64 v.a.k) ∧ w.cell? ⟨g, o + 1, none⟩ = some (.int .i64 v.a.s) ∧ w.cell? ⟨g, o + 2, none⟩ = some (.int .i64 v.a.n) ∧ w.cell? ⟨g, o + 3, none⟩ = some (.int .i64 v.a.b) ∧ w.cell? ⟨g, o + 4, none⟩ = some (.int .u32 v.a.m) ∧ w.cell? ⟨g, o + 5, none⟩ = some (.int .i64 v.a.ek) ∧ w.cell? ⟨g, o + 6, none⟩ = some (.string v.a.p) ∧ w.cell? ⟨g, o + 7, none⟩ = some (.string v.a.t) ∧ w.cell? ⟨g, o + 8, none⟩ = some (.slice v.xA v.a.x.length v.xc) ∧ w.cell? ⟨g, o + 9, none⟩ = some (.slice v.kA v.a.kl.length v.kc) ∧ w.cell? ⟨g, o + 10, none⟩ = some (.slice v.cA v.a.cl.length v.cc)
theorem At11.below {w w' : World} {g o : Nat} {v : AV} (h : At11 w g o v) (hb : g < w.heap.size) (k : Below w.heap.size w w') : At11 w' g o v := by
  obtain ⟨a0, a1, a2, a3, a4, a5, a6, a7, a8, a9, a10⟩ := h
  exact ⟨cellAt k hb a0, cellAt k hb a1, cellAt k hb a2, cellAt k hb a3, cellAt k hb a4, cellAt k hb a5, cellAt k hb a6, cellAt k hb a7, cellAt k hb a8, cellAt k hb a9, cellAt k hb a10⟩
theorem av_at {w : World} {Z : Nat → Prop} {A : Option Addr} {l : List AV} {i : Nat} (h : Rd w Z 11 A l.length (l.flatMap AV.cells)) (hi : i < l.length) :
    ∃ b off, A = some ⟨b, off, none⟩ ∧ Z b ∧ b < w.heap.size ∧ At11 w b (off + i * 11) l[i] := by
  obtain ⟨b, off, hA, hz, hb, hc⟩ := h.2 (by omega)
  have hg : ∀ j, j < 11 → (l.flatMap AV.cells)[i * 11 + j]? = (AV.cells l[i])[j]? := fun j hj => flat_get (k := 11) av_len l i j hi hj
  refine ⟨b, off, hA, hz, hb, ?_, ?_, ?_, ?_, ?_, ?_, ?_, ?_, ?_, ?_, ?_⟩
  · exact hc _ _ (hg 0 (by omega))
  all_goals rw [Nat.add_assoc]
  · exact hc _ _ (hg 1 (by omega))
  · exact hc _ _ (hg 2 (by omega))
  · exact hc _ _ (hg 3 (by omega))
  · exact hc _ _ (hg 4 (by omega))
  · exact hc _ _ (hg 5 (by omega))
  · exact hc _ _ (hg 6 (by omega))
  · exact hc _ _ (hg 7 (by omega))
  · exact hc _ _ (hg 8 (by omega))
  · exact hc _ _ (hg 9 (by omega))
  · exact hc _ _ (hg 10 (by omega))
/-- a slice of acts -/
structure Acts (w : World) (Z : Nat → Prop) (A : Option Addr) (l : List AV) : Prop where
  rd : Rd w Z 11 A l.length (l.flatMap AV.cells)
  ok : ∀ v ∈ l, v.ok w Z
  len : l.length ≤ 4398046511104
theorem Acts.fr {w w' : World} {Z S : Nat → Prop} {A : Option Addr} {l : List AV} (h : Acts w Z A l) (k : Fr S w w') (hs : ∀ b, b < w.heap.size → Z b → ¬ S b) : Acts w' Z A l :=
  ⟨h.rd.fr k hs, fun v hv => (h.ok v hv).fr k hs, h.len⟩
theorem Acts.below {w w' : World} {Z : Nat → Prop} {A : Option Addr} {l : List AV} (h : Acts w Z A l) (k : Below w.heap.size w w') : Acts w' Z A l := h.fr (Fr.of_below k (fun _ => False)) (fun _ _ _ h => h)
theorem act_one (l : List AV) : ∀ u ∈ l.flatMap AV.cells, u.oneCell' = true := by
  intro u hu
  obtain ⟨x, _, hx⟩ := List.mem_flatMap.1 hu
  simp only [AV.cells, List.mem_cons, List.not_mem_nil, or_false] at hx
  rcases hx with rfl | rfl | rfl | rfl | rfl | rfl | rfl | rfl | rfl | rfl | rfl <;> rfl
theorem act_info : (Try.prog.info? 57).map (fun i => (i.zero, i.size, i.bytes)) = some (some (.agg #[.int .i64 0, .int .i64 0, .int .i64 0, .int .i64 0, .int .u32 0, .int .i64 0, .string ⟨#[]⟩, .string ⟨#[]⟩, .slice none 0 0, .slice none 0 0, .slice none 0 0]), 11, 152) := by kernel_rfl

set_option maxRecDepth 100000 in
set_option maxHeartbeats 1000000 in
theorem same41_any (A B : Option Addr) (c d : Nat) (l m : List AV) (Z Z' : Nat → Prop) (w : World) (hl : Acts w Z A l) (hm : Acts w Z' B m) (he : Hid (l.map AV.a = m.map AV.a)) :
    Calls Try.prog 28 #[.slice A l.length c, .slice B m.length d] w fun e w' => e = .returned (.bool true) ∧ Below w.heap.size w w' := by
  have hlen : l.length = m.length := by simpa using congrArg List.length he.out
  have hq : ((l.length : Int) != (m.length : Int)) = false := by rw [hlen]; simp
  have hll := hl.len
  go_enter Try.func28, Try.ntmps28
  go_wp2_with fail
  go_loopw [13] (fun iv wr => ∃ i : Nat, i ≤ l.length ∧ iv = .int .i64 (i : Int) ∧ Below w.heap.size w wr) (fun iv _ => l.length - (intOf iv).toNat)
  case atStart => exact ⟨0, Nat.zero_le _, rfl, Below.refl _ _⟩
  case round =>
    obtain ⟨i, hi, rfl, hb⟩ := hrel
    by_cases hlt : i < l.length
    · have hlt2 : i < m.length := by omega
      obtain ⟨b, off, rfl, _, hbl, p⟩ := av_at (hl.below hb).rd hlt
      obtain ⟨b', off', rfl, _, hbl', q⟩ := av_at (hm.below hb).rd hlt2
      have hx := (hl.below hb).ok _ (List.getElem_mem hlt)
      have hy := (hm.below hb).ok _ (List.getElem_mem hlt2)
      have hxy : l[i].a = m[i].a := by
        have := congrArg (fun L => L[i]?) he.out
        simpa [List.getElem?_map, List.getElem?_eq_getElem hlt, List.getElem?_eq_getElem hlt2] using this
      generalize l[i] = x at *
      generalize m[i] = y at *
      have HS := Lib.hid (fun W (hW : Below wr.heap.size wr W) => refSameEq_any x y _ _ W hxy (hx.below hW) (hy.below hW))
      clear hx hy hxy
      go_wp2_with fail
      refine wp_region_b 10 (by kernel_rfl) (by kernel_rfl) ?_
      simp only [List.take_succ_cons, List.take_zero, List.drop_succ_cons, List.drop_zero]
      refine lb_move _ (by kernel_rfl) rfl ⟨_, (by ((try simp [go_sem]); (try rfl); done)), _, (by (simp only [Act.put, List.setIfInBounds_toArray, List.set_cons_zero, List.set_cons_succ]; rfl)), ?_⟩
      refine lb_move _ (by kernel_rfl) rfl ⟨_, (by ((try simp [go_sem]); (try rfl); done)), _, (by (simp only [Act.put, List.setIfInBounds_toArray, List.set_cons_zero, List.set_cons_succ]; rfl)), ?_⟩
      refine lb_val (by kernel_rfl) ⟨_, (by (intro w' hC; clear hC; (try go_simp); (try with_reducible rfl); done)), _, (by (simp only [Act.put, List.setIfInBounds_toArray, List.set_cons_zero, List.set_cons_succ]; rfl)), ?_⟩
      refine lb_val (by kernel_rfl) ⟨_, (by (intro w' hC; (obtain ⟨p0, p1, p2, p3, p4, p5, p6, p7, p8, p9, p10⟩ := p.below hbl hC); clear hC; (try go_simp); (try with_reducible rfl); done)), _, (by (simp only [Act.put, List.setIfInBounds_toArray, List.set_cons_zero, List.set_cons_succ]; rfl)), ?_⟩
      refine lb_move _ (by kernel_rfl) rfl ⟨_, (by ((try simp [go_sem]); (try rfl); done)), _, (by (simp only [Act.put, List.setIfInBounds_toArray, List.set_cons_zero, List.set_cons_succ]; rfl)), ?_⟩
      refine lb_move _ (by kernel_rfl) rfl ⟨_, (by ((try simp [go_sem]); (try rfl); done)), _, (by (simp only [Act.put, List.setIfInBounds_toArray, List.set_cons_zero, List.set_cons_succ]; rfl)), ?_⟩
      refine lb_val (by kernel_rfl) ⟨_, (by (intro w' hC; clear hC; (try go_simp); (try with_reducible rfl); done)), _, (by (simp only [Act.put, List.setIfInBounds_toArray, List.set_cons_zero, List.set_cons_succ]; rfl)), ?_⟩
      refine lb_val (by kernel_rfl) ⟨_, (by (intro w' hC; (obtain ⟨q0, q1, q2, q3, q4, q5, q6, q7, q8, q9, q10⟩ := q.below hbl' hC); clear hC; (try go_simp); (try with_reducible rfl); done)), _, (by (simp only [Act.put, List.setIfInBounds_toArray, List.set_cons_zero, List.set_cons_succ]; rfl)), ?_⟩
      refine lb_call (by kernel_rfl) (fun w' hC => HS.out _ hC) (by (intro w'; go_simp; done)) ⟨_, (by (simp only [Act.put, List.setIfInBounds_toArray, List.set_cons_zero, List.set_cons_succ]; rfl)), ?_⟩
      refine lb_val (by kernel_rfl) ⟨_, (by (intro w' hC; clear hC; (try go_simp); (try with_reducible rfl); done)), _, (by (simp only [Act.put, List.setIfInBounds_toArray, List.set_cons_zero, List.set_cons_succ]; rfl)), ?_⟩
      refine .nil ?_
      intro w9 hb9
      clear p q HS
      go_wp2_with fail
      go_roundw
      case rel => exact ⟨i + 1, hlt, by go_num, hb.trans (hb9.mono hb.size)⟩
      case measure => simp [intOf]; omega
    · have e : i = l.length := by omega
      subst e
      go_wp2_with fail
      go_ret
      exact ⟨rfl, hb⟩
end Go.Proofs.Ytpbgcbpofhbgbaa
