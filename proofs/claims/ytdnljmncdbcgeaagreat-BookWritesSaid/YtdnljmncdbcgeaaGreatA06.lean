/- Maps keyed by texts, as rows in the paths' order: whatever the elements are. No program. -/
import Derived.Test.YtdnljmncdbcgeaaGreatA05
import Derived.Maps.RangeWalk
import Derived.Sort.KeysCollected
import Derived.Deep.Cut
import Derived.Maps.OwnSet
import Derived.Deep.Quiet
import Derived.StillTail
import Derived.BigQuiet

namespace Go.Proofs.YtdnljmncdbcgeaaGreat
open Go.Maps (Keyed string_keyed)
open Go.WideShapes Go.MapKept Go.ChangeMaps

/-- an element as it is -/
def heldR : Value → Option (DataW Value × List MemPlace) := fun v => some (.held v, [])
/-- what a map's datum tells at each text is what the row tells -/
def Tells (D : DataW Value) (L : List (List UInt8 × Value)) : Prop := ∀ p z, D.atKey (.string p) z = ((getR L p).map DataW.held).getD z
theorem Tells.has {D : DataW Value} {L : List (List UInt8 × Value)} (h : Tells D L) (p : List UInt8) : Go.Maps.has D (.string p) = (getR L p).isSome := by
  rcases hg : getR L p with _ | v
  · exact Go.Maps.has_false_of_atKey fun z => by rw [h, hg]; rfl
  · exact Go.Maps.has_true_of_atKey (y := .held v) fun z => by rw [h, hg]; rfl
theorem Tells.nil : Tells (.map []) [] := fun _ _ => rfl
theorem Tells.put {D : DataW Value} {L : List (List UInt8 × Value)} (h : Tells D L) (hD : Go.Maps.IsMap D) (p : List UInt8) (v : Value) : Tells (D.put (.string p) (.held v)) (putR L p v) := fun q z => by
  rw [getR_put]
  by_cases hq : q = p
  · subst hq
    rw [if_pos rfl, Go.Maps.atKey_put_same hD (k := .string q) (show WideAt.IsKeyLit (.string q) from trivial)]
    rfl
  · rw [if_neg hq, Go.Maps.atKey_put_other (by simpa using hq), h]
theorem Tells.del {D : DataW Value} {L : List (List UInt8 × Value)} (h : Tells D L) (p : List UInt8) : Tells (D.del (.string p)) (withoutR L p) := fun q z => by
  rw [getR_without]
  by_cases hq : q = p
  · subst hq
    rw [if_pos rfl, Go.Maps.atKey_del_same]
    rfl
  · rw [if_neg hq, Go.Maps.atKey_del_other (by simpa using hq), h]

section
variable {P : Program} {K : TypeId} {w w' : World} {b : Nat} {L : List (List UInt8 × Value)}
/-- block b is a map of type K's keys that has what the row has -/
structure MapAt (w : World) (P : Program) (K : TypeId) (b : Nat) (L : List (List UInt8 × Value)) : Prop where
  sort : SortR L
  own : ∃ D, w.ownsMap P K heldR b L.length D ∧ Tells D L
  len : ∀ x ∈ L, x.1.length ≤ maxLen

theorem own_shrink {H : Type} {R : Value → Option (DataW H × List MemPlace)} {n : Nat} {D : DataW H} (h : w.ownsMap P K R b n D) : w.ownsMap P K R b (Go.Maps.size D) D := by
  obtain ⟨es, clock, hb, F, _, rfl⟩ := h
  exact ⟨es, clock, hb, F, by rw [Go.Maps.size_eq, length_sorted]; simp, rfl⟩
/-- what the datum has are the row's paths -/
theorem own_keys {n : Nat} {D : DataW Value} (h : w.ownsMap P K heldR b n D) (hk : P.underlying K = some .string) (ht : Tells D L) (hs : SortR L) : (keysR L).Perm (strKeys D) ∧ Go.Maps.size D = L.length := by
  have law : Keyed P K := string_keyed hk
  obtain ⟨es, hD, hpw, _⟩ := h.entries law
  obtain ⟨es', hD', hko⟩ := h.keysOf
  obtain rfl : es = es' := by rw [hD] at hD'; simpa using hD'
  have hp : (keysR L).Perm (strKeys D) := by
    rw [hD]
    refine perm_strKeys hpw (fun p hp => by obtain ⟨v, hv⟩ := hko p hp; obtain ⟨x, _, hx, _⟩ := Maps.keyOf_str hk hv; exact ⟨x, hx⟩) hs.nodup fun x => ?_
    rw [← hD, ht.has, getR_isSome]
  refine ⟨hp, ?_⟩
  have := hp.length_eq
  rw [keys_len] at this
  rw [this, hD]
  simp [Go.Maps.size, strKeys]
theorem MapAt.of {n : Nat} {D : DataW Value} (h : w.ownsMap P K heldR b n D) (hk : P.underlying K = some .string) (ht : Tells D L) (hs : SortR L) : MapAt w P K b L := by
  obtain ⟨hp, hz⟩ := own_keys h hk ht hs
  refine ⟨hs, ⟨D, by rw [← hz]; exact own_shrink h, ht⟩, fun x hx => strKeys_le h hk _ (hp.mem_iff.1 (List.mem_map.2 ⟨x, hx, rfl⟩))⟩
theorem MapAt.lt (h : MapAt w P K b L) : b < w.heap.size := by
  obtain ⟨D, h1, _⟩ := h.own
  exact h1.lt
theorem MapAt.kept {row : Option Nat} (h : MapAt w P K b L) (hg : w.grownBy w' row) (hne : some b ≠ row) : MapAt w' P K b L := by
  obtain ⟨D, h1, h2⟩ := h.own
  exact ⟨h.sort, ⟨D, h1.kept hg hne, h2⟩, h.len⟩
theorem MapAt.block (h : MapAt w P K b L) (hb : w'.heap[b]? = w.heap[b]?) : MapAt w' P K b L := by
  obtain ⟨D, ⟨es, clock, h1, r⟩, h2⟩ := h.own
  exact ⟨h.sort, ⟨D, ⟨es, clock, hb.trans h1, r⟩, h2⟩, h.len⟩
/-- a new one -/
theorem MapAt.made (w : World) (P : Program) (K : TypeId) : MapAt (w.alloc (.map #[] 0)) P K w.heap.size [] := ⟨sortR_nil, ⟨_, World.ownsMap_made w P K heldR, Tells.nil⟩, by simp⟩
theorem MapAt.not_cells (h : MapAt w P K b L) {cs : Array Value} {t : TypeId} {f : Nat × Nat} : w.heap[b]? ≠ some (.cells cs t f) := by
  obtain ⟨D, ⟨es, clock, h1, _⟩, _⟩ := h.own
  rw [h1]
  simp

/-- m[k] -/
theorem MapAt.look (h : MapAt w P K b L) (hk : P.underlying K = some .string) {t e : TypeId} (ht : P.underlying t = some (.map K e)) {z : Value} (hz : (zeroValue e).run P w = .ok z w) (p : List UInt8) (hp : p.length ≤ maxLen) :
    (Instr.lookup t (.map (some b)) (.string ⟨⟨p⟩⟩) false).run P w = .ok ((getR L p).getD z) w := by
  obtain ⟨D, h1, h2⟩ := h.own
  obtain ⟨v, ps, hrun, hv⟩ := h1.lookup (string_keyed hk) ht hz (zd := .held z) (zp := []) rfl (Go.WideMaps.keyOf_string_mk hk (s := ⟨⟨p⟩⟩) hp)
  rw [hrun]
  have : DataW.held v = D.atKey (.string p) (.held z) := by simpa [heldR] using congrArg (fun o => o.map Prod.fst) hv
  rw [h2] at this
  congr 1
  rcases hg : getR L p with _ | u
  · rw [hg] at this; simpa using this
  · rw [hg] at this; simpa using this
theorem MapAt.look_ok (h : MapAt w P K b L) (hk : P.underlying K = some .string) {t e : TypeId} (ht : P.underlying t = some (.map K e)) {z : Value} (hz : (zeroValue e).run P w = .ok z w) (p : List UInt8) (hp : p.length ≤ maxLen) :
    (Instr.lookup t (.map (some b)) (.string ⟨⟨p⟩⟩) true).run P w = .ok (.tuple #[(getR L p).getD z, .bool (getR L p).isSome]) w := by
  obtain ⟨D, h1, h2⟩ := h.own
  obtain ⟨v, ps, hrun, hv⟩ := h1.look_ok (string_keyed hk) ht hz (zd := .held z) (zp := []) rfl (Go.WideMaps.keyOf_string_mk hk (s := ⟨⟨p⟩⟩) hp)
  rw [h2.has p] at hrun
  rw [hrun]
  have : DataW.held v = D.atKey (.string p) (.held z) := by simpa [heldR] using congrArg (fun o => o.map Prod.fst) hv
  rw [h2] at this
  have e : v = (getR L p).getD z := by
    rcases hg : getR L p with _ | u
    · rw [hg] at this; simpa using this
    · rw [hg] at this; simpa using this
  rw [e]
/-- m[k] = v -/
theorem MapAt.store (h : MapAt w P K b L) (hk : P.underlying K = some .string) {t e : TypeId} (ht : P.underlying t = some (.map K e)) (p : List UInt8) (hp : p.length ≤ maxLen) (v : Value) (hn : L.length < maxLen) :
    ∃ w', (Instr.mapUpdate t (.map (some b)) (.string ⟨⟨p⟩⟩) v).run P w = .ok () w' ∧ MapAt w' P K b (putR L p v) ∧ w.grownBy w' (some b) ∧ w'.heap.size = w.heap.size := by
  obtain ⟨D, h1, h2⟩ := h.own
  obtain ⟨w', hrun, r1, r2⟩ := h1.store (string_keyed hk) ht hn (Go.WideMaps.keyOf_string_mk hk (s := ⟨⟨p⟩⟩) hp) (val := v) (d := .held v) (ps := []) rfl
  refine ⟨w', hrun, MapAt.of r1 hk (h2.put h1.isMap p v) (h.sort.put p v), r2.grown, ?_⟩
  obtain ⟨_, _, es', clock', _, rfl⟩ := r2
  simp [setBlock]
/-- delete(m, k) -/
theorem MapAt.drop (h : MapAt w P K b L) (hk : P.underlying K = some .string) {t e : TypeId} (ht : P.underlying t = some (.map K e)) (p : List UInt8) (hp : p.length ≤ maxLen) (ty : TypeId) :
    ∃ w', (Builtin.delete_ #[t, K] ty #[.map (some b), .string ⟨⟨p⟩⟩]).run P w = .ok (.tuple #[]) w' ∧ MapAt w' P K b (withoutR L p) ∧ w.grownBy w' (some b) ∧ w'.heap.size = w.heap.size := by
  obtain ⟨D, h1, h2⟩ := h.own
  obtain ⟨w', hrun, r1, r2⟩ := h1.drop (string_keyed hk) ht (Go.WideMaps.keyOf_string_mk hk (s := ⟨⟨p⟩⟩) hp) ty
  refine ⟨w', hrun, MapAt.of r1 hk (h2.del p) (h.sort.without p), r2.grown, ?_⟩
  obtain ⟨_, _, es', clock', _, rfl⟩ := r2
  simp [setBlock]
/-- len(m) -/
theorem MapAt.count (h : MapAt w P K b L) (hk : P.underlying K = some .string) {t e : TypeId} (ht : P.underlying t = some (.map K e)) (ty : TypeId) : (Builtin.len_ #[t] ty #[.map (some b)]).run P w = .ok (.int .i64 L.length) w := by
  obtain ⟨D, h1, h2⟩ := h.own
  rw [h1.len ht ty, (own_keys h1 hk h2 h.sort).2]

/-- 'for k, v := range m' under way: what has come, in the order in which it came; nothing of the row comes twice -/
structure Rng (w : World) (P : Program) (K : TypeId) (b r : Nat) (L : List (List UInt8 × Value)) (seen : List (List UInt8)) (cnt : Nat) : Prop where
  sort : SortR L
  rng : ∃ D left, w.ranges P K heldR b r L.length D left cnt ∧ Tells D L ∧ Collected D left seen
  len : ∀ x ∈ L, x.1.length ≤ maxLen
theorem Rng.at_ {r cnt : Nat} {seen : List (List UInt8)} (h : Rng w P K b r L seen cnt) : MapAt w P K b L := by
  obtain ⟨D, left, h1, h2, _⟩ := h.rng
  exact ⟨h.sort, ⟨D, h1.owns, h2⟩, h.len⟩
theorem Rng.left_eq {r cnt : Nat} {seen : List (List UInt8)} (h : Rng w P K b r L seen cnt) : w.rangeLeft b r = cnt := by
  obtain ⟨D, left, h1, _⟩ := h.rng
  exact h1.left_eq
theorem Rng.lt {r cnt : Nat} {seen : List (List UInt8)} (h : Rng w P K b r L seen cnt) : r < w.heap.size := by
  obtain ⟨D, left, h1, _⟩ := h.rng
  exact h1.lt
theorem Rng.kept {r cnt : Nat} {seen : List (List UInt8)} {row : Option Nat} (h : Rng w P K b r L seen cnt) (hg : w.grownBy w' row) (hb : some b ≠ row) (hr : some r ≠ row) : Rng w' P K b r L seen cnt := by
  obtain ⟨D, left, h1, h2, h3⟩ := h.rng
  exact ⟨h.sort, ⟨D, left, h1.kept hg hb hr, h2, h3⟩, h.len⟩
theorem MapAt.range (h : MapAt w P K b L) (hk : P.underlying K = some .string) {t e : TypeId} (ht : P.underlying t = some (.map K e)) :
    ∃ w', (Instr.range t (.map (some b))).run P w = .ok (.pointer (some ⟨w.heap.size, 0, none⟩)) w' ∧ Rng w' P K b w.heap.size L [] L.length ∧ w.grownBy w' none ∧ w'.heap.size = w.heap.size + 1 := by
  obtain ⟨D, h1, h2⟩ := h.own
  obtain ⟨w', hrun, r1, r2, r3⟩ := h1.range (string_keyed hk) ht
  rw [(own_keys h1 hk h2 h.sort).2] at r1
  exact ⟨w', hrun, ⟨h.sort, ⟨D, _, r1, h2, Collected.start D⟩, h.len⟩, r2, r3⟩
/-- the step: nothing is left, and all has come; or something comes -/
theorem Rng.next {r cnt : Nat} {seen : List (List UInt8)} (h : Rng w P K b r L seen cnt) (hk : P.underlying K = some .string) (ty : TypeId) :
    ((Instr.next (.pointer (some ⟨r, 0, none⟩)) false ty).run P w = .ok (.tuple #[.bool false]) w ∧ cnt = 0 ∧ seen.Nodup ∧ ∀ k, k ∈ seen ↔ k ∈ keysR L) ∨
    ∃ (p : List UInt8) (v : Value) (w' : World) (cnt' : Nat), (p, v) ∈ L ∧ p ∉ seen ∧ (Instr.next (.pointer (some ⟨r, 0, none⟩)) false ty).run P w = .ok (.tuple #[.bool true, .string ⟨⟨p⟩⟩, v]) w' ∧ Rng w' P K b r L (seen ++ [p]) cnt' ∧ cnt' < cnt ∧ w.grownBy w' (some r) ∧ w'.heap.size = w.heap.size ∧
      (Instr.entry (.pointer (some ⟨r, 0, none⟩))).run P w' = .ok (.tuple #[.string ⟨⟨p⟩⟩, v]) w' := by
  obtain ⟨D, left, h1, h2, h3⟩ := h.rng
  rcases h1.next (string_keyed hk) ty with ⟨h0, hl, hrun⟩ | ⟨key, v, kl, y, w', cnt', hkey, hlk, hv, hat, hrun, hrg, hlt, hgr, hsz, hen⟩
  · refine .inl ⟨hrun, h0, h3.1, fun k => ?_⟩
    rw [h3.2 k, h2.has, getR_isSome, hl]
    simp
  · obtain ⟨p, rfl, rfl, hp⟩ := Maps.keyOf_str hk hkey
    obtain rfl : (DataW.held v, []) = y := by simpa [heldR] using hv
    have hg : getR L p = some v := by
      have := hat .nil
      rw [h2] at this
      rcases hq : getR L p with _ | u
      · rw [hq] at this; simp at this
      · rw [hq] at this; simpa using this
    refine .inr ⟨p, v, w', cnt', getR_mem hg, fun hx => ?_, hrun, ⟨h.sort, ⟨D, _, hrg, h2, h3.step hlk hat⟩, h.len⟩, hlt, hgr, hsz, hen⟩
    have := ((h3.2 p).1 hx).2
    rw [hlk] at this
    cases this
end
end Go.Proofs.YtdnljmncdbcgeaaGreat

/- A book, plainly: which entry is spare, what Put answers and leaves. No program. -/
namespace Go.Proofs.YtdnljmncdbcgeaaGreat

/-- an entry, plainly: version, kind, bytes -/
abbrev EP := Int × Int × List UInt8
/-- the entry of nothing of the least version, the first of them -/
def spareB : List (List UInt8 × EP) → Option (List UInt8 × EP)
  | [] => none
  | x :: l => match spareB l with
    | none => if x.2.2.1 = 0 then some x else none
    | some y => if x.2.2.1 = 0 ∧ x.2.1 ≤ y.2.1 then some x else some y
/-- one is ahead of the other -/
def aheadB (x y : List UInt8 × EP) : Prop := x.2.1 < y.2.1 ∨ (x.2.1 = y.2.1 ∧ cmpT x.1 y.1 < 0)
theorem spareB_none : ∀ {T : List (List UInt8 × EP)}, spareB T = none → ∀ y ∈ T, y.2.2.1 ≠ 0
  | [], _, y, hy => by cases hy
  | x :: l, h, y, hy => by
    unfold spareB at h
    rcases hs : spareB l with _ | z
    · rw [hs] at h
      dsimp only at h
      split at h
      · cases h
      · rename_i hx
        rcases List.mem_cons.1 hy with rfl | hy
        · exact hx
        · exact spareB_none hs y hy
    · rw [hs] at h
      dsimp only at h
      split at h <;> cases h
theorem spareB_mem : ∀ {T : List (List UInt8 × EP)} {x : List UInt8 × EP}, spareB T = some x → x ∈ T ∧ x.2.2.1 = 0
  | [], _, h => by cases h
  | y :: l, x, h => by
    unfold spareB at h
    rcases hs : spareB l with _ | z
    · rw [hs] at h
      dsimp only at h
      split at h
      · rename_i hx
        injection h with h
        subst h
        exact ⟨List.mem_cons_self, hx⟩
      · cases h
    · rw [hs] at h
      dsimp only at h
      split at h
      · rename_i hx
        injection h with h
        subst h
        exact ⟨List.mem_cons_self, hx.1⟩
      · injection h with h
        subst h
        obtain ⟨h1, h2⟩ := spareB_mem hs
        exact ⟨List.mem_cons_of_mem _ h1, h2⟩
theorem spareB_least : ∀ {T : List (List UInt8 × EP)} {x : List UInt8 × EP}, SortR T → spareB T = some x → ∀ y ∈ T, y.2.2.1 = 0 → y = x ∨ aheadB x y
  | [], _, _, h, _, _, _ => by cases h
  | z :: l, x, hT, h, y, hy, h0 => by
    unfold SortR at hT
    rw [List.pairwise_cons] at hT
    unfold spareB at h
    rcases hs : spareB l with _ | q
    · rw [hs] at h
      dsimp only at h
      split at h
      · injection h with h
        subst h
        rcases List.mem_cons.1 hy with rfl | hy
        · exact .inl rfl
        · exact absurd h0 (spareB_none hs y hy)
      · cases h
    · rw [hs] at h
      dsimp only at h
      obtain ⟨hq, _⟩ := spareB_mem hs
      have ih := fun y hy h0 => spareB_least (x := q) hT.2 hs y hy h0
      split at h
      · rename_i hz
        injection h with h
        subst h
        rcases List.mem_cons.1 hy with rfl | hy
        · exact .inl rfl
        · refine .inr ?_
          have hzy := hT.1 y hy
          rcases ih y hy h0 with rfl | hh | ⟨e, _⟩
          · unfold aheadB
            by_cases e : z.2.1 = y.2.1
            · exact .inr ⟨e, hzy⟩
            · exact .inl (by omega)
          · exact .inl (by omega)
          · unfold aheadB
            by_cases e2 : z.2.1 = y.2.1
            · exact .inr ⟨e2, hzy⟩
            · exact .inl (by omega)
      · rename_i hz
        injection h with h
        subst h
        rcases List.mem_cons.1 hy with rfl | hy
        · refine .inr (.inl ?_)
          have : ¬ (y.2.1 ≤ q.2.1) := fun e => hz ⟨h0, e⟩
          omega
        · exact ih y hy h0
theorem spareB_snoc (x : List UInt8 × EP) : ∀ T : List (List UInt8 × EP), spareB (T ++ [x]) = match spareB T with
    | none => if x.2.2.1 = 0 then some x else none
    | some y => if x.2.2.1 = 0 ∧ x.2.1 < y.2.1 then some x else some y
  | [] => rfl
  | z :: T => by
    have ih := spareB_snoc x T
    rw [List.cons_append, spareB, spareB, ih]
    rcases spareB T with _ | q
    · dsimp only
      by_cases h1 : x.2.2.1 = 0
      · by_cases h2 : z.2.2.1 = 0
        · by_cases h3 : z.2.1 ≤ x.2.1
          · simp [h1, h2, h3, Int.not_lt.2 h3]
          · simp [h1, h2, h3, Int.not_le.1 h3]
        · simp [h1, h2]
      · by_cases h2 : z.2.2.1 = 0 <;> simp [h1, h2]
    · dsimp only
      by_cases h1 : x.2.2.1 = 0 ∧ x.2.1 < q.2.1
      · by_cases h2 : z.2.2.1 = 0
        · by_cases h3 : z.2.1 ≤ x.2.1
          · have h4 : z.2.1 ≤ q.2.1 := by omega
            simp [h1, h2, h3, h4, Int.not_lt.2 h3]
          · by_cases h4 : z.2.1 ≤ q.2.1
            · simp [h1, h2, h3, h4, Int.not_le.1 h3]
            · simp [h1, h2, h3, h4]
        · simp [h1, h2]
      · rw [if_neg h1]
        by_cases h2 : z.2.2.1 = 0 ∧ z.2.1 ≤ q.2.1
        · simp only [if_pos h2]
          have : ¬ (x.2.2.1 = 0 ∧ x.2.1 < z.2.1) := fun ⟨e1, e2⟩ => h1 ⟨e1, by omega⟩
          rw [if_neg this]
        · simp only [if_neg h2, if_neg h1]
theorem aheadB_asymm {x y : List UInt8 × EP} (h : aheadB x y) (k : aheadB y x) : False := by
  unfold aheadB at h k
  have := ordT.flip x.1 y.1
  omega
theorem aheadB_trans {x y z : List UInt8 × EP} (h : aheadB x y) (k : aheadB y z) : aheadB x z := by
  unfold aheadB at *
  rcases h with h | ⟨h1, h2⟩
  · rcases k with k | ⟨k1, _⟩
    · exact .inl (by omega)
    · exact .inl (by omega)
  · rcases k with k | ⟨k1, k2⟩
    · exact .inl (by omega)
    · exact .inr ⟨by omega, ordT.trans _ _ _ h2 k2⟩
theorem aheadB_total (x y : List UInt8 × EP) (h : x.1 ≠ y.1) : aheadB x y ∨ aheadB y x := by
  unfold aheadB
  have h1 := ordT.flip x.1 y.1
  have h2 := cmpT_eq x.1 y.1
  by_cases e : x.2.1 = y.2.1
  · by_cases e2 : cmpT x.1 y.1 < 0
    · exact .inl (.inr ⟨e, e2⟩)
    · have e3 : cmpT x.1 y.1 ≠ 0 := fun e => h (h2.1 e)
      exact .inr (.inr ⟨e.symm, by omega⟩)
  · by_cases e2 : x.2.1 < y.2.1
    · exact .inl (.inl e2)
    · exact .inr (.inl (by omega))
/-- the least one is the spare one -/
theorem spareB_of {T : List (List UInt8 × EP)} {x : List UInt8 × EP} (hT : SortR T) (hx : x ∈ T) (h0 : x.2.2.1 = 0) (hl : ∀ y ∈ T, y.2.2.1 = 0 → y = x ∨ aheadB x y) : spareB T = some x := by
  rcases hs : spareB T with _ | z
  · exact absurd h0 (spareB_none hs x hx)
  · obtain ⟨hz, hz0⟩ := spareB_mem hs
    rcases hl z hz hz0 with rfl | h1
    · rfl
    · rcases spareB_least hT hs x hx h0 with rfl | h2
      · rfl
      · exact (aheadB_asymm h1 h2).elim
/-- what Put answers, and what it leaves; chk: what Check says of the entry -/
def putB (T : List (List UInt8 × EP)) (p : List UInt8) (x : EP) (chk : Int) : List (List UInt8 × EP) × Int :=
  if chk ≠ 0 then (T, chk)
  else if x.1 ≤ ((getR T p).map (·.1)).getD 0 then (T, 31)
  else if (getR T p).isNone = true ∧ 256 ≤ T.length then
    (spareB T).elim (T, 24) fun y => (putR (withoutR T y.1) p x, 0)
  else (putR T p x, 0)
end Go.Proofs.YtdnljmncdbcgeaaGreat

/- entry.Row, Clone. -/
namespace Go.Proofs.YtdnljmncdbcgeaaGreat
open Go.RowKit

/-- an entry's row as a value -/
abbrev rowV (p : ByteArray) (k v : Int) (n : Nat) : Value := .agg #[.string p, .int .i64 k, .int .u64 v, .int .u64 0, .int .i64 n]

set_option maxRecDepth 100000 in
set_option maxHeartbeats 1000000 in
theorem entryClone_any (p : ByteArray) (v k : Int) (A : Option Addr) (c : Nat) (l : List UInt8) (Z : Nat → Prop) (w : World) (h : By w Z A l) (hlen : l.length ≤ 140737488355328) :
    Calls Tryz.prog 61 #[.agg #[.string p, .int .u64 v, .int .i64 k, .slice A l.length c]] w fun e w' => ∃ (A' : Option Addr) (c' : Nat) (l' : List UInt8), e = .returned (.agg #[.string p, .int .u64 v, .int .i64 k, .slice A' l'.length c']) ∧ Hid (l' = l) ∧ OwB w' w.heap.size (.slice A' l'.length c') l' ∧ Below w.heap.size w w' := by
  have b0 := (Blk.new w 59 #[.string p, .int .u64 v, .int .i64 k, .slice A l.length c]).alloc (.cells #[.string ⟨#[]⟩, .int .u64 0, .int .i64 0, .slice none 0 0] 59)
  have b1 := Blk.new (w.alloc (.cells #[.string p, .int .u64 v, .int .i64 k, .slice A l.length c] 59)) 59 #[.string ⟨#[]⟩, .int .u64 0, .int .i64 0, .slice none 0 0]
  rw [World.size_alloc] at b1
  have hw : Below w.heap.size w ((w.alloc (.cells #[.string p, .int .u64 v, .int .i64 k, .slice A l.length c] 59)).alloc (.cells #[.string ⟨#[]⟩, .int .u64 0, .int .i64 0, .slice none 0 0] 59)) := (by repeat (first | exact Below.refl _ _ | refine Below.alloc ?_ (by simp) _ | refine Below.setCell ?_ (by simp) _ | refine Below.drew ?_))
  have hy := (h.alloc (.cells #[.string p, .int .u64 v, .int .i64 k, .slice A l.length c] 59)).alloc (.cells #[.string ⟨#[]⟩, .int .u64 0, .int .i64 0, .slice none 0 0] 59)
  have hz : ((w.alloc (.cells #[.string p, .int .u64 v, .int .i64 k, .slice A l.length c] 59)).alloc (.cells #[.string ⟨#[]⟩, .int .u64 0, .int .i64 0, .slice none 0 0] 59)).heap.size = w.heap.size + 2 := by simp
  go_enter Tryz.func61, Tryz.ntmps61
  go_wp2_with fail
  generalize (w.alloc (.cells #[.string p, .int .u64 v, .int .i64 k, .slice A l.length c] 59)).alloc (.cells #[.string ⟨#[]⟩, .int .u64 0, .int .i64 0, .slice none 0 0] 59) = W at *
  have hs := hw.size
  refine (leafClone_any k A c l Z W hy hlen).mono ?_
  rintro e w1 ⟨A', c', l', rfl, hl', ho, hb⟩
  have hb0 := b0.below hb
  have hb1 := b1.below hb
  have hlow : Below w.heap.size w w1 := hw.trans (hb.mono hs)
  have hsw1 := hb.size
  have g0 : w1.cell? ⟨w.heap.size, 0, none⟩ = some (.string p) := hb0.cell 0
  have g1 : w1.cell? ⟨w.heap.size, 1, none⟩ = some (.int .u64 v) := hb0.cell 1
  have g2 : w1.cell? ⟨w.heap.size, 2, none⟩ = some (.int .i64 k) := hb0.cell 2
  have g3 : w1.cell? ⟨w.heap.size, 3, none⟩ = some (.slice A l.length c) := hb0.cell 3
  have f2 := hb0.frozen 2
  have f3 := hb0.frozen 3
  have hb2 := (hb0.set_ 2 (.int .i64 k)).set_ 3 (.slice A' l'.length c')
  have hf2 : Fr (fun x => x = w.heap.size) w1 ((w1.setCell ⟨w.heap.size, 2, none⟩ (.int .i64 k)).setCell ⟨w.heap.size, 3, none⟩ (.slice A' l'.length c')) := ((Fr.refl (fun x => x = w.heap.size) w1).setAt _ 2 rfl _).setAt _ 3 rfl _
  have k0 : w1.cell? ⟨w.heap.size + 1, 0, none⟩ = some (.string ⟨#[]⟩) := hb1.cell 0
  have k1 : w1.cell? ⟨w.heap.size + 1, 1, none⟩ = some (.int .u64 0) := hb1.cell 1
  have k2 : w1.cell? ⟨w.heap.size + 1, 2, none⟩ = some (.int .i64 0) := hb1.cell 2
  have k3 : w1.cell? ⟨w.heap.size + 1, 3, none⟩ = some (.slice none 0 0) := hb1.cell 3
  have m0 := hb1.frozen 0
  have m1 := hb1.frozen 1
  have m2 := hb1.frozen 2
  have m3 := hb1.frozen 3
  go_wp2_with fail
  have hb12 := (((((hb1.far (p := ⟨w.heap.size, 2, none⟩) (by simp) (.int .i64 k)).far (p := ⟨w.heap.size, 3, none⟩) (by simp) (.slice A' l'.length c')).set_ 0 (.string p)).set_ 1 (.int .u64 v)).set_ 2 (.int .i64 k)).set_ 3 (.slice A' l'.length c')
  have hf3 : Fr (fun x => x = w.heap.size ∨ x = w.heap.size + 1) w1 ((((((w1.setCell ⟨w.heap.size, 2, none⟩ (.int .i64 k)).setCell ⟨w.heap.size, 3, none⟩ (.slice A' l'.length c')).setCell ⟨w.heap.size + 1, 0, none⟩ (.string p)).setCell ⟨w.heap.size + 1, 1, none⟩ (.int .u64 v)).setCell ⟨w.heap.size + 1, 2, none⟩ (.int .i64 k)).setCell ⟨w.heap.size + 1, 3, none⟩ (.slice A' l'.length c')) :=
    ((((((Fr.refl (fun x => x = w.heap.size ∨ x = w.heap.size + 1) w1).setAt _ 2 (.inl rfl) _).setAt _ 3 (.inl rfl) _).setAt _ 0 (.inr rfl) _).setAt _ 1 (.inr rfl) _).setAt _ 2 (.inr rfl) _).setAt _ 3 (.inr rfl) _
  have ho2 := ho.fr hf3 (fun g hg e => by have := (ho.lt g hg).1; omega)
  have hlow2 := hlow.trans (hf3.below (B := w.heap.size) (by omega) (by intro k hk e; omega))
  have d0 := hb12.cell 0
  have d1 := hb12.cell 1
  have d2 := hb12.cell 2
  have d3 := hb12.cell 3
  simp at d0 d1 d2 d3
  clear hb12 hf3 hf2 hb2
  generalize (((((w1.setCell ⟨w.heap.size, 2, none⟩ (.int .i64 k)).setCell ⟨w.heap.size, 3, none⟩ (.slice A' l'.length c')).setCell ⟨w.heap.size + 1, 0, none⟩ (.string p)).setCell ⟨w.heap.size + 1, 1, none⟩ (.int .u64 v)).setCell ⟨w.heap.size + 1, 2, none⟩ (.int .i64 k)).setCell ⟨w.heap.size + 1, 3, none⟩ (.slice A' l'.length c') = V at *
  refine bodyPost_ret (v := .agg #[.string p, .int .u64 v, .int .i64 k, .slice A' l'.length c']) (by simp [results, Tryz.results61, go_sem, d0, d1, d2, d3]) rfl ?_
  exact ⟨A', c', l', rfl, hl', own_base ho2 (fun g hg => Nat.le_trans hs (ho.lt _ hg).1), hlow2⟩
end Go.Proofs.YtdnljmncdbcgeaaGreat

/- book.Book in memory; what only tells: Session, Len, get. -/
namespace Go.Proofs.YtdnljmncdbcgeaaGreat
open Go.RowKit

def EV.val (o : EV) : Value := .agg #[.string o.p, .int .u64 o.v, .int .i64 o.k, .slice o.x.A o.x.l.length o.x.c]
def mapB (L : List (List UInt8 × EV)) : List (List UInt8 × Value) := L.map fun x => (x.1, x.2.val)
theorem get_mapB (L : List (List UInt8 × EV)) (p : List UInt8) : getR (mapB L) p = (getR L p).map EV.val := getR_map EV.val L p
theorem mapB_len (L : List (List UInt8 × EV)) : (mapB L).length = L.length := by simp [mapB]
/-- what an entry is, plainly -/
def EV.ep (o : EV) : EP := (o.v, o.k, o.x.l)
/-- the entries of a row, plainly -/
def plainB (L : List (List UInt8 × EV)) : List (List UInt8 × EP) := L.map fun x => (x.1, x.2.ep)
theorem get_plainB (L : List (List UInt8 × EV)) (p : List UInt8) : getR (plainB L) p = (getR L p).map EV.ep := getR_map EV.ep L p
theorem keys_plainB (L : List (List UInt8 × EV)) : keysR (plainB L) = keysR L := keys_map EV.ep L
theorem plainB_len (L : List (List UInt8 × EV)) : (plainB L).length = L.length := by simp [plainB]
theorem plainB_put (L : List (List UInt8 × EV)) (p : List UInt8) (o : EV) : plainB (putR L p o) = putR (plainB L) p o.ep := (put_map EV.ep L p o).symm
theorem plainB_without (L : List (List UInt8 × EV)) (p : List UInt8) : plainB (withoutR L p) = withoutR (plainB L) p := (without_map EV.ep L p).symm
theorem mapB_put (L : List (List UInt8 × EV)) (p : List UInt8) (o : EV) : mapB (putR L p o) = putR (mapB L) p o.val := (put_map EV.val L p o).symm
theorem mapB_without (L : List (List UInt8 × EV)) (p : List UInt8) : mapB (withoutR L p) = withoutR (mapB L) p := (without_map EV.val L p).symm
/-- is an entry right? -/
def checkP (p : List UInt8) (x : EP) : Int := checkE p x.1 x.2.1 x.2.2.length
/-- what every book keeps -/
structure BookOk (T : List (List UInt8 × EP)) : Prop where
  sort : SortR T
  good : ∀ x ∈ T, checkP x.1 x.2 = 0
  len : T.length ≤ 256
theorem BookOk.nil : BookOk [] := ⟨sortR_nil, by simp, by simp⟩
theorem checkP_good {p : List UInt8} {x : EP} (h : checkP p x = 0) : userB p = true ∧ isV x.1 = true ∧ checkN x.2.1 x.2.2.length = 0 := by
  unfold checkP checkE at h
  split at h
  · simp at h
  · rename_i h1
    split at h
    · simp at h
    · rename_i h2
      exact ⟨by simpa using h1, by simpa using h2, h⟩
theorem userB_good {p : List UInt8} (h : userB p = true) : goodB p = true := by
  unfold userB at h
  simp only [Bool.and_eq_true] at h
  exact h.1
theorem isV_pos {v : Int} (h : isV v = true) : 1048577 ≤ v ∧ v < 18446744073709551616 := by
  have := goodV_iff.1 h
  omega
theorem checkN_len {k : Int} {n : Nat} (h : checkN k n = 0) : n ≤ 4096 := by
  unfold checkN at h
  split at h
  · split at h
    · assumption
    · simp at h
  · split at h
    · split at h
      · omega
      · simp at h
    · simp at h
/-- what Put answers, and what it leaves -/
def putP (T : List (List UInt8 × EP)) (p : List UInt8) (x : EP) : List (List UInt8 × EP) × Int := putB T p x (checkP p x)
theorem BookOk.put {T : List (List UInt8 × EP)} (h : BookOk T) (p : List UInt8) (x : EP) : BookOk (putP T p x).1 := by
  unfold putP putB
  split
  · exact h
  · rename_i hc
    rw [Classical.not_not] at hc
    split
    · exact h
    · split
      · rename_i hf
        rcases hs : spareB T with _ | y
        · exact h
        · dsimp only [Option.elim]
          obtain ⟨hy, _⟩ := spareB_mem hs
          have hw := h.sort.without_len (h.sort.get hy)
          refine ⟨(h.sort.without _).put _ _, fun z hz => ?_, ?_⟩
          · unfold putR at hz
            rcases mem_ins.1 hz with rfl | hz
            · exact hc
            · exact h.good z (List.mem_filter.1 (List.mem_filter.1 hz).1).1
          · unfold putR
            rw [ins_len]
            have h1 := without_len_le (withoutR T y.1) p
            have h2 := h.len
            omega
      · rename_i hf
        refine ⟨h.sort.put _ _, fun z hz => ?_, ?_⟩
        · unfold putR at hz
          rcases mem_ins.1 hz with rfl | hz
          · exact hc
          · exact h.good z (List.mem_filter.1 hz).1
        · unfold putR
          dsimp only
          rw [ins_len]
          have h2 := h.len
          rcases hq : getR T p with _ | v
          · rw [hq] at hf
            simp at hf
            rw [without_self hq]
            omega
          · have := h.sort.without_len hq
            omega
/-- an entry in a book -/
structure EV.inB (w : World) (p : List UInt8) (o : EV) : Prop where
  own : OwB w 0 (.slice o.x.A o.x.l.length o.x.c) o.x.l
  p : tl o.p = p
theorem EV.inB.x {w : World} {p : List UInt8} {o : EV} (h : o.inB w p) : o.x.ok w (fun _ => True) := by
  obtain ⟨A', c', e, h2, h3, _⟩ := h.own.form
  injection e with e1 e2 e3
  subst e1 e3
  exact ⟨h.own.rd.mono (fun _ _ _ => trivial), h2, h3⟩
/-- the book at block bb; its map at mo, if it has one -/
structure BookAt (w : World) (bb : Nat) (mo : Option Nat) (L : List (List UInt8 × EV)) (s : Int) : Prop where
  blk : Blk w bb 119 #[.int .u64 s, .map mo]
  map : (mo = none ∧ L = []) ∨ ∃ mb, mo = some mb ∧ MapAt w Tryz.prog 9 mb (mapB L)
  ok : ∀ x ∈ L, x.2.inB w x.1
  plain : BookOk (plainB L)
theorem EV.inB.below {w w' : World} {p : List UInt8} {o : EV} (h : o.inB w p) (k : Below w.heap.size w w') : o.inB w' p := ⟨h.own.below k, h.p⟩
namespace BookAt
variable {w w' : World} {bb : Nat} {mo : Option Nat} {L : List (List UInt8 × EV)} {s : Int}
theorem fr {S : Nat → Prop} (h : BookAt w bb mo L s) (k : Fr S w w') (h1 : ¬ S bb) (h2 : ∀ m, mo = some m → ¬ S m) (h3 : ∀ x ∈ L, ∀ g, (Value.slice x.2.x.A x.2.x.l.length x.2.x.c).ownBlock = some g → ¬ S g) : BookAt w' bb mo L s :=
  ⟨h.blk.fr k h1, h.map.imp id fun ⟨mb, e, hm⟩ => ⟨mb, e, hm.block (k.block mb hm.lt (h2 mb e))⟩, fun x hx => ⟨own_fr (h.ok x hx).own k (h3 x hx), (h.ok x hx).p⟩, h.plain⟩
theorem below (h : BookAt w bb mo L s) (k : Below w.heap.size w w') : BookAt w' bb mo L s := h.fr (Fr.of_below k (fun _ => False)) (fun h => h) (fun _ _ h => h) (fun _ _ _ _ h => h)
theorem own_map {mb base n size : Nat} {e : TypeId} {v : Value} {xs : List Value} {K : List (List UInt8 × Value)} (hm : MapAt w Tryz.prog 9 mb K) (h : w.ownsRow base e size v n xs) : v.ownBlock ≠ some mb := by
  rcases h.2 with ⟨rfl, _⟩ | ⟨g', cap, cur, rfl, _, hh, _⟩
  · simp [Value.ownBlock]
  · intro he
    have e1 : g' = mb := by simpa [Value.ownBlock] using he
    subst e1
    exact hm.not_cells hh
/-- rows of the call's own do not lie in a book's own blocks -/
theorem ownT (t : BookAt w bb mo L s) {base n size : Nat} {e : TypeId} {v : Value} {xs : List Value} (h : w.ownsRow base e size v n xs) (he : e ≠ 119) : ∀ g, v.ownBlock = some g → ¬ (g = bb ∨ mo = some g) := by
  rintro g hg (rfl | hm)
  · exact t.blk.own_ne h he hg
  · rcases t.map with ⟨e0, _⟩ | ⟨mb, e0, hm2⟩
    · rw [e0] at hm; cases hm
    · rw [e0] at hm
      injection hm with hm
      subst hm
      exact own_map hm2 h hg
/-- rows of the call's own of another type stand apart from a book: whatever is written there, the book stays -/
theorem fr_row (t : BookAt w bb mo L s) {base n size : Nat} {e : TypeId} {v : Value} {xs : List Value} (h : w.ownsRow base e size v n xs) (he : e ≠ 119) (he2 : e ≠ 5) (k : Fr (fun g => v.ownBlock = some g) w w') : BookAt w' bb mo L s := by
  have h1 := t.ownT h he
  refine t.fr k (fun e => h1 _ e (.inl rfl)) (fun m e e2 => h1 _ e2 (.inr e)) (fun x hx g hg e2 => ?_)
  rcases h.2 with ⟨rfl, _⟩ | ⟨g', cap, cur, rfl, _, hh, _⟩
  · simp [Value.ownBlock] at e2
  · have e3 : g' = g := by simpa [Value.ownBlock] using e2
    subst e3
    have hb : Blk w g' e _ := hh
    exact hb.own_ne (t.ok x hx).own (fun e => he2 e.symm) hg
/-- a block of another type is none of a book's -/
theorem notB (t : BookAt w bb mo L s) {g : Nat} {e : TypeId} {cs : Array Value} (h : Blk w g e cs) (he : e ≠ 119) : ¬ (g = bb ∨ mo = some g) := by
  rintro (rfl | hm)
  · have := t.blk
    unfold Blk at this h
    rw [h] at this
    injection this with this
    injection this with _ e1
    exact he e1
  · rcases t.map with ⟨e0, _⟩ | ⟨mb, e0, hm2⟩
    · rw [e0] at hm; cases hm
    · rw [e0] at hm
      injection hm with hm
      subst hm
      exact hm2.not_cells h
/-- a block of another type written: the book stays -/
theorem fr_blk (t : BookAt w bb mo L s) {g : Nat} {e : TypeId} {cs : Array Value} (h : Blk w g e cs) (he : e ≠ 119) (he2 : e ≠ 5) (k : Fr (fun x => x = g) w w') : BookAt w' bb mo L s := by
  have h1 := t.notB h he
  refine t.fr k (fun e => h1 (.inl e.symm)) (fun m e e2 => h1 (.inr (by rw [e, e2]))) (fun x hx g' hg e2 => ?_)
  subst e2
  exact h.own_ne (t.ok x hx).own (fun e => he2 e.symm) hg
theorem ne (h : BookAt w bb mo L s) : mo ≠ some bb := by
  rcases h.map with ⟨e, _⟩ | ⟨mb, e, hm⟩
  · rw [e]; simp
  · rw [e]
    intro e2
    injection e2 with e2
    subst e2
    exact hm.not_cells h.blk
theorem lt (h : BookAt w bb mo L s) : ∀ m, mo = some m → m < w.heap.size := by
  rcases h.map with ⟨e, _⟩ | ⟨mb, e, hm⟩
  · rw [e]; simp
  · rw [e]
    intro m e2
    injection e2 with e2
    subst e2
    exact hm.lt
theorem len (h : BookAt w bb mo L s) : L.length ≤ 256 := by have := h.plain.len; rwa [plainB_len] at this
theorem sort (h : BookAt w bb mo L s) : SortR L := (sort_map EV.ep).1 h.plain.sort
theorem small (h : BookAt w bb mo L s) {x : List UInt8 × EV} (hx : x ∈ L) : userB x.1 = true ∧ isV x.2.v = true ∧ checkN x.2.k x.2.x.l.length = 0 := checkP_good (h.plain.good (x.1, x.2.ep) (List.mem_map.2 ⟨x, hx, rfl⟩))
theorem keys (h : BookAt w bb mo L s) {x : List UInt8 × EV} (hx : x ∈ L) : x.1.length ≤ 96 := goodB_len (userB_good (h.small hx).1)
theorem data (h : BookAt w bb mo L s) {x : List UInt8 × EV} (hx : x ∈ L) : x.2.x.l.length ≤ 4096 := checkN_len (h.small hx).2.2
theorem pl (h : BookAt w bb mo L s) : (L.map fun x => (tl x.2.p, x.2.ep)) = plainB L := List.map_congr_left fun x hx => by rw [(h.ok x hx).p]
end BookAt
theorem BookAt.cells {w : World} {bb : Nat} {mo : Option Nat} {L : List (List UInt8 × EV)} {s : Int} (h : BookAt w bb mo L s) : w.cell? ⟨bb, 0, none⟩ = some (.int .u64 s) ∧ w.cell? ⟨bb, 1, none⟩ = some (.map mo) := ⟨h.blk.cell 0, h.blk.cell 1⟩
set_option maxRecDepth 100000 in
set_option maxHeartbeats 400000 in
theorem bookSession_any (bb : Nat) (mo : Option Nat) (L : List (List UInt8 × EV)) (s : Int) (w : World) (h : BookAt w bb mo L s) :
    Calls Tryz.prog 29 #[.pointer (some ⟨bb, 0, none⟩)] w fun e w' => e = .returned (.int .u64 s) ∧ w = w' := by
  obtain ⟨c0, _⟩ := h.cells
  clear h
  go_enter Tryz.func29, Tryz.ntmps29
  go_wp2_with fail
  go_ret
  exact ⟨rfl, rfl⟩
set_option maxRecDepth 100000 in
set_option maxHeartbeats 400000 in
theorem bookSession_nil (w : World) : Calls Tryz.prog 29 #[.pointer none] w fun e w' => e = .returned (.int .u64 0) ∧ w = w' := by
  go_enter Tryz.func29, Tryz.ntmps29
  go_wp2_with fail
  go_ret
  exact ⟨rfl, rfl⟩
set_option maxRecDepth 100000 in
set_option maxHeartbeats 400000 in
theorem bookLen_any (bb : Nat) (mo : Option Nat) (L : List (List UInt8 × EV)) (s : Int) (w : World) (h : BookAt w bb mo L s) :
    Calls Tryz.prog 54 #[.pointer (some ⟨bb, 0, none⟩)] w fun e w' => e = .returned (.int .i64 L.length) ∧ w = w' := by
  obtain ⟨_, c1⟩ := h.cells
  rcases h.map with ⟨rfl, rfl⟩ | ⟨mb, rfl, hm⟩
  · clear h
    go_enter Tryz.func54, Tryz.ntmps54
    go_wp2_with fail
    go_ret
    exact ⟨rfl, rfl⟩
  · have hc := fun ty => hm.count (w := w) Tryz.underlying9 (t := 117) (e := 59) Tryz.underlying117 ty
    rw [mapB_len] at hc
    clear h hm
    go_enter Tryz.func54, Tryz.ntmps54
    go_wp2_with fail
    go_ret
    exact ⟨rfl, rfl⟩
set_option maxRecDepth 100000 in
set_option maxHeartbeats 400000 in
theorem bookLen_nil (w : World) : Calls Tryz.prog 54 #[.pointer none] w fun e w' => e = .returned (.int .i64 0) ∧ w = w' := by
  go_enter Tryz.func54, Tryz.ntmps54
  go_wp2_with fail
  go_ret
  exact ⟨rfl, rfl⟩
end Go.Proofs.YtdnljmncdbcgeaaGreat

/- book.Book: get, Get, Next. -/
namespace Go.Proofs.YtdnljmncdbcgeaaGreat
open Go.RowKit

def noE : EV := ⟨⟨#[]⟩, 0, 0, ⟨none, 0, []⟩⟩
theorem noE_ok (w : World) : noE.x.ok w (fun _ => True) := ⟨Rd.nil, by simp [noE], by simp [noE, maxLen]⟩
theorem entryV_zero (w : World) : (zeroValue 59).run Tryz.prog w = .ok noE.val w := by kernel_rfl
set_option maxRecDepth 100000 in
theorem BookAt.look {w : World} {bb : Nat} {mo : Option Nat} {L : List (List UInt8 × EV)} {s : Int} (h : BookAt w bb mo L s) (p : List UInt8) (hp : p.length ≤ maxLen) :
    (Instr.lookup 117 (.map mo) (.string ⟨⟨p⟩⟩) true).run Tryz.prog w = .ok (.tuple #[((getR L p).getD noE).val, .bool (getR L p).isSome]) w := by
  rcases h.map with ⟨rfl, rfl⟩ | ⟨mb, rfl, hm⟩
  · exact Go.Maps.look_nil (t := 117) (e := 59) true (Go.Maps.string_keyed Tryz.underlying9) Tryz.underlying117 (entryV_zero w) (Go.WideMaps.keyOf_string_mk Tryz.underlying9 (s := ⟨⟨p⟩⟩) hp)
  · rw [hm.look_ok Tryz.underlying9 (t := 117) (e := 59) Tryz.underlying117 (entryV_zero w) p hp, get_mapB]
    rcases getR L p with _ | o <;> rfl
set_option maxRecDepth 100000 in
set_option maxHeartbeats 1000000 in
theorem bookget_any (bb : Nat) (mo : Option Nat) (L : List (List UInt8 × EV)) (s : Int) (p : List UInt8) (w : World) (h : BookAt w bb mo L s) (hp : p.length ≤ maxLen) :
    Calls Tryz.prog 58 #[.pointer (some ⟨bb, 0, none⟩), .string ⟨⟨p⟩⟩] w fun e w' => (∃ o : EV, e = .returned (.tuple #[.agg #[.string o.p, .int .u64 o.v, .int .i64 o.k, .slice o.x.A o.x.l.length o.x.c], .bool (getR L p).isSome]) ∧ Hid (o = (getR L p).getD noE)) ∧ Below w.heap.size w w' := by
  have hb0 : Below w.heap.size w (w.alloc (.cells #[.string ⟨#[]⟩, .int .u64 0, .int .i64 0, .slice none 0 0] 59)) := (by repeat (first | exact Below.refl _ _ | refine Below.alloc ?_ (by simp) _ | refine Below.setCell ?_ (by simp) _ | refine Below.drew ?_))
  have h0 := h.below hb0
  obtain ⟨_, c1⟩ := h0.cells
  obtain ⟨o, ho⟩ : ∃ o, o = (getR L p).getD noE := ⟨_, rfl⟩
  have HO := Lib.hid ho
  have hl := h0.look p hp
  rw [← ho] at hl
  obtain ⟨sm, hsm⟩ : ∃ sm, sm = (getR L p).isSome := ⟨_, rfl⟩
  rw [← hsm] at hl ⊢
  unfold EV.val at hl
  clear h h0 ho hsm
  have x3 := Blk.new w 59 #[.string o.p, .int .u64 o.v, .int .i64 o.k, .slice o.x.A o.x.l.length o.x.c]
  have z0 := x3.cell 0
  have z1 := x3.cell 1
  have z2 := x3.cell 2
  have z3 := x3.cell 3
  simp only [List.getElem?_toArray, List.getElem?_cons_zero, List.getElem?_cons_succ] at z0 z1 z2 z3
  go_enter Tryz.func58, Tryz.ntmps58
  go_wp2_with fail
  refine bodyPost_ret (v := .tuple #[.agg #[.string o.p, .int .u64 o.v, .int .i64 o.k, .slice o.x.A o.x.l.length o.x.c], .bool sm]) (by simp [results, Tryz.results58, go_sem, z0, z1, z2, z3]) rfl ?_
  exact ⟨⟨o, rfl, HO.out⟩, (by repeat (first | exact Below.refl _ _ | refine Below.alloc ?_ (by simp) _ | refine Below.setCell ?_ (by simp) _ | refine Below.drew ?_))⟩
set_option maxRecDepth 100000 in
set_option maxHeartbeats 1000000 in
theorem bookget_nil (p : List UInt8) (w : World) :
    Calls Tryz.prog 58 #[.pointer none, .string ⟨⟨p⟩⟩] w fun e w' => e = .returned (.tuple #[.agg #[.string ⟨#[]⟩, .int .u64 0, .int .i64 0, .slice none 0 0], .bool false]) ∧ Below w.heap.size w w' := by
  have x3 := Blk.new w 59 #[.string ⟨#[]⟩, .int .u64 0, .int .i64 0, .slice none 0 0]
  have z0 := x3.cell 0
  have z1 := x3.cell 1
  have z2 := x3.cell 2
  have z3 := x3.cell 3
  simp only [List.getElem?_toArray, List.getElem?_cons_zero, List.getElem?_cons_succ] at z0 z1 z2 z3
  go_enter Tryz.func58, Tryz.ntmps58
  go_wp2_with fail
  refine bodyPost_ret (v := .tuple #[.agg #[.string ⟨#[]⟩, .int .u64 0, .int .i64 0, .slice none 0 0], .bool false]) (by simp [results, Tryz.results58, go_sem, z0, z1, z2, z3]) rfl ?_
  exact ⟨rfl, (by repeat (first | exact Below.refl _ _ | refine Below.alloc ?_ (by simp) _ | refine Below.setCell ?_ (by simp) _ | refine Below.drew ?_))⟩
/-- the book written: its session -/
theorem BookAt.set {w : World} {bb : Nat} {mo : Option Nat} {L : List (List UInt8 × EV)} {s : Int} (h : BookAt w bb mo L s) (s' : Int) : BookAt (w.setCell ⟨bb, 0, none⟩ (.int .u64 s')) bb mo L s' := by
  have k : Fr (fun x => x = bb) w (w.setCell ⟨bb, 0, none⟩ (.int .u64 s')) := (Fr.refl (fun x => x = bb) w).setAt bb 0 rfl _
  refine ⟨by simpa using h.blk.set_ 0 (.int .u64 s'), ?_, fun x hx => ⟨own_fr (h.ok x hx).own k (fun g hg e => h.ownT (h.ok x hx).own (by decide) g hg (.inl e)), (h.ok x hx).p⟩, h.plain⟩
  rcases h.map with h1 | ⟨mb, e, hm⟩
  · exact .inl h1
  · exact .inr ⟨mb, e, hm.block (k.block mb hm.lt (fun e2 => h.ne (by rw [e, e2])))⟩
end Go.Proofs.YtdnljmncdbcgeaaGreat

/- book.Book: Get, Next. -/
namespace Go.Proofs.YtdnljmncdbcgeaaGreat
open Go.RowKit

/-- what Get tells -/
def gotE (L : List (List UInt8 × EV)) (p : List UInt8) : EV := (getR L p).getD ⟨⟨⟨p⟩⟩, 0, 0, ⟨none, 0, []⟩⟩

set_option maxRecDepth 100000 in
set_option maxHeartbeats 1000000 in
theorem bookGet_any (bb : Nat) (mo : Option Nat) (L : List (List UInt8 × EV)) (s : Int) (p : List UInt8) (w : World) (h : BookAt w bb mo L s) (hp : p.length ≤ maxLen) :
    Calls Tryz.prog 55 #[.pointer (some ⟨bb, 0, none⟩), .string ⟨⟨p⟩⟩] w fun e w' => ∃ (q : ByteArray) (v k : Int) (A' : Option Addr) (c' : Nat) (l' : List UInt8), e = .returned (.agg #[.string q, .int .u64 v, .int .i64 k, .slice A' l'.length c']) ∧ Hid (q = (gotE L p).p ∧ v = (gotE L p).v ∧ k = (gotE L p).k ∧ l' = (gotE L p).x.l) ∧ OwB w' w.heap.size (.slice A' l'.length c') l' ∧ Below w.heap.size w w' := by
  have hb0 : Below w.heap.size w (w.alloc (.cells #[.string ⟨#[]⟩, .int .u64 0, .int .i64 0, .slice none 0 0] 59)) := (by repeat (first | exact Below.refl _ _ | refine Below.alloc ?_ (by simp) _ | refine Below.setCell ?_ (by simp) _ | refine Below.drew ?_))
  have x0 := Blk.new w 59 #[.string ⟨#[]⟩, .int .u64 0, .int .i64 0, .slice none 0 0]
  have HG := Lib.hid (bookget_any bb mo L s p _ (h.below hb0) hp)
  have hl : ∀ x ∈ L, x.2.x.l.length ≤ 140737488355328 := fun x hx => Nat.le_trans (h.data hx) (by omega)
  have HB := Lib.hid h
  clear h
  rcases hg : getR L p with _ | o
  · have HGE : Hid (gotE L p = ⟨⟨⟨p⟩⟩, 0, 0, ⟨none, 0, []⟩⟩) := Lib.hid (by unfold gotE; rw [hg]; rfl)
    rw [hg] at HG
    clear hg hl
    go_enter Tryz.func55, Tryz.ntmps55
    go_wp2_with fail
    refine HG.out.mono ?_
    rintro e w1 ⟨⟨o, rfl, ho⟩, hb1⟩
    have hw1 := hb0.trans (hb1.mono hb0.size)
    have hba : Below w1.heap.size w1 (w1.alloc (.cells #[.string o.p, .int .u64 o.v, .int .i64 o.k, .slice o.x.A o.x.l.length o.x.c] 59)) := (Below.refl _ _).alloc (Nat.le_refl _) _
    have hw2 := hw1.trans (hba.mono hw1.size)
    have x2 := (x0.below hb1).below hba
    go_upto_region 3 with (fail)
    generalize w1.alloc (.cells #[.string o.p, .int .u64 o.v, .int .i64 o.k, .slice o.x.A o.x.l.length o.x.c] 59) = w2 at *
    have r0 := x2.cell 0
    have r1 := x2.cell 1
    have r2 := x2.cell 2
    have r3 := x2.cell 3
    simp only [List.getElem?_toArray, List.getElem?_cons_zero, List.getElem?_cons_succ] at r0 r1 r2 r3
    have fr := fun o => x2.frozen o
    go_wp2_with fail
    have kR : Fr (fun x => x = w.heap.size) w2 ((((w2.setCell ⟨w.heap.size, 0, none⟩ (.string ⟨⟨p⟩⟩)).setCell ⟨w.heap.size, 1, none⟩ (.int .u64 0)).setCell ⟨w.heap.size, 2, none⟩ (.int .i64 0)).setCell ⟨w.heap.size, 3, none⟩ (.slice none 0 0)) := (((((Fr.refl (fun x => x = w.heap.size) w2).setAt (w.heap.size) _ rfl _).setAt (w.heap.size) _ rfl _).setAt (w.heap.size) _ rfl _).setAt (w.heap.size) _ rfl _)
    have yR := ((((x2.set_ 0 (.string ⟨⟨p⟩⟩)).set_ 1 (.int .u64 0)).set_ 2 (.int .i64 0)).set_ 3 (.slice none 0 0))
    simp only [List.setIfInBounds_toArray, List.set_cons_zero, List.set_cons_succ] at yR
    have hwR : Below w.heap.size w ((((w2.setCell ⟨w.heap.size, 0, none⟩ (.string ⟨⟨p⟩⟩)).setCell ⟨w.heap.size, 1, none⟩ (.int .u64 0)).setCell ⟨w.heap.size, 2, none⟩ (.int .i64 0)).setCell ⟨w.heap.size, 3, none⟩ (.slice none 0 0)) := hw2.trans (kR.below (B := w.heap.size) hw2.size (fun k hk e => by omega))
    generalize ((((w2.setCell ⟨w.heap.size, 0, none⟩ (.string ⟨⟨p⟩⟩)).setCell ⟨w.heap.size, 1, none⟩ (.int .u64 0)).setCell ⟨w.heap.size, 2, none⟩ (.int .i64 0)).setCell ⟨w.heap.size, 3, none⟩ (.slice none 0 0)) = wR at *
    have s0 := yR.cell 0
    have s1 := yR.cell 1
    have s2 := yR.cell 2
    have s3 := yR.cell 3
    simp only [List.getElem?_toArray, List.getElem?_cons_zero, List.getElem?_cons_succ] at s0 s1 s2 s3
    refine bodyPost_ret (v := .agg #[.string ⟨⟨p⟩⟩, .int .u64 0, .int .i64 0, .slice none 0 0]) (by simp [results, Tryz.results55, go_sem, s0, s1, s2, s3]) rfl ?_
    exact ⟨⟨⟨p⟩⟩, 0, 0, none, 0, [], rfl, by show _ ∧ _; rw [HGE.out]; exact ⟨rfl, rfl, rfl, rfl⟩, OwB.nil _ _, hwR⟩
  · have HGE : Hid (gotE L p = o) := Lib.hid (by unfold gotE; rw [hg]; rfl)
    have hol := hl _ (getR_mem hg)
    have hob := (HB.out.ok _ (getR_mem hg)).x
    dsimp only at hol hob
    rw [hg] at HG
    clear hg hl
    go_enter Tryz.func55, Tryz.ntmps55
    go_wp2_with fail
    refine HG.out.mono ?_
    rintro e w1 ⟨⟨o', rfl, ho⟩, hb1⟩
    obtain rfl : o' = o := ho.out
    clear ho
    have hw1 := hb0.trans (hb1.mono hb0.size)
    have hba : Below w1.heap.size w1 (w1.alloc (.cells #[.string o'.p, .int .u64 o'.v, .int .i64 o'.k, .slice o'.x.A o'.x.l.length o'.x.c] 59)) := (Below.refl _ _).alloc (Nat.le_refl _) _
    have hw2 := hw1.trans (hba.mono hw1.size)
    have x2 := (x0.below hb1).below hba
    have y2 := Blk.new w1 59 #[.string o'.p, .int .u64 o'.v, .int .i64 o'.k, .slice o'.x.A o'.x.l.length o'.x.c]
    have HC := Lib.hid (entryClone_any o'.p o'.v o'.k o'.x.A o'.x.c o'.x.l _ _ (hob.below hw2).1 hol)
    clear hob HG hb1 hba x0
    go_upto_region 4 with (fail)
    generalize w1.alloc (.cells #[.string o'.p, .int .u64 o'.v, .int .i64 o'.k, .slice o'.x.A o'.x.l.length o'.x.c] 59) = w2 at *
    have p0 := y2.cell 0
    have p1 := y2.cell 1
    have p2 := y2.cell 2
    have p3 := y2.cell 3
    simp only [List.getElem?_toArray, List.getElem?_cons_zero, List.getElem?_cons_succ] at p0 p1 p2 p3
    go_wp2_with fail
    refine HC.out.mono ?_
    rintro e w3 ⟨A3, c3, l3, rfl, hl3, ho3, hb3⟩
    have hw3 := hw2.trans (hb3.mono hw2.size)
    have x3 := x2.below hb3
    have s2 := hw2.size
    have l2 := x2.lt
    have r0 := x3.cell 0
    have r1 := x3.cell 1
    have r2 := x3.cell 2
    have r3 := x3.cell 3
    simp only [List.getElem?_toArray, List.getElem?_cons_zero, List.getElem?_cons_succ] at r0 r1 r2 r3
    have fr := fun o => x3.frozen o
    go_wp2_with fail
    have kR : Fr (fun x => x = w.heap.size) w3 ((((w3.setCell ⟨w.heap.size, 0, none⟩ (.string o'.p)).setCell ⟨w.heap.size, 1, none⟩ (.int .u64 o'.v)).setCell ⟨w.heap.size, 2, none⟩ (.int .i64 o'.k)).setCell ⟨w.heap.size, 3, none⟩ (.slice A3 l3.length c3)) := (((((Fr.refl (fun x => x = w.heap.size) w3).setAt (w.heap.size) _ rfl _).setAt (w.heap.size) _ rfl _).setAt (w.heap.size) _ rfl _).setAt (w.heap.size) _ rfl _)
    have yR := ((((x3.set_ 0 (.string o'.p)).set_ 1 (.int .u64 o'.v)).set_ 2 (.int .i64 o'.k)).set_ 3 (.slice A3 l3.length c3))
    simp only [List.setIfInBounds_toArray, List.set_cons_zero, List.set_cons_succ] at yR
    have hwR : Below w.heap.size w ((((w3.setCell ⟨w.heap.size, 0, none⟩ (.string o'.p)).setCell ⟨w.heap.size, 1, none⟩ (.int .u64 o'.v)).setCell ⟨w.heap.size, 2, none⟩ (.int .i64 o'.k)).setCell ⟨w.heap.size, 3, none⟩ (.slice A3 l3.length c3)) := hw3.trans (kR.below (B := w.heap.size) hw3.size (fun k hk e => by omega))
    generalize ((((w3.setCell ⟨w.heap.size, 0, none⟩ (.string o'.p)).setCell ⟨w.heap.size, 1, none⟩ (.int .u64 o'.v)).setCell ⟨w.heap.size, 2, none⟩ (.int .i64 o'.k)).setCell ⟨w.heap.size, 3, none⟩ (.slice A3 l3.length c3)) = wR at *
    have s0 := yR.cell 0
    have s1 := yR.cell 1
    have s2 := yR.cell 2
    have s3 := yR.cell 3
    simp only [List.getElem?_toArray, List.getElem?_cons_zero, List.getElem?_cons_succ] at s0 s1 s2 s3
    refine bodyPost_ret (v := .agg #[.string o'.p, .int .u64 o'.v, .int .i64 o'.k, .slice A3 l3.length c3]) (by simp [results, Tryz.results55, go_sem, s0, s1, s2, s3]) rfl ?_
    refine ⟨o'.p, o'.v, o'.k, A3, c3, l3, rfl, by show _ ∧ _; rw [HGE.out]; exact ⟨rfl, rfl, rfl, hl3.out⟩, ?_, hwR⟩
    exact own_base (OwB.fr ho3 kR (fun g hg e => by have := (ho3.lt g hg).1; omega)) (fun g hg => by have := (ho3.lt g hg).1; omega)

set_option maxRecDepth 100000 in
set_option maxHeartbeats 400000 in
theorem bookNext_any (bb : Nat) (mo : Option Nat) (L : List (List UInt8 × EV)) (s : Int) (w : World) (h : BookAt w bb mo L s) (hs : 0 ≤ s ∧ s < 18446744073709551616) :
    Calls Tryz.prog 24 #[.pointer (some ⟨bb, 0, none⟩)] w fun e w' => e = .returned (.int .i64 (if 1099511627776 ≤ s then 24 else 0)) ∧ BookAt w' bb mo L (if 1099511627776 ≤ s then s else s + 1) ∧ Fr (fun x => x = bb) w w' := by
  obtain ⟨c0, _⟩ := h.cells
  by_cases hl : 1099511627776 ≤ s
  · have hd : decide (1099511627776 ≤ s) = true := decide_eq_true hl
    rw [if_pos hl, if_pos hl]
    have HB := Lib.hid h
    clear h hl
    go_enter Tryz.func24, Tryz.ntmps24
    go_wp2_with fail
    go_ret
    exact ⟨rfl, HB.out, Fr.refl _ _⟩
  · have hd : decide (1099511627776 ≤ s) = false := decide_eq_false hl
    rw [if_neg hl, if_neg hl]
    have hw := IntWalk.u64_in (s + 1) ⟨by omega, by omega⟩
    have HB := Lib.hid (h.set (s + 1))
    have f0 := h.blk.frozen 0
    clear h
    go_enter Tryz.func24, Tryz.ntmps24
    go_wp2_with fail
    go_ret
    exact ⟨rfl, HB.out, (Fr.refl (fun x => x = bb) w).setAt bb 0 rfl _⟩
theorem bookNext_nil (w : World) : Calls Tryz.prog 24 #[.pointer none] w fun e w' => e = .returned (.int .i64 1) ∧ w = w' := by
  go_enter Tryz.func24, Tryz.ntmps24
  go_wp2_with fail
  go_ret
  exact ⟨rfl, rfl⟩
end Go.Proofs.YtdnljmncdbcgeaaGreat

/- name.Under. -/
namespace Go.Proofs.YtdnljmncdbcgeaaGreat
open Go.RowKit

theorem under_any (p top : ByteArray) (hp : p.size ≤ 9223372036854775807) (ht : top.size ≤ 9223372036854775807) (w : World) : Calls Tryz.prog 139 #[.string p, .string top] w fun e w' => e = .returned (.bool (underB (tl p) (tl top))) ∧ Below w.heap.size w w' := by
  cases h1 : goodB (tl p)
  · have hr : underB (tl p) (tl top) = false := by unfold underB; rw [h1]; rfl
    rw [hr]
    have HC := Lib.hid (check_no p hp h1)
    clear hr h1
    go_enter Tryz.func139, Tryz.ntmps139
    go_wp2_with fail
    refine (HC.out _).mono ?_
    rintro e w1 ⟨rfl, hb⟩
    go_wp2_with fail
    go_ret
    exact ⟨rfl, hb⟩
  · cases h2 : goodB (tl top)
    · have hr : underB (tl p) (tl top) = false := by unfold underB; rw [h1, h2]; rfl
      rw [hr]
      have HC := Lib.hid (check_yes p hp h1)
      have HD := Lib.hid (check_no top ht h2)
      clear hr h1 h2
      go_enter Tryz.func139, Tryz.ntmps139
      go_wp2_with fail
      refine (HC.out _).mono ?_
      rintro e w1 ⟨rfl, hb⟩
      go_wp2_with fail
      refine (HD.out _).mono ?_
      rintro e w2 ⟨rfl, hb2⟩
      go_wp2_with fail
      go_ret
      exact ⟨rfl, bthen hb hb2⟩
    · obtain ⟨R, hR⟩ : ∃ R, R = underB (tl p) (tl top) := ⟨_, rfl⟩
      have hr : R = preB (tl p) (tl top) := by rw [hR]; unfold underB; rw [h1, h2]; rfl
      rw [← hR]
      have HR := Lib.hid hr
      have HC := Lib.hid (check_yes p hp h1)
      have HD := Lib.hid (check_yes top ht h2)
      have hts : top.size ≤ 96 := by have := goodB_len h2; rwa [tl_len] at this
      clear hr hR h1 h2
      go_enter Tryz.func139, Tryz.ntmps139
      go_wp2_with fail
      refine (HC.out _).mono ?_
      rintro e w1 ⟨rfl, hb⟩
      go_wp2_with fail
      refine (HD.out _).mono ?_
      rintro e w2 ⟨rfl, hb2⟩
      go_wp2_with fail
      refine (Tryz.strings_HasPrefix _ _ _).mono ?_
      rintro e w3 ⟨rfl, rfl⟩
      go_wp2_with fail
      go_ret
      refine ⟨ret_b ?_, bthen hb hb2⟩
      rw [HR.out]
      unfold preB Lib.hasPrefix
      rfl
end Go.Proofs.YtdnljmncdbcgeaaGreat

/- name.Compare. -/
namespace Go.Proofs.YtdnljmncdbcgeaaGreat
open Go.RowKit

theorem less_cmp : ∀ a b : List UInt8, Op.bytesLess a b = decide (cmpB a b < 0)
  | [], [] => by simp [Op.bytesLess, cmpB, cmpL]
  | _ :: _, [] => by simp [Op.bytesLess, cmpB, cmpL]
  | [], _ :: _ => by simp [Op.bytesLess, cmpB, cmpL]
  | x :: a, y :: b => by
    have ih := less_cmp a b
    unfold cmpB at ih ⊢
    rw [Op.bytesLess, ih, cmpL]
    unfold cmp1
    rw [Bool.eq_iff_iff]
    by_cases h1 : x.toNat < y.toNat
    · simp [h1, UInt8.lt_iff_toNat_lt]
    · by_cases h2 : y.toNat < x.toNat
      · have : ¬ x = y := by rintro rfl; omega
        simp [h1, h2, UInt8.lt_iff_toNat_lt, this]
      · have : x = y := UInt8.toNat_inj.1 (by omega)
        subst this
        simp
theorem nan_str (s : ByteArray) (w : World) : Calls Tryz.prog 128 #[.string s] w fun e w' => e = .returned (.bool false) ∧ w = w' := by
  go_enter Tryz.func128, Tryz.ntmps128
  go_wp2_with fail
  go_ret
  exact ⟨rfl, rfl⟩
theorem cmpStr_any (s t : ByteArray) (w : World) : Calls Tryz.prog 104 #[.string s, .string t] w fun e w' => e = .returned (.int .i64 (cmpB (tl s) (tl t))) ∧ w = w' := by
  obtain ⟨a, ha⟩ : ∃ a, s.data.toList = a := ⟨_, rfl⟩
  obtain ⟨b, hb⟩ : ∃ b, t.data.toList = b := ⟨_, rfl⟩
  have hr := ordB.rng a b
  have HL := Lib.hid (less_cmp a b)
  have HQ := Lib.hid (ordB.eq a b)
  have EA := Lib.hid (show s.toList = a by rw [ByteArray.toList_eq, ha])
  have EB := Lib.hid (show t.toList = b by rw [ByteArray.toList_eq, hb])
  rw [show tl s = a from ha, show tl t = b from hb]
  clear ha hb
  go_enter Tryz.func104, Tryz.ntmps104
  go_wp2_with (first | (go_at_call 128; refine (nan_str _ _).mono ?_; rintro e w1 ⟨rfl, rfl⟩))
  all_goals
    go_ret
    refine ⟨ret_i ?_, rfl⟩
    simp only [EA.out, EB.out] at *
  · have h1 : Op.bytesLess a b = true := by assumption
    rw [HL.out] at h1
    simp at h1
    omega
  · have h1 : Op.bytesLess a b = false := by assumption
    have h2 : (!a == b) = true := by assumption
    rw [HL.out] at h1
    simp at h1 h2
    have := mt HQ.out.1 h2
    omega
  · have h2 : (!a == b) = false := by assumption
    simp at h2
    exact (HQ.out.2 h2).symm
theorem at_any (x : Bool) (w : World) : Calls Tryz.prog 105 #[.bool x] w fun e w' => e = .returned (.int .i64 (if x then 1 else 0)) ∧ w = w' := by
  cases x
  · go_enter Tryz.func105, Tryz.ntmps105
    go_wp2_with fail
    go_ret
    exact ⟨rfl, rfl⟩
  · go_enter Tryz.func105, Tryz.ntmps105
    go_wp2_with fail
    go_ret
    exact ⟨rfl, rfl⟩
/-- one part and whether there is more -/
structure CutTo (s x r : ByteArray) (m : Bool) : Prop where
  call : ∀ w, Calls Tryz.prog 103 #[.string s, .string ⟨#[47]⟩] w fun e w' => e = .returned (.tuple #[.string x, .string r, .bool m]) ∧ Qt w w'
  eq : cutL (tl s) = tl x :: (if m then cutL (tl r) else [])
  size : if m then r.size < s.size else True
  le : x.size ≤ s.size
theorem cut_to (s : ByteArray) (hs : s.size ≤ 9223372036854775807) : ∃ x r m, CutTo s x r m := by
  rcases cut_ways s with ⟨hi, hx⟩ | ⟨i, hi, hit, hx⟩
  · exact ⟨s, ⟨#[]⟩, false, fun w => strCut_none s w hi, by simpa using hx, by simp, Nat.le_refl _⟩
  · exact ⟨_, _, true, fun w => strCut_at s i w hi hit hs, by simpa using hx, by simp; omega, by simp; omega⟩
def strOf : Value → Nat | .string s => s.size | _ => 0
set_option maxHeartbeats 1000000 in
theorem compare_any (a b : ByteArray) (ha : a.size ≤ 9223372036854775807) (hb : b.size ≤ 9223372036854775807) (w : World) : Calls Tryz.prog 70 #[.string a, .string b] w fun e w' => e = .returned (.int .i64 (cmpT (tl a) (tl b))) ∧ Qt w w' := by
  go_enter Tryz.func70, Tryz.ntmps70
  go_wp2_with fail
  go_loopw [0, 1] (fun av bv wr => ∃ x y : ByteArray, av = .string x ∧ bv = .string y ∧ x.size ≤ a.size ∧ y.size ≤ b.size ∧ Hid (cmpT (tl x) (tl y) = cmpT (tl a) (tl b)) ∧ Qt w wr) (fun av _ _ => strOf av)
  case atStart => exact ⟨a, b, rfl, rfl, Nat.le_refl _, Nat.le_refl _, rfl, Qt.refl _⟩
  case round =>
    obtain ⟨x, y, rfl, rfl, hxa, hyb, hC, hq⟩ := hrel
    obtain ⟨x1, xr, xm, kx⟩ := cut_to x (by omega)
    obtain ⟨y1, yr, ym, ky⟩ := cut_to y (by omega)
    have ex := kx.eq
    have ey := ky.eq
    have sx := kx.size
    have sy := ky.size
    have hR : cmpT (tl x) (tl y) = if cmpB (tl x1) (tl y1) = 0 then cmpP (if xm then cutL (tl xr) else []) (if ym then cutL (tl yr) else []) else cmpB (tl x1) (tl y1) := by
      unfold cmpT
      rw [ex, ey]
      rfl
    have HR := Lib.hid (hC.out.symm.trans hR)
    clear hR ex ey hC
    by_cases h1 : x1 = y1
    · subst h1
      rw [if_pos (cmpB_self _)] at HR
      have hy1 := neq_yes (rfl : x1 = x1)
      have HF : ∀ m : Bool, Hid ((if m = true then (1 : Int) else 0) = if m then 1 else 0) := fun _ => rfl
      by_cases hm : xm = true ∧ ym = true
      · obtain ⟨rfl, rfl⟩ := hm
        rw [if_pos rfl] at sx sy
        go_wp2_with fail
        refine (kx.call _).mono ?_
        rintro e w1 ⟨rfl, n1, rfl⟩
        go_wp2_with fail
        refine (ky.call _).mono ?_
        rintro e w1 ⟨rfl, n2, rfl⟩
        go_wp2_with fail
        go_roundw
        case rel => exact ⟨xr, yr, rfl, rfl, by omega, by omega, HR.out.symm, hq.trans ⟨n1 + n2, rfl⟩⟩
        case measure => simp [strOf]; exact sx
      · have HS : Hid (cmpP (if xm = true then cutL (tl xr) else []) (if ym = true then cutL (tl yr) else []) = (if xm = true then 1 else 0) - (if ym = true then 1 else 0)) := by
          show _ = _
          cases xm <;> cases ym
          · rfl
          · obtain ⟨z, zs, e⟩ := List.exists_cons_of_ne_nil (cutL_ne (tl yr))
            simp [cmpP, cmpL, e]
          · obtain ⟨z, zs, e⟩ := List.exists_cons_of_ne_nil (cutL_ne (tl xr))
            simp [cmpP, cmpL, e]
          · simp at hm
        have HR2 := Lib.hid (HR.out.trans HS.out)
        clear HR HS sx sy
        cases xm <;> cases ym
        case true.true => simp at hm
        all_goals
          clear hm
          go_wp2_with fail
          refine (kx.call _).mono ?_
          rintro e w1 ⟨rfl, n1, rfl⟩
          go_wp2_with fail
          refine (ky.call _).mono ?_
          rintro e w1 ⟨rfl, n2, rfl⟩
          go_wp2_with (go_at_call 105; refine (at_any _ _).mono ?_; rintro e w1 ⟨rfl, rfl⟩)
          go_ret
          exact ⟨ret_i (by rw [HR2.out]; rfl), hq.trans ⟨n1 + n2, rfl⟩⟩
    · have hne : cmpB (tl x1) (tl y1) ≠ 0 := fun e => h1 (tl_inj ((ordB.eq _ _).1 e))
      rw [if_neg hne] at HR
      have hn := neq_no h1
      clear hne sx sy
      go_wp2_with fail
      refine (kx.call _).mono ?_
      rintro e w1 ⟨rfl, n1, rfl⟩
      go_wp2_with fail
      refine (ky.call _).mono ?_
      rintro e w1 ⟨rfl, n2, rfl⟩
      go_wp2_with fail
      refine (cmpStr_any _ _ _).mono ?_
      rintro e w1 ⟨rfl, rfl⟩
      go_wp2_with fail
      go_ret
      exact ⟨ret_i HR.out.symm, hq.trans ⟨n1 + n2, rfl⟩⟩

end Go.Proofs.YtdnljmncdbcgeaaGreat

/- What slices.SortFunc of texts by name.Compare does, as a premise. -/
namespace Go.Proofs.YtdnljmncdbcgeaaGreat
open Go.RowKit Go.Maps

/-- texts sorted by name.Compare -/
def SortsT : Prop := ∀ (base : Nat) (A : Option Addr) (c : Nat) (ss : List (List UInt8)) (w : World), w.ownsRow base 9 1 (.slice A ss.length c) ss.length (ss.map stv) → (∀ x ∈ ss, x.length ≤ 140737488355328) → ss.length ≤ 1099511627776 →
  Calls Tryz.prog 130 #[.slice A ss.length c, .func (.func 70) #[] #[]] w fun e w' => e = .returned (.tuple #[]) ∧ w'.ownsRow base 9 1 (.slice A ss.length c) ss.length ((ss.mergeSort leT).map stv) ∧ w.grownBy w' (ablk A)
theorem below_grown {w w' : World} (h : Below w.heap.size w w') : w.grownBy w' none := ⟨h.os, h.tape, h.output, h.size, fun k hk _ => h.block k hk⟩
theorem grown_below {B : Nat} {w w' : World} {row : Option Nat} (h : w.grownBy w' row) (hB : B ≤ w.heap.size) (hr : ∀ g, row = some g → B ≤ g) : Below B w w' := ⟨h.os, h.tape, h.output, h.size, fun k hk => h.block k (by omega) (fun e => by have := hr k e.symm; omega)⟩
end Go.Proofs.YtdnljmncdbcgeaaGreat

/- Drawn regions whose operations each yield ONE value and at most make memory: one walk in the order of the text, in worlds above the one at hand; the variable that is made behind them may be made at any time. No program. -/
namespace Go.Proofs.YtdnljmncdbcgeaaGreat
open Go.RowKit

section
variable {P : Program} {ops : Array Oper} {md : Region.Mode} {W : World}

/-- In state a, in every world above W, the operation yields v, and makes memory at most. -/
def YB (P : Program) (ops : Array Oper) (W : World) (o : Oper) (v : Value) (a : Act) : Prop :=
  (Region.wanted o (yielded ops a.tmps) = true ∧ ∀ w, Below W.heap.size W w → (execOp a.eval o).run P w = .ok (.value v) w ∨
    ∃ f args, (execOp a.eval o).run P w = .ok (.enter f args) w ∧ Calls P f args w fun e w' => e = .returned v ∧ Below w.heap.size w w') ∨
  (Region.wanted o (yielded ops a.tmps) = false ∧ v = undef)
theorem YB.of_same {o : Oper} {v : Value} {a a' : Act} (hy : YB P ops W o v a) (he : execOp a'.eval o = execOp a.eval o)
    (hw : Region.wanted o (yielded ops a'.tmps) = Region.wanted o (yielded ops a.tmps)) : YB P ops W o v a' := by
  unfold YB at *
  rw [he, hw]
  exact hy
theorem YB.wpOp {i : Nat} {o : Oper} {v : Value} {a : Act} {w : World} {K : Act → World → Prop} {Q : Exit → Act → World → Prop} (hi : ops[i]? = some o) (hy : YB P ops W o v a) (hw : Below W.heap.size W w)
    (hK : ∀ w', Below w.heap.size w w' → K (a.put o.dst v) w') : wpOp P ops Q i K a w := by
  unfold Go.wpOp
  simp only [hi]
  rcases hy with ⟨hwt, hv⟩ | ⟨hwt, rfl⟩
  · simp only [hwt, if_true]
    refine .inl ?_
    unfold Oper.wp
    rcases hv w hw with e | ⟨f, args, e, hc⟩
    · rw [e]
      exact hK w (Below.refl _ _)
    · rw [e]
      exact hc.mono fun e w' ⟨he, hb⟩ => by subst he; exact hK w' hb
  · simp only [hwt, Bool.false_eq_true, if_false]
    exact hK w (Below.refl _ _)

inductive DetB (P : Program) (md : Region.Mode) (ops : Array Oper) (W : World) (n : Nat) (E : Array Bool → Act → Prop) : Nat → Array Bool → Act → Prop
  | done {listed : Array Bool} {a : Act} : (∀ j ∈ Region.ready md ops listed, n ≤ j) → E listed a → DetB P md ops W n E 0 listed a
  | step {k i : Nat} {listed : Array Bool} {a : Act} {o : Oper} {v : Value} : ops[i]? = some o → i < n → HeadInv md ops n listed → i ∈ Region.ready md ops listed →
      (∀ j oj, ops[j]? = some oj → j ≠ i → listed.getD j true = false → (∀ e ∈ oj.after, Region.binds md e = true → e.on ≠ i) → o.apart ops oj = true) →
      YB P ops W o v a → DetB P md ops W n E k (listed.setIfInBounds i true) (a.put o.dst v) → DetB P md ops W n E (k + 1) listed a
def TailWaitsB (md : Region.Mode) (ops : Array Oper) (n : Nat) : Prop :=
  ∀ listed, HeadInv md ops n listed → ∀ i, i < n → listed.getD i true = false → ∀ t ∈ Region.ready md ops listed, t < n

theorem DetB.any {n : Nat} {E : Array Bool → Act → Prop} (hsel : ∀ (j : Nat) (o : Oper) cs b, ops[j]? = some o → o.op ≠ .select cs b) (hT : TailWaitsB md ops n) :
    ∀ {k : Nat} {listed : Array Bool} {a : Act}, DetB P md ops W n E (k + 1) listed a →
      Region.ready md ops listed ≠ [] ∧ HeadInv md ops n listed ∧ ∀ j ∈ Region.ready md ops listed, j < n ∧ ∃ o v, ops[j]? = some o ∧ YB P ops W o v a ∧ DetB P md ops W n E k (listed.setIfInBounds j true) (a.put o.dst v) := by
  intro k
  induction k with
  | zero =>
    intro listed a h
    cases h with
    | @step _ i _ _ o v ho hin inv hr hap hy hd =>
      refine ⟨fun h => (by rw [h] at hr; cases hr), inv, fun j hj => ⟨hT _ inv i hin (mem_ready.1 hr).1 j hj, ?_⟩⟩
      by_cases hji : j = i
      · subst hji; exact ⟨o, v, ho, hy, hd⟩
      · cases hd with
        | done hge _ => have h1 := hT _ inv i hin (mem_ready.1 hr).1 j hj; have h2 := hge j (ready_mono hj hji); omega
  | succ k ih =>
    intro listed a h
    cases h with
    | @step _ i _ _ o v ho hin inv hr hap hy hd =>
      refine ⟨fun h => (by rw [h] at hr; cases hr), inv, fun j hj => ⟨hT _ inv i hin (mem_ready.1 hr).1 j hj, ?_⟩⟩
      by_cases hji : j = i
      · subst hji; exact ⟨o, v, ho, hy, hd⟩
      · obtain ⟨_, _, h2⟩ := ih hd
        obtain ⟨_, oj, u, hoj, hyj, hdj⟩ := h2 j (ready_mono hj hji)
        obtain ⟨hjun, oj', hoj', hall⟩ := mem_ready.1 hj
        obtain rfl : oj' = oj := Option.some.inj (hoj'.symm.trans hoj)
        have hun := (mem_ready.1 hr).1
        have hnot : ∀ e ∈ oj'.after, Region.binds md e = true → e.on ≠ i := fun e he hb heq => by
          have h1 := hall e he hb
          rw [heq, getD_both hun] at h1
          cases h1
        obtain ⟨a1, a2, a3⟩ := Oper.apart_spec (hap j oj' hoj hji hjun hnot)
        have hyj' := hyj.of_same (a' := a) (execOp_put oj' (fun cs b => hsel j oj' cs b hoj) a o.dst v a1).symm (wanted_put oj' a o.dst v a1).symm
        have hyi' := hy.of_same (a' := a.put oj'.dst u) (execOp_put o (fun cs b => hsel i o cs b ho) a oj'.dst u a3) (wanted_put o a oj'.dst u a3)
        refine ⟨oj', u, hoj, hyj', ?_⟩
        rw [Act.put_comm a v u a2, Array.setIfInBounds_comm _ _ (Ne.symm hji)] at hdj
        refine .step ho hin (inv.set hj (hT _ inv i hin hun j hj)) (ready_mono hr (Ne.symm hji)) ?_ hyi' hdj
        intro m om hm hmi hmun hmno
        refine hap m om hm hmi ?_ hmno
        by_cases hmj : j = m
        · subst hmj; exact hjun
        · rw [getD_set_ne true hmj] at hmun; exact hmun

theorem wpAny_of_detB {n g : Nat} {E : Array Bool → Act → Prop} {Q : Exit → Act → World → Prop} (hsel : ∀ (j : Nat) (o : Oper) cs b, ops[j]? = some o → o.op ≠ .select cs b) (hT : TailWaitsB md ops n)
    (hE : ∀ listed a w, E listed a → Below W.heap.size W w → wpAny P md ops Q g listed a w) :
    ∀ (k : Nat) (listed : Array Bool) (a : Act) (w : World), DetB P md ops W n E k listed a → Below W.heap.size W w → wpAny P md ops Q (k + g) listed a w
  | 0, listed, a, w, h, hw => by
    rw [Nat.zero_add]
    cases h with
    | done _ h => exact hE _ _ _ h hw
  | k + 1, listed, a, w, h, hw => by
    obtain ⟨h1, _, h2⟩ := DetB.any hsel hT h
    rw [show k + 1 + g = (k + g) + 1 by omega]
    refine ⟨fun h0 => absurd h0 h1, fun j hj => ?_⟩
    obtain ⟨_, o, v, ho, hy, hd⟩ := h2 j hj
    exact hy.wpOp ho hw fun w' hb => wpAny_of_detB hsel hT hE k _ _ w' hd (hw.trans (hb.mono hw.size))

/-- a world above W in which the block b was made -/
structure Made (W : World) (t : TypeId) (cs : Array Value) (b : Nat) (w : World) : Prop where
  below : Below W.heap.size W w
  ge : W.heap.size ≤ b
  blk : Blk w b t cs
theorem Made.step {t : TypeId} {cs : Array Value} {b : Nat} {w w' : World} (h : Made W t cs b w) (k : Below w.heap.size w w') : Made W t cs b w' :=
  ⟨h.below.trans (k.mono h.below.size), h.ge, h.blk.below k⟩

variable {f : Nat} {of : Oper} {t : TypeId} {cs : Array Value}
/-- behind the float: its pointer stands in every frame that follows -/
theorem float_behind {n g : Nat} {E : Array Bool → Act → Prop} {Q : Exit → Act → World → Prop} (hsel : ∀ (j : Nat) (o : Oper) cs b, ops[j]? = some o → o.op ≠ .select cs b) (hT : TailWaitsB md ops n)
    (hap : ∀ j o, ops[j]? = some o → j < n → j ≠ f → of.apart ops o = true) (b : Nat)
    (hE : ∀ listed a w, E listed a → Made W t cs b w → wpAny P md ops Q g listed (a.put of.dst (.pointer (some ⟨b, 0, none⟩))) w) :
    ∀ (k : Nat) (listed : Array Bool) (a : Act) (w : World), DetB P md ops W n E k listed a → listed.getD f false = true → Made W t cs b w → wpAny P md ops Q (k + g) listed (a.put of.dst (.pointer (some ⟨b, 0, none⟩))) w
  | 0, listed, a, w, h, _, hw => by
    rw [Nat.zero_add]
    cases h with
    | done _ h => exact hE _ _ _ h hw
  | k + 1, listed, a, w, h, hf, hw => by
    obtain ⟨h1, _, h2⟩ := DetB.any hsel hT h
    rw [show k + 1 + g = (k + g) + 1 by omega]
    refine ⟨fun h0 => absurd h0 h1, fun j hj => ?_⟩
    obtain ⟨hjn, o, v, ho, hy, hd⟩ := h2 j hj
    have hjf : j ≠ f := fun e => by
      subst e
      have := getD_both (mem_ready.1 hj).1
      rw [hf] at this
      cases this
    obtain ⟨a1, a2, a3⟩ := Oper.apart_spec (hap j o ho hjn hjf)
    have hy' := hy.of_same (a' := a.put of.dst (.pointer (some ⟨b, 0, none⟩))) (execOp_put o (fun cs b => hsel j o cs b ho) a of.dst _ a1) (wanted_put o a of.dst _ a1)
    refine hy'.wpOp ho hw.below fun w' hb => ?_
    have := float_behind hsel hT hap b hE k _ _ w' hd (getD_set_true hf) (hw.step hb)
    rw [Act.put_comm a _ v a2]
    exact this

/-- ahead of the float: it may come up at any time -/
theorem float_ahead {n g : Nat} {E : Array Bool → Act → Prop} {Q : Exit → Act → World → Prop} (hsel : ∀ (j : Nat) (o : Oper) cs b, ops[j]? = some o → o.op ≠ .select cs b) (hT : TailWaitsB md ops n)
    (hap : ∀ j o, ops[j]? = some o → j < n → j ≠ f → of.apart ops o = true) (hof : ops[f]? = some of) (hfn : f < n) (hno : of.after.all (fun e => !Region.binds md e) = true)
    (hal : ∀ (a : Act) (w : World), Region.wanted of (yielded ops a.tmps) = true ∧ (execOp a.eval of).run P w = .ok (.value (.pointer (some ⟨w.heap.size, 0, none⟩))) (w.alloc (.cells cs t)))
    (hE : ∀ b listed a w, E listed a → Made W t cs b w → wpAny P md ops Q g listed (a.put of.dst (.pointer (some ⟨b, 0, none⟩))) w) :
    ∀ (k : Nat) (listed : Array Bool) (a : Act) (w : World), DetB P md ops W n E k (listed.setIfInBounds f true) a → HeadInv md ops n listed → listed.getD f true = false → Below W.heap.size W w → wpAny P md ops Q (k + g + 1) listed a w := by
  intro k
  induction k with
  | zero =>
    intro listed a w h inv hf hw
    have hr : f ∈ Region.ready md ops listed := mem_ready.2 ⟨hf, of, hof, fun e he hb => by
      have := Array.all_eq_true_iff_forall_mem.1 hno e he
      rw [hb] at this
      cases this⟩
    have hfs : f < listed.size := by rw [inv.size]; exact (Array.getElem?_eq_some_iff.1 hof).1
    refine ⟨fun h0 => (by rw [h0] at hr; cases hr), fun j hj => ?_⟩
    by_cases hjf : j = f
    · subst hjf
      unfold wpOp
      simp only [hof, (hal a w).1, if_true]
      refine .inl ?_
      unfold Oper.wp
      rw [(hal a w).2]
      exact float_behind hsel hT hap _ (hE _) 0 _ _ _ h (by simp [hfs]) ⟨hw.alloc hw.size _, hw.size, Blk.new w t cs⟩
    · cases h with
      | done hge _ => have h1 := hge j (ready_mono hj hjf); have h2 := hT _ inv f hfn hf j hj; omega
  | succ k ih =>
    intro listed a w h inv hf hw
    have hr : f ∈ Region.ready md ops listed := mem_ready.2 ⟨hf, of, hof, fun e he hb => by
      have := Array.all_eq_true_iff_forall_mem.1 hno e he
      rw [hb] at this
      cases this⟩
    have hfs : f < listed.size := by rw [inv.size]; exact (Array.getElem?_eq_some_iff.1 hof).1
    refine ⟨fun h0 => (by rw [h0] at hr; cases hr), fun j hj => ?_⟩
    by_cases hjf : j = f
    · subst hjf
      unfold wpOp
      simp only [hof, (hal a w).1, if_true]
      refine .inl ?_
      unfold Oper.wp
      rw [(hal a w).2]
      exact float_behind hsel hT hap _ (hE _) (k + 1) _ _ _ h (by simp [hfs]) ⟨hw.alloc hw.size _, hw.size, Blk.new w t cs⟩
    · obtain ⟨_, _, h2⟩ := DetB.any hsel hT h
      obtain ⟨hjn, o, v, ho, hy, hd⟩ := h2 j (ready_mono hj hjf)
      rw [show k + 1 + g = k + g + 1 by omega]
      refine hy.wpOp ho hw fun w' hb => ?_
      rw [Array.setIfInBounds_comm _ _ (Ne.symm hjf)] at hd
      exact ih _ _ w' hd (inv.set hj hjn) (by rw [getD_set_ne true hjf]; exact hf) (hw.trans (hb.mono hw.size))

/-- the check: so many operations from k on, each ready and free; then the tail from n on, one behind the other -/
def headF (md : Region.Mode) (ops : Array Oper) (g n : Nat) : Nat → Nat → Array Bool → Bool
  | 0, _, listed => Region.seqB md ops g n listed
  | m + 1, k, listed => (Region.ready md ops listed).contains k && Region.free md ops listed k && headF md ops g n m (k + 1) (listed.setIfInBounds k true)

/-- the walk in the text's order; nobody looks into it -/
inductive WalkB (P : Program) (ops : Array Oper) (W : World) (Q : Act → Prop) : List Oper → Act → Prop
  | nil {a : Act} : Q a → WalkB P ops W Q [] a
  | cons {o : Oper} {rest : List Oper} {a : Act} {v : Value} : YB P ops W o v a → WalkB P ops W Q rest (a.put o.dst v) → WalkB P ops W Q (o :: rest) a

theorem detB_lex {n g : Nat} {Lq : Act → Prop} :
    ∀ (l : List Oper) (k : Nat) (listed : Array Bool) (a : Act), (∀ j, j < l.length → l[j]? = ops[k + j]?) → k + l.length ≤ n → HeadInv md ops n listed →
    headF md ops g n l.length k listed = true → WalkB P ops W Lq l a →
    DetB P md ops W n (fun listed' a' => Region.seqB md ops g n listed' = true ∧ Lq a') l.length listed a
  | [], k, listed, a, _, _, _, hB, h => by
    have hs : Region.seqB md ops g n listed = true := by simpa [headF] using hB
    cases h with
    | nil h => exact .done (seqB_ready hs) ⟨hs, h⟩
  | o :: l, k, listed, a, hl, hk, inv, hB, h => by
    have h0 : ops[k]? = some o := by simpa using (hl 0 (by simp)).symm
    simp only [List.length_cons, headF, Bool.and_eq_true] at hB
    obtain ⟨⟨hr, hf⟩, hB'⟩ := hB
    have hkn : k < n := by simp only [List.length_cons] at hk; omega
    have hr' : k ∈ Region.ready md ops listed := by simpa using hr
    cases h with
    | cons hy hd =>
      refine .step h0 hkn inv hr' (Region.free_spec h0 hf) hy ?_
      exact (detB_lex l (k + 1) _ _ (fun j hj => by have := hl (j + 1) (by simp; omega); simpa [Nat.add_assoc, Nat.add_comm 1 j] using this) (by simp only [List.length_cons] at hk; omega) (inv.set hr' hkn) hB' hd)

def tailOkB (ops : Array Oper) (n : Nat) : Bool := Region.noSelect ops && (decide (n = ops.size) || (decide (n < ops.size) && Region.sinkB .any ops n && Region.chainB .any ops n))
theorem tailOkB_spec {n : Nat} (h : tailOkB ops n = true) : Region.noSelect ops = true ∧ n ≤ ops.size ∧ TailWaitsB .any ops n := by
  simp only [tailOkB, Bool.and_eq_true, Bool.or_eq_true, decide_eq_true_eq] at h
  obtain ⟨hsel, hn⟩ := h
  refine ⟨hsel, ?_, ?_⟩
  · rcases hn with h | ⟨⟨h, _⟩, _⟩ <;> omega
  · intro listed inv i hi hun t ht
    rcases hn with h | ⟨⟨h, hs⟩, hc⟩
    · obtain ⟨_, o, ho, _⟩ := mem_ready.1 ht
      have := (Array.getElem?_eq_some_iff.1 ho).1
      omega
    · rcases Nat.lt_or_ge t n with h1 | h1
      · exact h1
      · exact absurd ht (tail_waits hs hc h inv _ i rfl hi hun t h1)
theorem inv_new (n : Nat) : HeadInv md ops n (Array.replicate ops.size false) :=
  ⟨by simp, fun j oj _ hl => (by rw [getD_replicate_false] at hl; cases hl), fun t _ ht => getD_in (by simpa using ht) (getD_replicate_false _ _)⟩

/-- n operations, then the rest one behind the other -/
theorem wp_region_b {id : Nat} {Q : Exit → Act → World → Prop} {a : Act} {w : World} {l : List Oper} (n : Nat) (hm : P.follows .mixedOrders = true)
    (hB : (tailOkB l.toArray n && headF .any l.toArray (l.toArray.size - n) n n 0 (Array.replicate l.toArray.size false)) = true)
    (h : WalkB P l.toArray w (fun a' => ∀ w', Below w.heap.size w w' → wpList P l.toArray Q (l.drop n) a' w') (l.take n) a) : (Code.region id l.toArray true).wp P Q a w := by
  rw [Bool.and_eq_true] at hB
  obtain ⟨hok, hlex⟩ := hB
  obtain ⟨hsel, hnl, hT⟩ := tailOkB_spec hok
  have htl : (l.take n).length = n := by simp at hnl ⊢; omega
  have hdl : (l.drop n).length = l.toArray.size - n := by simp
  have H := detB_lex (P := P) (md := .any) (W := w) (n := n) (g := l.toArray.size - n) (l.take n) 0 _ a (fun j hj => by
    have hj' : j < n := by rw [htl] at hj; exact hj
    simp [hj']) (by rw [htl]; omega) (inv_new n) (by rw [htl]; exact hlex) h
  refine wp_region_any hm ?_
  have := wpAny_of_detB (Q := Q) (g := l.toArray.size - n) (Region.noSelect_spec hsel) hT (fun listed a' w' hL hw => by
    have := wpAny_of_seq (md := .any) (Q' := Q) (l.drop n) n listed a' w' (fun j => by simp [List.getElem?_drop]) (by rw [hdl]; exact hL.1) (hL.2 w' hw)
    rwa [hdl] at this) _ _ _ w.drew H (Below.refl _ _).drew
  rw [htl, show n + (l.toArray.size - n) = l.toArray.size by omega] at this
  exact this

/-- n operations and, right behind them in the text, a variable that is made (at any time); then the rest one behind the other -/
theorem wp_region_f {id : Nat} {Q : Exit → Act → World → Prop} {a : Act} {w : World} {l : List Oper} (n : Nat) (t : TypeId) (cs : Array Value) {of : Oper} (hm : P.follows .mixedOrders = true) (hof : l[n]? = some of)
    (hB : (tailOkB l.toArray (n + 1) && headF .any l.toArray (l.toArray.size - (n + 1)) (n + 1) n 0 ((Array.replicate l.toArray.size false).setIfInBounds n true) && of.after.all (fun e => !Region.binds .any e) && (l.take n).all (fun o => of.apart l.toArray o) && of.guard.isNone) = true)
    (hal : ∀ (ρ : Operand → Value) (w : World), (execOp ρ of).run P w = .ok (.value (.pointer (some ⟨w.heap.size, 0, none⟩))) (w.alloc (.cells cs t)))
    (h : WalkB P l.toArray w (fun a' => ∀ b w', Made w t cs b w' → wpList P l.toArray Q (l.drop (n + 1)) (a'.put of.dst (.pointer (some ⟨b, 0, none⟩))) w') (l.take n) a) : (Code.region id l.toArray true).wp P Q a w := by
  simp only [Bool.and_eq_true] at hB
  obtain ⟨⟨⟨⟨hok, hlex⟩, hno⟩, hap⟩, hgd⟩ := hB
  obtain ⟨hsel, hnl, hT⟩ := tailOkB_spec hok
  have hnl' : n < l.length := by simp at hnl; omega
  have htl : (l.take n).length = n := by simp; omega
  have hdl : (l.drop (n + 1)).length = l.toArray.size - (n + 1) := by simp
  have hof' : l.toArray[n]? = some of := by simpa using hof
  have inv1 : HeadInv .any l.toArray (n + 1) ((Array.replicate l.toArray.size false).setIfInBounds n true) :=
    (inv_new (n + 1)).set (mem_ready.2 ⟨getD_in (by simpa using hnl') (getD_replicate_false _ _), of, hof', fun e he hb => by
      have := Array.all_eq_true_iff_forall_mem.1 hno e he
      rw [hb] at this
      cases this⟩) (by omega)
  have H := detB_lex (P := P) (md := .any) (W := w) (n := n + 1) (g := l.toArray.size - (n + 1)) (l.take n) 0 _ a (fun j hj => by
    have hj' : j < n := by rw [htl] at hj; exact hj
    simp [hj']) (by rw [htl]; omega) inv1 (by rw [htl]; exact hlex) h
  refine wp_region_any hm ?_
  have hwt : ∀ a : Act, Region.wanted of (yielded l.toArray a.tmps) = true := fun a => by
    have : of.guard = none := by simpa using hgd
    simp [Region.wanted, this]
  have := float_ahead (Q := Q) (f := n) (of := of) (t := t) (cs := cs) (g := l.toArray.size - (n + 1)) (Region.noSelect_spec hsel) hT (fun j o ho hj hjn => by
      have hjn' : j < n := by omega
      have ho' : (l.take n)[j]? = some o := by rw [List.getElem?_take]; simp [hjn']; simpa using ho
      exact List.all_eq_true.1 hap o (List.mem_of_getElem? ho')) hof' (by omega) hno (fun a w => ⟨hwt a, hal _ _⟩)
    (fun b listed a' w' hL hw => by
      have := wpAny_of_seq (md := .any) (Q' := Q) (l.drop (n + 1)) (n + 1) listed (a'.put of.dst (.pointer (some ⟨b, 0, none⟩))) w' (fun j => by simp [List.getElem?_drop]) (by rw [hdl]; exact hL.1) (hL.2 b w' hw)
      rwa [hdl] at this) _ _ _ w.drew H (inv_new (n + 1)) (getD_in (by simpa using hnl') (getD_replicate_false _ _)) (Below.refl _ _).drew
  rw [htl, show n + (l.toArray.size - (n + 1)) + 1 = l.toArray.size by simp at hnl ⊢; omega] at this
  exact this

variable {Q : Act → Prop} {a : Act} {o : Oper} {rest : List Oper}
theorem lb_skip (hw : Region.wanted o (yielded ops a.tmps) = false) (h : ∃ a', a.put o.dst undef = a' ∧ WalkB P ops W Q rest a') : WalkB P ops W Q (o :: rest) a := by
  obtain ⟨a', ha, h⟩ := h
  exact .cons (.inr ⟨hw, rfl⟩) (by rw [ha]; exact h)
theorem lb_val (hw : Region.wanted o (yielded ops a.tmps) = true) (h : ∃ v, (∀ w, Below W.heap.size W w → (execOp a.eval o).run P w = .ok (.value v) w) ∧ ∃ a', a.put o.dst v = a' ∧ WalkB P ops W Q rest a') : WalkB P ops W Q (o :: rest) a := by
  obtain ⟨v, hv, a', ha, h⟩ := h
  exact .cons (.inl ⟨hw, fun w hb => .inl (hv w hb)⟩) (by rw [ha]; exact h)
theorem lb_move (x : Operand) (hw : Region.wanted o (yielded ops a.tmps) = true) (hop : o.op = .move x) (h : ∃ v, a.eval x = v ∧ ∃ a', a.put o.dst v = a' ∧ WalkB P ops W Q rest a') : WalkB P ops W Q (o :: rest) a := by
  obtain ⟨v, hv, h⟩ := h
  exact lb_val hw ⟨v, fun w _ => by rw [BigFrame.run_move x hop, hv], h⟩
theorem lb_assign (x : Operand) (hw : Region.wanted o (yielded ops a.tmps) = true) (hop : o.op = .assign x) (h : ∃ v, a.eval x = v ∧ ∃ a', a.put o.dst v = a' ∧ WalkB P ops W Q rest a') : WalkB P ops W Q (o :: rest) a := by
  obtain ⟨v, hv, h⟩ := h
  exact lb_val hw ⟨v, fun w _ => by rw [BigFrame.run_assign x hop, hv], h⟩
theorem lb_call {v : Value} {f : FuncId} {args : Array Value} (hw : Region.wanted o (yielded ops a.tmps) = true) (hc : ∀ w, Below W.heap.size W w → Calls P f args w fun e w' => e = .returned v ∧ Below w.heap.size w w') (hv : ∀ w, (execOp a.eval o).run P w = .ok (.enter f args) w)
    (h : ∃ a', a.put o.dst v = a' ∧ WalkB P ops W Q rest a') : WalkB P ops W Q (o :: rest) a := by
  obtain ⟨a', ha, h⟩ := h
  exact .cons (.inl ⟨hw, fun w hb => .inr ⟨f, args, hv w, hc w hb⟩⟩) (by rw [ha]; exact h)
end
end Go.Proofs.YtdnljmncdbcgeaaGreat
