/- A row of a call's own at any offset: cells, stores, tails, append. No function of the program. -/
import Derived.Test.YtkeledbgmpienaaA02
import Derived.ArgAppend
import Derived.Deep.RegionHeld3
import Derived.Laws.StructEq
import Derived.Deep.Quiet
import Derived.StillTail
import Derived.BigQuiet
import Derived.Outline
import Derived.Lib.SliceRun

namespace Go.Proofs.Ytkeledbgmpienaa
open Go.RowKit

/-- A is n elements of so many cells, with room for c, in a block of its own (element type e) at or beyond base. -/
structure Row (w : World) (base : Nat) (e : TypeId) (size : Nat) (A : Option Addr) (n c : Nat) (xs : List Value) : Prop where
  len : xs.length = n * size
  room : n ≤ c
  cap : c ≤ maxLen
  nil : A = none → n = 0 ∧ c = 0
  at_ : ∀ a, A = some a → ∃ g off cur, a = ⟨g, off, none⟩ ∧ base ≤ g ∧ Blk w g e cur ∧ off + c * size ≤ cur.size ∧ ∀ j u, xs[j]? = some u → cur[off + j]? = some u

namespace Row
variable {w w' : World} {base size n c : Nat} {e : TypeId} {A : Option Addr} {xs : List Value}
theorem none_ (w : World) (base : Nat) (e : TypeId) (size : Nat) : Row w base e size none 0 0 [] := ⟨by simp, Nat.le_refl _, by simp [maxLen], fun _ => ⟨rfl, rfl⟩, fun a h => by cases h⟩
theorem fr {S : Nat → Prop} (h : Row w base e size A n c xs) (k : Fr S w w') (hs : ∀ g, ablk A = some g → ¬ S g) : Row w' base e size A n c xs :=
  ⟨h.len, h.room, h.cap, h.nil, fun a ha => by
    obtain ⟨g, off, cur, e1, hb, hk, hsz, hc⟩ := h.at_ a ha
    exact ⟨g, off, cur, e1, hb, hk.fr k (hs g (by rw [ha, e1]; rfl)), hsz, hc⟩⟩
theorem below (h : Row w base e size A n c xs) (k : Below w.heap.size w w') : Row w' base e size A n c xs := h.fr (Fr.of_below k (fun _ => False)) (fun _ _ h => h)
theorem alloc (h : Row w base e size A n c xs) (o : Obj) : Row (w.alloc o) base e size A n c xs := h.below ((Below.refl _ _).alloc (Nat.le_refl _) o)
theorem drew (h : Row w base e size A n c xs) : Row w.drew base e size A n c xs := h.below (Below.refl _ _).drew
theorem lt (h : Row w base e size A n c xs) : ∀ g, ablk A = some g → base ≤ g ∧ g < w.heap.size := by
  intro g hg
  rcases A with _ | a
  · cases hg
  · obtain ⟨g', off, cur, e1, hb, hk, _⟩ := h.at_ a rfl
    subst e1
    injection hg with hg
    exact hg ▸ ⟨hb, hk.lt⟩
theorem rebase {base' : Nat} (h : Row w base e size A n c xs) (hb : ∀ g, ablk A = some g → base' ≤ g) : Row w base' e size A n c xs :=
  ⟨h.len, h.room, h.cap, h.nil, fun a ha => by
    obtain ⟨g, off, cur, e1, _, r⟩ := h.at_ a ha
    exact ⟨g, off, cur, e1, hb g (by rw [ha, e1]; rfl), r⟩⟩
theorem ne_blk {g : Nat} {t : TypeId} {cs : Array Value} (h : Row w base e size A n c xs) (hb : Blk w g t cs) (hne : e ≠ t) : ablk A ≠ some g := by
  intro hg
  rcases A with _ | a
  · cases hg
  · obtain ⟨g', off, cur, e1, _, hk, _⟩ := h.at_ a rfl
    subst e1
    injection hg with hg
    have hg' : g' = g := hg
    subst hg'
    exact Blk.ne_ hk hb hne rfl
theorem of_own (h : w.ownsRow base e size (.slice A n c) n xs) : Row w base e size A n c xs := by
  rcases h.2 with ⟨hv, hn⟩ | ⟨g, cap, cur, hv, hb, hg, hn, hm, hs, ht⟩
  · injection hv with h1 h2 h3
    subst h1 h2 h3
    exact ⟨h.1, Nat.le_refl _, by simp [maxLen], fun _ => ⟨rfl, rfl⟩, fun a ha => by cases ha⟩
  · injection hv with h1 h2 h3
    subst h1 h3
    refine ⟨h.1, hn, hm, fun h => (by cases h), fun a ha => ?_⟩
    injection ha with ha
    subst ha
    refine ⟨g, 0, cur, rfl, hb, hg, by omega, fun j u hu => ?_⟩
    rw [← ht, List.getElem?_take] at hu
    split at hu
    · simpa using hu
    · cases hu
theorem cell {g off : Nat} (h : Row w base e size (some ⟨g, off, none⟩) n c xs) {j : Nat} {u : Value} (hu : xs[j]? = some u) : w.cell? ⟨g, off + j, none⟩ = some u := by
  obtain ⟨g', off', cur, e1, _, hk, _, hc⟩ := h.at_ _ rfl
  injection e1 with h1 h2
  subst h1 h2
  rw [hk.cell, hc j u hu]
theorem frozen {g off : Nat} (h : Row w base e size (some ⟨g, off, none⟩) n c xs) (i : Nat) : w.frozen? ⟨g, i, none⟩ = false := by
  obtain ⟨g', off', cur, e1, _, hk, _, _⟩ := h.at_ _ rfl
  injection e1 with h1 h2
  subst h1 h2
  exact hk.frozen i
theorem addr (h : Row w base e size A n c xs) (hn : 0 < n) : ∃ g off, A = some ⟨g, off, none⟩ ∧ base ≤ g ∧ g < w.heap.size := by
  rcases A with _ | a
  · have := (h.nil rfl).1; omega
  · obtain ⟨g, off, cur, e1, hb, hk, _⟩ := h.at_ a rfl
    exact ⟨g, off, by rw [e1], hb, hk.lt⟩
theorem rd (h : Row w base e size A n c xs) : Rd w (fun b => ablk A = some b) size A n xs := by
  refine ⟨h.len, fun hn => ?_⟩
  have hn' : 0 < n := Nat.pos_of_mul_pos_right hn
  obtain ⟨g, off, rfl, hb, hlt⟩ := h.addr hn'
  exact ⟨g, off, rfl, rfl, hlt, fun j u hu => h.cell hu⟩
theorem put {g off : Nat} (h : Row w base e size (some ⟨g, off, none⟩) n c xs) (j : Nat) (u : Value) : Row (w.setCell ⟨g, off + j, none⟩ u) base e size (some ⟨g, off, none⟩) n c (xs.set j u) := by
  obtain ⟨g', off', cur, e1, hb, hk, hs, hc⟩ := h.at_ _ rfl
  injection e1 with h1 h2
  subst h1 h2
  refine ⟨by rw [List.length_set]; exact h.len, h.room, h.cap, fun h => (by cases h), fun a ha => ?_⟩
  injection ha with ha
  subst ha
  refine ⟨g, off, _, rfl, hb, hk.set_ (off + j) u, by simpa using hs, fun i v hv => ?_⟩
  rw [List.getElem?_set] at hv
  split at hv
  · rename_i hij
    subst hij
    split at hv
    · rename_i hjl
      have hlt : off + j < cur.size := by
        have := hc j _ (List.getElem?_eq_getElem hjl)
        exact (Array.getElem?_eq_some_iff.1 this).1
      rw [Array.getElem?_setIfInBounds_self_of_lt hlt]
      exact hv
    · cases hv
  · rename_i hij
    rw [Array.getElem?_setIfInBounds_ne (by omega)]
    exact hc i v hv
/-- s[k:] -/
theorem tail (h : Row w base e size A n c xs) {k : Nat} (hk : k ≤ n) : Row w base e size (if c = k then A else A.map (·.add (k * size))) (n - k) (c - k) (xs.drop (k * size)) := by
  have hr := h.room
  refine ⟨by rw [List.length_drop, h.len, Nat.sub_mul], by omega, by have := h.cap; omega, ?_, ?_⟩
  · intro hA
    split at hA
    · rename_i hck
      have := h.nil hA
      omega
    · rcases A with _ | a
      · have := h.nil rfl; omega
      · cases hA
  · intro a ha
    split at ha
    · rename_i hck
      obtain ⟨g, off, cur, e1, hb, hbk, hs, hc⟩ := h.at_ a ha
      refine ⟨g, off, cur, e1, hb, hbk, by rw [show c - k = 0 by omega]; omega, fun j u hu => ?_⟩
      have hn : n = k := by omega
      rw [List.drop_of_length_le (by rw [h.len, hn]; exact Nat.le_refl _)] at hu
      simp at hu
    · rcases A with _ | a0
      · cases ha
      · obtain ⟨g, off, cur, e1, hb, hbk, hs, hc⟩ := h.at_ a0 rfl
        subst e1
        injection ha with ha
        replace ha : (⟨g, off, none⟩ : Addr).add (k * size) = a := ha
        rw [add_none] at ha
        subst ha
        have hmul : (c - k) * size = c * size - k * size := Nat.sub_mul _ _ _
        have hle : k * size ≤ c * size := Nat.mul_le_mul_right _ (by omega)
        refine ⟨g, off + k * size, cur, rfl, hb, hbk, by omega, fun j u hu => ?_⟩
        rw [Nat.add_assoc]
        exact hc _ u (by rw [← hu, List.getElem?_drop])
/-- s[:k:k] -/
theorem head (h : Row w base e size A n c xs) {k : Nat} (hk : k ≤ n) : Row w base e size A k k (xs.take (k * size)) := by
  have hr := h.room
  have hle : k * size ≤ n * size := Nat.mul_le_mul_right _ hk
  refine ⟨by rw [List.length_take, h.len]; omega, Nat.le_refl _, by have := h.cap; omega, fun hA => by have := h.nil hA; omega, fun a ha => ?_⟩
  obtain ⟨g, off, cur, e1, hb, hbk, hs, hc⟩ := h.at_ a ha
  have : k * size ≤ c * size := Nat.mul_le_mul_right _ (by omega)
  refine ⟨g, off, cur, e1, hb, hbk, by omega, fun j u hu => ?_⟩
  rw [List.getElem?_take] at hu
  split at hu
  · exact hc j u hu
  · cases hu
end Row

theorem blk_setCells {g : Nat} {t : TypeId} : ∀ (vs : List Value) (o : Nat) {w : World} {cs : Array Value}, Blk w g t cs → ∃ cs', Blk (w.setCells g o vs) g t cs' ∧ cs'.size = cs.size
  | [], o, w, cs, h => ⟨cs, h, rfl⟩
  | v :: vs, o, w, cs, h => by
    obtain ⟨cs', h1, h2⟩ := blk_setCells vs (o + 1) (h.set_ o v)
    exact ⟨cs', h1, by rw [h2]; simp⟩
theorem grown_setCells (g : Nat) : ∀ (vs : List Value) (o : Nat) (w : World), w.grownBy (w.setCells g o vs) (some g)
  | [], o, w => World.grownBy.refl w _
  | v :: vs, o, w => by
    have h1 : w.grownBy (w.setCell ⟨g, o, none⟩ v) (some g) := ⟨rfl, rfl, rfl, by simp [World.setCell], fun k _ hk => Below.heap_setCell w ⟨g, o, none⟩ v k (fun e => hk (by rw [e]))⟩
    have h2 := grown_setCells g vs (o + 1) (w.setCell ⟨g, o, none⟩ v)
    exact h1.trans h2

section
variable {P : Program} (w : World)
theorem run_append_row (base : Nat) (t ty e : TypeId) (i : TypeInfo) (z : Value) (size bytes : Nat) (ht : P.underlying t = some (.slice e)) (hi : P.info? e = some i) (hz : i.zero = some z)
    (hsize : i.size = size) (hby : i.bytes = bytes) (hzs : z.cells.size = size) (hsz : 0 < size)
    {A : Option Addr} {n c : Nat} {xs : List Value} (h : Row w base e size A n c xs)
    {Z : Nat → Prop} {B : Option Addr} {m d : Nat} {news : List Value} (hr : Rd w Z size B m news) (h1 : ∀ u ∈ news, u.oneCell' = true)
    (h63 : n + m ≤ maxLen) (hbytes : (n + m) * bytes ≤ 140737488355328) (hbase : base ≤ w.heap.size) :
    ∃ A' c' w', (Builtin.append_ #[t, t] ty #[.slice A n c, .slice B m d]).run P w = .ok (.slice A' (n + m) c') w' ∧ Row w' base e size A' (n + m) c' (xs ++ news) ∧ w.grownBy w' (ablk A) ∧ (∀ g, ablk A' = some g → ablk A = some g ∨ w.heap.size ≤ g) := by
  rcases B with _ | ad
  · have hm : m = 0 := by
      rcases Nat.eq_zero_or_pos m with h0 | h0
      · exact h0
      · obtain ⟨b, off, hh, _⟩ := hr.2 (Nat.mul_pos h0 hsz)
        cases hh
    subst hm
    have hn : news = [] := List.eq_nil_of_length_eq_zero (by simpa using hr.1)
    subst hn
    refine ⟨A, c, w, ?_, by simpa using h, World.grownBy.refl w _, fun g hg => .inl hg⟩
    rcases A with _ | a
    · obtain ⟨rfl, rfl⟩ := h.nil rfl
      simp [Builtin.append_, run_underlying ht, sizeOf, typeInfo, hi, Builtin.lenOf, Builtin.firstCells]
    · have := h.room
      simp [Builtin.append_, run_underlying ht, sizeOf, typeInfo, hi, Builtin.lenOf, Builtin.firstCells, this, storeCells]
  · have hnews : ∀ j u, news[j]? = some u → w.cell? (ad.add j) = some u := by
      intro j u hu
      obtain ⟨b, off, hh, _, _, hc⟩ := hr.atj hu
      injection hh with hh
      subst hh
      rw [add_none]
      exact hc
    rcases A with _ | a
    · obtain ⟨rfl, rfl⟩ := h.nil rfl
      have hx : xs = [] := List.eq_nil_of_length_eq_zero (by simpa using h.len)
      subst hx
      obtain ⟨v', w', hrun, h2, h3, _, h5⟩ := run_append_own_at (P := P) w base t ty e i z size bytes ht hi hz hsize hby hzs hsz (.slice none 0 0) 0 [] (World.ownsRow_nil _ _ _ _) ad m d news hr.1 hnews h1 h63 hbytes hbase
      obtain ⟨A', c', rfl, _, _, hb⟩ := own_form h2
      refine ⟨A', c', w', hrun, Row.of_own h2, h3, ?_⟩
      intro g hg
      rcases A' with _ | a'
      · cases hg
      · injection hg with hg
        rcases h5 with h5 | h5
        · simp [Value.ownBlock] at h5
        · simp [Value.ownBlock] at h5
          exact .inr (by omega)
    · obtain ⟨g, off, cur, e1, hb, hk, hs, hc⟩ := h.at_ a rfl
      subst e1
      by_cases hroom : n + m ≤ c
      · subst hsize
        have hnl : news.length = m * i.size := hr.1
        have hfit : n * i.size + m * i.size ≤ c * i.size := by rw [← Nat.add_mul]; exact Nat.mul_le_mul_right _ hroom
        have hin : ∀ j, j < news.length → (w.cell? ⟨g, off + n * i.size + j, none⟩).isSome = true := by
          intro j hj
          rw [hk.cell, Array.getElem?_eq_getElem (by omega)]
          rfl
        have hrun := run_append_room_cells (P := P) w t ty e i ht hi g off n c ad m d news hnl hnews h1 hroom hin (fun j _ => hk.frozen _)
        refine ⟨_, _, _, hrun, ?_, grown_setCells g news _ w, fun g hg => .inl hg⟩
        obtain ⟨cs', hk', hs'⟩ := blk_setCells news (off + n * i.size) hk
        refine ⟨by rw [List.length_append, h.len, hnl, Nat.add_mul], hroom, h.cap, fun hh => (by cases hh), fun a ha => ?_⟩
        injection ha with ha
        subst ha
        refine ⟨g, off, cs', rfl, hb, hk', by omega, fun j u hu => ?_⟩
        rw [← hk'.cell]
        by_cases hj : j < xs.length
        · rw [List.getElem?_append_left hj] at hu
          rw [World.cell?_setCells_out g news _ w ⟨g, off + j, none⟩ (fun _ _ => .inl (by have := h.len; simp only; omega)), hk.cell]
          exact hc j u hu
        · rw [List.getElem?_append_right (by omega)] at hu
          have hjl := (List.getElem?_eq_some_iff.1 hu)
          obtain ⟨hjl, hju⟩ := hjl
          have hx := World.cell?_setCells_in g news (off + n * i.size) w hin (j - xs.length) hjl
          have hl := h.len
          rw [show off + n * i.size + (j - xs.length) = off + j by omega] at hx
          rw [hx, hju]
      · obtain ⟨v', w', hrun, h2, h3⟩ := run_append_arg_grows (P := P) w t ty e i z size bytes ht hi hz hsize hby hzs hsz ⟨g, off, none⟩ n c xs h.len (fun j u hu => by rw [add_none]; exact h.cell hu) ad m d news hr.1 hnews (by omega) h63 hbytes
        obtain ⟨A', c', rfl, _, _, hb2, hnil, _⟩ := own_form h2
        refine ⟨A', c', w', hrun, (Row.of_own h2).rebase (fun g hg => Nat.le_trans hbase (hb2 g hg).1), ⟨h3.os, h3.tape, h3.output, h3.size, fun k hk _ => h3.block k hk (by simp)⟩, ?_⟩
        exact fun g' hg' => .inr (hb2 g' hg').1
theorem wp_append_row {o : Oper} {a : Act} {K : Act → World → Prop} {Q : Exit → Act → World → Prop} (s x : Operand) (t : TypeId)
    (ho : o.op = .call { callee := .builtin .append, args := #[s, x], argTypes := #[t, t] })
    (base : Nat) (e : TypeId) (i : TypeInfo) (z : Value) (size bytes : Nat) (ht : P.underlying t = some (.slice e)) (hi : P.info? e = some i) (hz : i.zero = some z)
    (hsize : i.size = size) (hby : i.bytes = bytes) (hzs : z.cells.size = size) (hsz : 0 < size)
    {A : Option Addr} {n c : Nat} {xs : List Value} (hs : a.eval s = .slice A n c) (hrow : Row w base e size A n c xs)
    {Z : Nat → Prop} {B : Option Addr} {m d : Nat} {news : List Value} (hx : a.eval x = .slice B m d) (hr : Rd w Z size B m news) (h1 : ∀ u ∈ news, u.oneCell' = true)
    (h63 : n + m ≤ maxLen) (hbytes : (n + m) * bytes ≤ 140737488355328) (hbase : base ≤ w.heap.size)
    (h : ∀ (A' : Option Addr) (c' : Nat) (w' : World), Row w' base e size A' (n + m) c' (xs ++ news) → w.grownBy w' (ablk A) → (∀ g, ablk A' = some g → ablk A = some g ∨ w.heap.size ≤ g) → K (a.put o.dst (.slice A' (n + m) c')) w') : o.wp P a w K Q := by
  obtain ⟨A', c', w', hrun, h2, h3, h4⟩ := run_append_row (P := P) w base t o.type e i z size bytes ht hi hz hsize hby hzs hsz hrow hr h1 h63 hbytes hbase (d := d)
  unfold Oper.wp execOp
  simp only [ho, resolve, invoke, builtin, Sem.run_bind, Sem.run_pure, Result.andThen_ok, List.map_toArray, List.map_cons, List.map_nil, hs, hx, hrun]
  exact h A' c' w' h2 h3 h4

theorem wpList_append_row {ops : Array Oper} {rest : List Oper} {o : Oper} {a : Act} {Q : Exit → Act → World → Prop} (hgd : o.guard = none) (s x : Operand) (t : TypeId)
    (ho : o.op = .call { callee := .builtin .append, args := #[s, x], argTypes := #[t, t] })
    (base : Nat) (e : TypeId) (i : TypeInfo) (z : Value) (size bytes : Nat) (ht : P.underlying t = some (.slice e)) (hi : P.info? e = some i) (hz : i.zero = some z)
    (hsize : i.size = size) (hby : i.bytes = bytes) (hzs : z.cells.size = size) (hsz : 0 < size)
    {A : Option Addr} {n c : Nat} {xs : List Value} (hs : a.eval s = .slice A n c) (hrow : Row w base e size A n c xs)
    {Z : Nat → Prop} {B : Option Addr} {m d : Nat} {news : List Value} (hx : a.eval x = .slice B m d) (hr : Rd w Z size B m news) (h1 : ∀ u ∈ news, u.oneCell' = true)
    (h63 : n + m ≤ maxLen) (hbytes : (n + m) * bytes ≤ 140737488355328) (hbase : base ≤ w.heap.size)
    (h : ∀ (A' : Option Addr) (c' : Nat) (w' : World), Row w' base e size A' (n + m) c' (xs ++ news) → w.grownBy w' (ablk A) → (∀ g, ablk A' = some g → ablk A = some g ∨ w.heap.size ≤ g) → wpList P ops Q rest (a.put o.dst (.slice A' (n + m) c')) w') : wpList P ops Q (o :: rest) a w :=
  wpList_plain hgd fun _ hK => wp_append_row w s x t ho base e i z size bytes ht hi hz hsize hby hzs hsz hs hrow hx hr h1 h63 hbytes hbase fun A' c' w' h2 h3 h4 => hK _ _ (h A' c' w' h2 h3 h4)

theorem step_append_row {ops : Array Oper} {o : Oper} {a : Act} {K : Act → World → Prop} {Q : Exit → Act → World → Prop} {E : Prop} (hgd : o.guard = none) (s x : Operand) (t : TypeId)
    (ho : o.op = .call { callee := .builtin .append, args := #[s, x], argTypes := #[t, t] })
    (base : Nat) (e : TypeId) (i : TypeInfo) (z : Value) (size bytes : Nat) (ht : P.underlying t = some (.slice e)) (hi : P.info? e = some i) (hz : i.zero = some z)
    (hsize : i.size = size) (hby : i.bytes = bytes) (hzs : z.cells.size = size) (hsz : 0 < size)
    {A : Option Addr} {n c : Nat} {xs : List Value} (hs : a.eval s = .slice A n c) (hrow : Row w base e size A n c xs)
    {Z : Nat → Prop} {B : Option Addr} {m d : Nat} {news : List Value} (hx : a.eval x = .slice B m d) (hr : Rd w Z size B m news) (h1 : ∀ u ∈ news, u.oneCell' = true)
    (h63 : n + m ≤ maxLen) (hbytes : (n + m) * bytes ≤ 140737488355328) (hbase : base ≤ w.heap.size)
    (h : ∀ (A' : Option Addr) (c' : Nat) (w' : World), Row w' base e size A' (n + m) c' (xs ++ news) → w.grownBy w' (ablk A) → (∀ g, ablk A' = some g → ablk A = some g ∨ w.heap.size ≤ g) → K (a.put o.dst (.slice A' (n + m) c')) w') :
    if Region.wanted o (yielded ops a.tmps) = true then Oper.wp P o a w K Q else E := by
  have hw : Region.wanted o (yielded ops a.tmps) = true := by simp [Region.wanted, hgd]
  rw [if_pos hw]
  exact wp_append_row w s x t ho base e i z size bytes ht hi hz hsize hby hzs hsz hs hrow hx hr h1 h63 hbytes hbase h
end
end Go.Proofs.Ytkeledbgmpienaa

/- tenderref03: Cut, part, Good, User. -/
namespace Go.Proofs.Ytkeledbgmpienaa
open Go.RowKit

theorem str_info : (Try.prog.info? 9).map (fun i => (i.zero, i.size, i.bytes)) = some (some (.string ⟨#[]⟩), 1, 16) := by kernel_rfl
/-- texts in a row of their own -/
def Sts (w : World) (base : Nat) (A : Option Addr) (c : Nat) (l : List (List UInt8)) : Prop := Row w base 9 1 A l.length c (l.map stv)
theorem Sts.at_ {w : World} {base c i : Nat} {A : Option Addr} {l : List (List UInt8)} (h : Sts w base A c l) (hi : i < l.length) : ∃ g off, A = some ⟨g, off, none⟩ ∧ base ≤ g ∧ g < w.heap.size ∧ w.cell? ⟨g, off + i, none⟩ = some (stv l[i]) ∧ ∀ j, w.frozen? ⟨g, j, none⟩ = false := by
  obtain ⟨g, off, rfl, hb, hlt⟩ := Row.addr h (by omega)
  exact ⟨g, off, rfl, hb, hlt, Row.cell h (by rw [List.getElem?_map, List.getElem?_eq_getElem hi]; rfl), fun j => Row.frozen h j⟩
theorem Sts.get {w : World} {base c i : Nat} {A : Option Addr} {l : List (List UInt8)} {x : List UInt8} (h : Sts w base A c l) (hi : l[i]? = some x) : ∃ g off, A = some ⟨g, off, none⟩ ∧ base ≤ g ∧ g < w.heap.size ∧ w.cell? ⟨g, off + i, none⟩ = some (stv x) ∧ ∀ j, w.frozen? ⟨g, j, none⟩ = false := by
  obtain ⟨hlt, rfl⟩ := List.getElem?_eq_some_iff.1 hi
  exact h.at_ hlt
theorem Sts.below {w w' : World} {base c : Nat} {A : Option Addr} {l : List (List UInt8)} (h : Sts w base A c l) (k : Below w.heap.size w w') : Sts w' base A c l := Row.below h k
theorem Sts.rd {w : World} {base c : Nat} {A : Option Addr} {l : List (List UInt8)} (h : Sts w base A c l) : Rd w (fun b => ablk A = some b) 1 A l.length (l.map stv) := Row.rd h
theorem Sts.lit1 (w : World) {base : Nat} (l : List UInt8) (hb : base ≤ w.heap.size) : Sts (w.alloc (.cells #[stv l] 9)) base (some ⟨w.heap.size, 0, none⟩) 1 [l] :=
  Row.of_own (World.ownsRow_lit (base := base) (e := 9) (size := 1) w #[stv l] 1 hb (by simp [maxLen]) (by simp))
theorem st_one (l : List (List UInt8)) : ∀ u ∈ l.map stv, u.oneCell' = true := by
  intro u hu
  obtain ⟨x, _, rfl⟩ := List.mem_map.1 hu
  rfl
theorem tl_one (s : ByteArray) (i : Nat) (hi : i < s.size) : tl (s.extract i (i + 1)) = [s[i]] := by
  have h : (tl s)[i]? = some s[i] := by rw [List.getElem?_eq_getElem (by rw [tl_len]; exact hi)]; rfl
  have e : tl (s.extract i (i + 1)) = ((tl s).drop i).take 1 := by
    simp only [tl, ByteArray.data_extract, Array.toList_extract, List.extract_eq_take_drop]
    rw [show i + 1 - i = 1 by omega]
  rw [e, List.drop_eq_getElem_cons (by rw [tl_len]; exact hi), List.take_succ_cons, List.take_zero]
  rfl
theorem take_one (s : ByteArray) (i : Nat) (hi : i < s.size) : (tl s).take (i + 1) = (tl s).take i ++ [s[i]] := by
  rw [List.take_succ_eq_append_getElem (by rw [tl_len]; exact hi)]; rfl

theorem cutL_len : ∀ l : List UInt8, (cutL l).length ≤ l.length + 1
  | [] => by simp [cutL]
  | c :: l => by
    have := cutL_len l
    have h0 := cutL_pos l
    rw [cutL]
    split
    · simp; omega
    · simp; omega
theorem under_short_v (s t : ByteArray) : stv (tl s ++ tl t) = .string (s ++ t) := by rw [← under_short]; rfl
theorem cut_mem_len : ∀ l : List UInt8, ∀ x ∈ cutL l, x.length ≤ l.length
  | [], x, h => by simp [cutL] at h; simp [h]
  | c :: l, x, h => by
    have ih := cut_mem_len l
    obtain ⟨y, ys, e⟩ := List.exists_cons_of_ne_nil (cutL_ne l)
    rw [cutL] at h
    rw [e] at ih h
    split at h
    · rcases List.mem_cons.1 h with rfl | h
      · simp
      · have := ih x h; simp; omega
    · rw [List.headD_cons, List.tail_cons] at h
      rcases List.mem_cons.1 h with rfl | h
      · have := ih y (by simp); simp; omega
      · have := ih x (by simp [h]); simp; omega
theorem snoc_set {l : List (List UInt8)} {m : Nat} {x y : List UInt8} (hm : l.length = m + 1) (hx : l[m]? = some x) : l.dropLast ++ [l.getLastD [] ++ y] = l.set m (x ++ y) := by
  obtain ⟨l', z, rfl⟩ : ∃ l' z, l = l' ++ [z] := ⟨l.dropLast, l.getLast (by rintro rfl; simp at hm), (List.dropLast_concat_getLast _).symm⟩
  have hl : l'.length = m := by simpa using hm
  subst hl
  have : z = x := by simpa using hx
  subst this
  simp
set_option maxRecDepth 100000 in
set_option maxHeartbeats 1000000 in
theorem refCut_any (s : ByteArray) (hs : s.size ≤ 1048576) (w : World) :
    Calls Try.prog 57 #[.string s] w fun e w' => ∃ A c l, e = .returned (.slice A l.length c) ∧ Hid (l = cutL (tl s)) ∧ Sts w' w.heap.size A c l ∧ Below w.heap.size w w' := by
  obtain ⟨i0, hi0, hz0, hz1, hz2⟩ := info_parts str_info
  go_enter Try.func57, Try.ntmps57
  go_wp2_with fail
  go_loopw [3, 4] (fun ov iv wr => ∃ (i : Nat) (A : Option Addr) (c : Nat) (l : List (List UInt8)), i ≤ s.size ∧ iv = .int .i64 (i : Int) ∧ ov = .slice A l.length c ∧ Hid (l = cutL ((tl s).take i)) ∧ Sts wr w.heap.size A c l ∧ Below w.heap.size w wr) (fun _ iv _ => s.size - (intOf iv).toNat)
  case atStart => exact ⟨0, _, 1, [[]], Nat.zero_le _, rfl, rfl, by show _ = _; simp [cutL], Sts.lit1 w [] (Nat.le_refl _), (Below.refl _ _).alloc (Nat.le_refl _) _⟩
  case round =>
    obtain ⟨i, A, c, l, hi, rfl, rfl, hl, hst, hb⟩ := hrel
    have hln : l.length ≤ i + 1 := by
      rw [hl.out]
      have := cutL_len ((tl s).take i)
      rw [List.length_take] at this
      omega
    have hl0 : 0 < l.length := by rw [hl.out]; exact cutL_pos _
    by_cases hlt : i < s.size
    · have HT := Lib.hid (take_one s i hlt)
      obtain ⟨m, hm⟩ : ∃ m : Nat, l.length = m + 1 := ⟨l.length - 1, by omega⟩
      obtain ⟨x, hx⟩ : ∃ x, l[m]? = some x := ⟨_, List.getElem?_eq_getElem (by omega)⟩
      obtain ⟨g, off, rfl, hgb, hgl, hcell, hfz⟩ := hst.get hx
      have hsz := hb.size
      have HX := Lib.hid hx
      clear hx
      have HM := Lib.hid hm
      have HC := Lib.hid hcell
      have HF := Lib.hid hfz
      have hm1 : (m : Int) + 1 ≤ (l.length : Int) := by omega
      clear hcell hfz hm
      go_wp2_with (at_builtin; refine wpList_append_row _ rfl (.tmp 16) (.tmp 17) 66 rfl w.heap.size 9 i0 _ 1 16 Try.underlying66 hi0 hz0 hz1 hz2 rfl (by omega) rfl (Row.alloc hst (.cells #[stv []] 9)) rfl (Rd.lit (xs := [stv []]) (n := 1) rfl rfl rfl) (by simp [Value.oneCell', stv]) (by simp only [maxLen]; omega) (by omega) (by simp; omega) ?_; intro A3 c3 w3 hrow3 hg3 hat3)
      · have hc1 : ((s[i].toNat : Int) == 47) = true := by assumption
        have hc : s[i] = 47 := UInt8.toNat_inj.1 (by rw [beq_iff_eq] at hc1; rw [show (47 : UInt8).toNat = 47 from rfl]; omega)
        have HL : Hid (l ++ [[]] = cutL ((tl s).take (i + 1))) := by show _ = _; rw [HT.out, cutL_snoc, if_pos hc, hl.out]
        go_roundw
        case rel =>
          refine ⟨i + 1, A3, c3, l ++ [[]], hlt, by go_num, by simp, HL, ?_, ?_⟩
          · unfold Sts
            rw [List.length_append, List.map_append]
            exact hrow3
          · refine (hb.alloc hsz _).grown hg3 (by simp; omega) (fun k e => ?_)
            injection e with e
            have e' : g = k := e
            omega
        case measure => simp [intOf]; omega
      · have hc1 : ((s[i].toNat : Int) == 47) = false := by assumption
        have hc : ¬ s[i] = 47 := by intro e; rw [e] at hc1; simp at hc1
        have HL : Hid (l.set m (x ++ [s[i]]) = cutL ((tl s).take (i + 1))) := by
          show _ = _
          rw [HT.out, cutL_snoc, if_neg hc, ← hl.out]
          exact (snoc_set HM.out HX.out).symm
        have hcell := HC.out
        unfold stv at hcell
        have hfz := HF.out (off + m)
        have hw1 : IntKind.i64.wrap ((l.length : Int) - 1) = (m : Int) := by rw [show (l.length : Int) - 1 = (m : Int) by have := HM.out; omega]; exact IntWalk.i64_in _ (by omega)
        have hw2 : IntKind.i64.wrap ((i : Int) + 1) = (i : Int) + 1 := IntWalk.i64_in _ (by omega)
        have b1 : (0 : Int) ≤ (m : Int) := by omega
        have b2 : (m : Int) < (l.length : Int) := by omega
        have b3 : (0 : Int) ≤ (i : Int) := by omega
        have b4 : (i : Int) ≤ (i : Int) + 1 := by omega
        have b5 : (i : Int) + 1 ≤ (s.size : Int) := by omega
        have b6 : ((i : Int) + 1).toNat = i + 1 := by omega
        have hxl : x.length ≤ i := by
          have := cut_mem_len _ _ (show x ∈ cutL ((tl s).take i) by rw [← hl.out]; exact List.mem_of_getElem? HX.out)
          rw [List.length_take] at this
          omega
        have b7 : x.length + (min (i + 1) s.size - i) ≤ 9223372036854775807 := by omega
        clear hm1 hxl
        go_region
        all_goals
          go_wp2_with fail
          go_roundw
          case rel =>
            have hrow : Row (wr.drew.setCell ⟨g, off + m, none⟩ (.string (⟨⟨x⟩⟩ ++ s.extract i (i + 1)))) w.heap.size 9 1 (some ⟨g, off, none⟩) l.length c ((l.map stv).set m (.string (⟨⟨x⟩⟩ ++ s.extract i (i + 1)))) := (Row.drew hst).put m _
            refine ⟨i + 1, some ⟨g, off, none⟩, c, l.set m (x ++ [s[i]]), hlt, by go_num, by rw [List.length_set], HL, ?_, ?_⟩
            · unfold Sts
              rw [List.length_set, List.map_set, show stv (x ++ [s[i]]) = .string (⟨⟨x⟩⟩ ++ s.extract i (i + 1)) by rw [← tl_one s i hlt]; exact (under_short_v ⟨⟨x⟩⟩ (s.extract i (i + 1)))]
              exact hrow
            · exact hb.drew.setCell (p := ⟨g, off + m, none⟩) hgb _
          case measure => simp [intOf]; omega
    · go_wp2_with fail
      go_ret
      exact ⟨A, c, l, rfl, by show _ = _; rw [hl.out, List.take_of_length_le (by rw [tl_len]; omega)], hst, hb⟩

set_option maxRecDepth 100000 in
theorem refPart_any (s : ByteArray) (hs : s.size ≤ 9223372036854775807) (w : World) : Calls Try.prog 60 #[.string s] w fun e w' => e = .returned (.bool (partB (tl s))) ∧ w = w' := by
  obtain ⟨a, ha⟩ : ∃ a, s.data.toList = a := ⟨_, rfl⟩
  have HL := Lib.hid (show a.length = s.size by rw [← ha]; exact tl_len s)
  have EA := Lib.hid (show s.toList = a by rw [ByteArray.toList_eq, ha])
  have HA := Lib.hid ha
  rw [show tl s = a from ha]
  clear ha
  go_enter Try.func60, Try.ntmps60
  go_wp2_with fail
  go_loop [3] (fun iv => ∃ i : Nat, i ≤ s.size ∧ iv = .int .i64 (i : Int) ∧ Hid (∀ c ∈ a.take i, c ≠ 0)) (fun iv => s.size - (intOf iv).toNat)
  case atStart => exact ⟨0, Nat.zero_le _, rfl, by show ∀ c ∈ a.take 0, c ≠ 0; simp⟩
  case round =>
    obtain ⟨i, hi, rfl, hz⟩ := hrel
    by_cases hlt : i < s.size
    · have HE : Hid (a[i]? = some s[i]) := by
        show _ = _
        rw [← HA.out, List.getElem?_eq_getElem (show i < s.data.toList.length from by rw [show s.data.toList.length = s.size from tl_len s]; exact hlt)]
        rfl
      go_wp2_with fail
      · have hc : ((s[i].toNat : Int) == 0) = true := by assumption
        go_ret
        refine ⟨ret_b ?_, rfl⟩
        have e : s[i] = 0 := UInt8.toNat_inj.1 (by rw [beq_iff_eq] at hc; rw [show (0 : UInt8).toNat = 0 from rfl]; omega)
        rw [e] at HE
        have hm := List.mem_of_getElem? HE.out
        unfold partB
        simp [hm]
      · have hc : ((s[i].toNat : Int) == 0) = false := by assumption
        go_round
        case rel =>
          refine ⟨i + 1, hlt, by go_num, ?_⟩
          show ∀ c ∈ a.take (i + 1), c ≠ 0
          intro c hcm
          rw [List.take_add_one, HE.out] at hcm
          rcases List.mem_append.1 hcm with h | h
          · exact hz.out c h
          · simp at h
            rw [h]
            intro e
            rw [e] at hc
            simp at hc
        case measure => simp [intOf]; omega
    · have hz2 : Hid (a.contains 0 = false) := by
        show _ = _
        rw [List.contains_eq_mem, decide_eq_false_iff_not]
        intro h
        exact hz.out 0 (by rw [List.take_of_length_le (by rw [HL.out]; omega)]; exact h) rfl
      clear hz
      have HM : Hid (a.isEmpty = decide (s.size < 1)) := by
        show _ = _
        rw [Bool.eq_iff_iff, List.isEmpty_iff, decide_eq_true_eq, ← HL.out]
        constructor
        · rintro rfl; simp
        · intro h; exact List.length_eq_zero_iff.1 (by omega)
      go_wp2_with fail
      all_goals
        go_ret
        refine ⟨ret_b ?_, rfl⟩
        simp only [EA.out] at *
        unfold partB
        rw [HM.out, HL.out, hz2.out]
      · have h1 : a = [46] := by assumption
        rw [h1]; simp
      · have h1 : (1 : Int) ≤ (s.size : Int) := by assumption
        have h2 : (s.size : Int) ≤ 24 := by assumption
        rw [decide_eq_false (by omega : ¬ s.size < 1), decide_eq_true (by omega : s.size ≤ 24)]; simp
      · have h2 : 24 < (s.size : Int) := by assumption
        rw [decide_eq_false (by omega : ¬ s.size ≤ 24)]; simp
      · have h2 : (s.size : Int) < 1 := by assumption
        rw [decide_eq_true (by omega : s.size < 1)]; simp
set_option maxRecDepth 100000 in
set_option maxHeartbeats 1000000 in
theorem refGood_any (s : ByteArray) (hs : s.size ≤ 9223372036854775807) (w : World) : Calls Try.prog 41 #[.string s] w fun e w' => e = .returned (.bool (goodB (tl s))) ∧ Below w.heap.size w w' := by
  by_cases h96 : s.size ≤ 96
  · have HG := Lib.hid (show goodB (tl s) = ((cutL (tl s)).all partB && decide ((cutL (tl s)).length ≤ 6)) by unfold goodB; rw [tl_len]; simp [h96])
    obtain ⟨R, hR⟩ : ∃ R, R = goodB (tl s) := ⟨_, rfl⟩
    rw [← hR]
    have HR := Lib.hid (hR.trans HG.out)
    clear hR HG
    go_enter Try.func41, Try.ntmps41
    go_wp2_with fail
    refine (refCut_any s (by omega) _).mono ?_
    rintro e w1 ⟨A, c, l, rfl, hl, hst, hb⟩
    rw [← hl.out] at HR
    have hll : l.length ≤ 97 := by
      have := cutL_len (tl s)
      rw [hl.out, tl_len] at *
      omega
    have hml : ∀ x ∈ l, x.length ≤ 96 := by
      intro x hx
      rw [hl.out] at hx
      have := cut_mem_len _ _ hx
      rw [tl_len] at this
      omega
    go_wp2_with fail
    go_loopw [4] (fun iv wr => ∃ i : Nat, i ≤ l.length ∧ iv = .int .i64 (i : Int) ∧ Hid ((l.take i).all partB = true) ∧ w1 = wr) (fun iv _ => l.length - (intOf iv).toNat)
    case atStart => exact ⟨0, Nat.zero_le _, rfl, by show _ = _; simp, rfl⟩
    case round =>
      obtain ⟨i, hi, rfl, hz, rfl⟩ := hrel
      by_cases hlt : i < l.length
      · obtain ⟨x, hx⟩ : ∃ x, l[i]? = some x := ⟨_, List.getElem?_eq_getElem hlt⟩
        obtain ⟨g, off, rfl, hgb, hgl, hcell, hfz⟩ := hst.get hx
        have HP := Lib.hid (fun w => refPart_any ⟨⟨x⟩⟩ (by have := hml x (List.mem_of_getElem? hx); show x.length ≤ _; omega) w)
        have HX := Lib.hid hx
        clear hx
        unfold stv at hcell
        go_wp2_with fail
        refine (HP.out _).mono ?_
        rintro e w2 ⟨rfl, rfl⟩
        rw [show tl ⟨⟨x⟩⟩ = x from rfl]
        cases hp : partB x
        · have HPX := Lib.hid hp
          clear hp
          go_wp2_with fail
          go_ret
          refine ⟨ret_b ?_, hb⟩
          rw [HR.out]
          have : l.all partB = false := by
            rw [List.all_eq_false]
            exact ⟨x, List.mem_of_getElem? HX.out, by rw [HPX.out]; simp⟩
          rw [this]; rfl
        · have HPX := Lib.hid hp
          clear hp
          go_wp2_with fail
          go_roundw
          case rel =>
            refine ⟨i + 1, hlt, by go_num, ?_, trivial⟩
            show _ = _
            rw [List.take_add_one, HX.out, List.all_append, hz.out]
            simp [HPX.out]
          case measure => simp [intOf]; omega
      · have HZ := Lib.hid (show l.all partB = true by have := hz.out; rwa [List.take_of_length_le (by omega)] at this)
        clear hz
        go_wp2_with fail
        go_ret
        refine ⟨ret_b ?_, hb⟩
        rw [HR.out, HZ.out]
        rw [Bool.eq_iff_iff]
        simp
        omega
  · have hr : goodB (tl s) = false := by unfold goodB; rw [tl_len]; simp [h96]
    have h1 : 96 < (s.size : Int) := by omega
    rw [hr]
    clear hr
    go_enter Try.func41, Try.ntmps41
    go_wp2_with fail
    go_ret
    exact ⟨rfl, Below.refl _ _⟩
end Go.Proofs.Ytkeledbgmpienaa

/- tenderref03: Under. -/
namespace Go.Proofs.Ytkeledbgmpienaa
open Go.RowKit

theorem refGood_yes (s : ByteArray) (hs : s.size ≤ 9223372036854775807) (h : goodB (tl s) = true) (w : World) : Calls Try.prog 41 #[.string s] w fun e w' => e = .returned (.bool true) ∧ Below w.heap.size w w' := by
  have := refGood_any s hs w
  rwa [h] at this
theorem refGood_no (s : ByteArray) (hs : s.size ≤ 9223372036854775807) (h : goodB (tl s) = false) (w : World) : Calls Try.prog 41 #[.string s] w fun e w' => e = .returned (.bool false) ∧ Below w.heap.size w w' := by
  have := refGood_any s hs w
  rwa [h] at this
/-- by parts -/
theorem preB_parts (p top : List UInt8) : preB p top = (decide ((cutL top).length < (cutL p).length) && ((cutL p).take (cutL top).length == cutL top)) := by
  rw [Bool.eq_iff_iff, preB_iff]
  simp only [Bool.and_eq_true, decide_eq_true_eq, beq_iff_eq]
  constructor
  · rintro ⟨T, hT, e⟩
    rw [e]
    have := List.length_pos_iff.2 hT
    exact ⟨by rw [List.length_append]; omega, List.take_left' rfl⟩
  · rintro ⟨h1, h2⟩
    refine ⟨(cutL p).drop (cutL top).length, fun e => ?_, ?_⟩
    · have := List.drop_eq_nil_iff.1 e
      omega
    · conv => lhs; rw [← List.take_append_drop (cutL top).length (cutL p), h2]

set_option maxRecDepth 100000 in
set_option maxHeartbeats 1000000 in
theorem refUnder_any (p top : ByteArray) (hp : p.size ≤ 9223372036854775807) (ht : top.size ≤ 9223372036854775807) (w : World) : Calls Try.prog 61 #[.string p, .string top] w fun e w' => e = .returned (.bool (underB (tl p) (tl top))) ∧ Below w.heap.size w w' := by
  obtain ⟨M, hM⟩ : ∃ M, M = underB (tl p) (tl top) := ⟨_, rfl⟩
  rw [← hM]
  cases gp : goodB (tl p)
  · have HP := Lib.hid (refGood_no p hp gp)
    have HM : Hid (M = false) := by show _ = _; rw [hM]; unfold underB; rw [gp]; rfl
    clear gp hM
    go_enter Try.func61, Try.ntmps61
    go_wp2_with fail
    refine (HP.out _).mono ?_
    rintro e w1 ⟨rfl, hb1⟩
    go_wp2_with fail
    go_ret
    exact ⟨ret_b HM.out.symm, hb1⟩
  have HP := Lib.hid (refGood_yes p hp gp)
  cases gt : goodB (tl top)
  · have HT := Lib.hid (refGood_no top ht gt)
    have HM : Hid (M = false) := by show _ = _; rw [hM]; unfold underB; rw [gp, gt]; rfl
    clear gp gt hM
    go_enter Try.func61, Try.ntmps61
    go_wp2_with fail
    refine (HP.out _).mono ?_
    rintro e w1 ⟨rfl, hb1⟩
    go_wp2_with fail
    refine (HT.out _).mono ?_
    rintro e w2 ⟨rfl, hb2⟩
    go_wp2_with fail
    go_ret
    exact ⟨ret_b HM.out.symm, bthen hb1 hb2⟩
  have HT := Lib.hid (refGood_yes top ht gt)
  have hp96 := goodB_len gp
  have ht96 := goodB_len gt
  rw [tl_len] at hp96 ht96
  have HM : Hid (M = (decide ((cutL (tl top)).length < (cutL (tl p)).length) && ((cutL (tl p)).take (cutL (tl top)).length == cutL (tl top)))) := by
    show _ = _; rw [hM]; unfold underB; rw [gp, gt, preB_parts]; rfl
  clear gp gt hM
  go_enter Try.func61, Try.ntmps61
  go_wp2_with fail
  refine (HP.out _).mono ?_
  rintro e w1 ⟨rfl, hb1⟩
  go_wp2_with fail
  refine (HT.out _).mono ?_
  rintro e w2 ⟨rfl, hb2⟩
  replace hb2 := bthen hb1 hb2
  go_wp2_with fail
  refine (refCut_any p (by omega) _).mono ?_
  rintro e w3 ⟨A, c, x, rfl, hx, hsx, hb3⟩
  replace hb3 := bthen hb2 hb3
  go_wp2_with fail
  refine (refCut_any top (by omega) _).mono ?_
  rintro e w4 ⟨A', c', y, rfl, hy, hsy, hb4⟩
  replace hsx := hsx.below hb4
  replace hb4 := bthen hb3 hb4
  have hxl : x.length ≤ 97 := by
    have := cutL_len (tl p)
    rw [hx.out]
    rw [tl_len] at this
    omega
  have hyl : y.length ≤ 97 := by
    have := cutL_len (tl top)
    rw [hy.out]
    rw [tl_len] at this
    omega
  have HR2 : Hid (M = (decide (y.length < x.length) && (x.take y.length == y))) := by show _ = _; rw [HM.out, hx.out, hy.out]
  clear HM hx hy hb1 hb2 hb3
  by_cases hle : x.length ≤ y.length
  · go_wp2_with fail
    go_ret
    refine ⟨ret_b ?_, hb4⟩
    rw [HR2.out, decide_eq_false (by omega)]; rfl
  · have hgt : (y.length : Int) < (x.length : Int) := by omega
    go_wp2_with fail
    go_loopw [7] (fun iv wr => ∃ i : Nat, i ≤ y.length ∧ iv = .int .i64 (i : Int) ∧ Hid (x.take i = y.take i) ∧ Qt w4 wr) (fun iv _ => y.length - (intOf iv).toNat)
    case atStart => exact ⟨0, Nat.zero_le _, rfl, rfl, Qt.refl _⟩
    case round =>
      obtain ⟨i, hi, rfl, hz, hq⟩ := hrel
      by_cases hlt : i < y.length
      · obtain ⟨xi, hxi⟩ : ∃ z, x[i]? = some z := ⟨_, List.getElem?_eq_getElem (by omega)⟩
        obtain ⟨yi, hyi⟩ : ∃ z, y[i]? = some z := ⟨_, List.getElem?_eq_getElem hlt⟩
        obtain ⟨g, off, rfl, hgb, hgl, hcell, hfz⟩ := (hsx.below hq.below).get hxi
        obtain ⟨g', off', rfl, hgb', hgl', hcell', hfz'⟩ := (hsy.below hq.below).get hyi
        have HN : Hid (xi = yi → x.take (i + 1) = y.take (i + 1)) := by
          intro e
          rw [List.take_add_one, List.take_add_one, hz.out, hxi, hyi, e]
        have HD : Hid (xi ≠ yi → M = false) := by
          intro hne
          rw [HR2.out, Bool.and_eq_false_iff]
          right
          rw [beq_eq_false_iff_ne]
          intro e
          have h1 : (x.take y.length)[i]? = x[i]? := by rw [List.getElem?_take, if_pos hlt]
          rw [e, hxi, hyi] at h1
          injection h1 with h1
          exact hne h1.symm
        have b1 : (i : Int) < (x.length : Int) := by omega
        clear hxi hyi hz hfz hfz'
        unfold stv at hcell hcell'
        by_cases hxy : xi = yi
        · have hn : (!xi == yi) = false := by simp [hxy]
          have HN2 := Lib.hid (HN.out hxy)
          clear HN HD hxy
          go_wp2_with fail
          go_quiet (fail)
          go_wp2_with fail
          go_roundw
          case rel => exact ⟨i + 1, hlt, by go_num, HN2.out, hq.trans ⟨_, rfl⟩⟩
          case measure => simp [intOf]; omega
        · have hn : (!xi == yi) = true := by simp [hxy]
          have HD2 := Lib.hid (HD.out hxy)
          clear HN HD hxy
          go_wp2_with fail
          go_quiet (fail)
          go_wp2_with fail
          go_ret
          exact ⟨ret_b HD2.out.symm, bthen hb4 (hq.trans ⟨_, rfl⟩).below⟩
      · go_wp2_with fail
        go_ret
        refine ⟨ret_b ?_, bthen hb4 hq.below⟩
        have e : i = y.length := by omega
        have h2 := hz.out
        rw [e, List.take_length] at h2
        rw [HR2.out, h2, decide_eq_true (by omega)]
        simp
end Go.Proofs.Ytkeledbgmpienaa

/- fence, one change: open, moves, result; merge.Result; tenderref26: Open, Moves. -/
namespace Go.Proofs.Ytkeledbgmpienaa
open Go.RowKit Go.WideShapes Go.ChangeShapes Go.ChangeAt

/-- a change as a value -/
abbrev chV (p : ByteArray) (b : Int) (m t : Bool) (k o s l v : Int) : Value :=
  .agg #[.string p, .int .i64 b, .bool m, .bool t, .int .i64 k, .int .i64 o, .int .i64 s, .int .i64 l, .int .i64 v]
def resK (b k o v : Int) : Int := if v = 0 then b else if v = 3 then k else if v = 1 then k else if v = 2 then o else 0
def resS (v : Int) : Bool := decide (v = 0) || decide (v = 3) || decide (v = 1) || decide (v = 2)
def openB (v : Int) : Bool := v == 4 || v == 5
def movesB (v : Int) : Bool := v == 1 || v == 2


set_option maxHeartbeats 400000 in
theorem result_any (p : ByteArray) (b : Int) (m t : Bool) (k o s l v : Int) (w : World) :
    Calls Try.prog 18 #[chV p b m t k o s l v] w fun e w' => e = .returned (.tuple #[.int .i64 (resK b k o v), .bool (resS v)]) ∧ Below w.heap.size w w' := by
  go_enter Try.func18, Try.ntmps18
  go_wp2
  all_goals
    go_ret2
    exact ⟨ret2ib (by grind [resK]) (by grind [resS]), (by repeat (first | exact Below.refl _ _ | refine Below.alloc ?_ (by simp) _ | refine Below.setCell ?_ (by simp) _ | refine Below.drew ?_))⟩


set_option maxHeartbeats 400000 in
theorem resultR_any (p : ByteArray) (b : Int) (m t : Bool) (k o s l v : Int) (w : World) :
    Calls Try.prog 20 #[chV p b m t k o s l v] w fun e w' => e = .returned (.tuple #[.int .i64 (resK b k o v), .bool (resS v)]) ∧ Below w.heap.size w w' := by
  go_enter Try.func20, Try.ntmps20
  go_wp2
  all_goals
    go_ret2
    exact ⟨ret2ib (by grind [resK]) (by grind [resS]), (by repeat (first | exact Below.refl _ _ | refine Below.alloc ?_ (by simp) _ | refine Below.setCell ?_ (by simp) _ | refine Below.drew ?_))⟩


set_option maxHeartbeats 400000 in
theorem movesR_any (p : ByteArray) (b : Int) (m t : Bool) (k o s l v : Int) (w : World) :
    Calls Try.prog 21 #[chV p b m t k o s l v] w fun e w' => e = .returned (.bool (movesB v)) ∧ Below w.heap.size w w' := by
  cases h : (v == 1)
  · go_enter Try.func21, Try.ntmps21
    go_wp2_with fail
    go_ret
    exact ⟨ret_b (by unfold movesB; rw [h]; simp), (by repeat (first | exact Below.refl _ _ | refine Below.alloc ?_ (by simp) _ | refine Below.setCell ?_ (by simp) _ | refine Below.drew ?_))⟩
  · go_enter Try.func21, Try.ntmps21
    go_wp2_with fail
    go_ret
    exact ⟨ret_b (by unfold movesB; rw [h]; simp), (by repeat (first | exact Below.refl _ _ | refine Below.alloc ?_ (by simp) _ | refine Below.setCell ?_ (by simp) _ | refine Below.drew ?_))⟩


end Go.Proofs.Ytkeledbgmpienaa

/- tenderref26: Upper, Lower, Clash. -/
namespace Go.Proofs.Ytkeledbgmpienaa
open Go.RowKit Go.WideShapes Go.ChangeShapes Go.ChangeAt

/-- a change -/
structure CV where
  p : ByteArray
  b : Int
  m : Bool
  t : Bool
  k : Int
  o : Int
  s : Int
  l : Int
  v : Int
def CV.cells (x : CV) : List Value := [.string x.p, .int .i64 x.b, .bool x.m, .bool x.t, .int .i64 x.k, .int .i64 x.o, .int .i64 x.s, .int .i64 x.l, .int .i64 x.v]
abbrev CV.val (x : CV) : Value := chV x.p x.b x.m x.t x.k x.o x.s x.l x.v
def CV.res (x : CV) : Int := resK x.b x.k x.o x.v
def CV.und (q p : CV) : Bool := underB (tl q.p) (tl p.p)
/-- does p give way for q, under it? -/
def upB (p q : CV) : Bool := q.und p && movesB p.v && !(p.res == 2) && (openB q.v || !(q.res == 0))
/-- does q give way for p, above it? -/
def lowB (p q : CV) : Bool := q.und p && movesB q.v && (openB p.v || (!(q.res == 0) && !(p.res == 2)))

theorem cells9 {w : World} {g : Nat} {x : CV} (h : Blk w g 26 x.cells.toArray) :
    w.cell? ⟨g, 0, none⟩ = some (.string x.p) ∧ w.cell? ⟨g, 1, none⟩ = some (.int .i64 x.b) ∧ w.cell? ⟨g, 2, none⟩ = some (.bool x.m) ∧ w.cell? ⟨g, 3, none⟩ = some (.bool x.t) ∧ w.cell? ⟨g, 4, none⟩ = some (.int .i64 x.k) ∧ w.cell? ⟨g, 5, none⟩ = some (.int .i64 x.o) ∧ w.cell? ⟨g, 6, none⟩ = some (.int .i64 x.s) ∧ w.cell? ⟨g, 7, none⟩ = some (.int .i64 x.l) ∧ w.cell? ⟨g, 8, none⟩ = some (.int .i64 x.v) :=
  ⟨h.cell 0, h.cell 1, h.cell 2, h.cell 3, h.cell 4, h.cell 5, h.cell 6, h.cell 7, h.cell 8⟩


end Go.Proofs.Ytkeledbgmpienaa

/- Closing changes: whoever is forced to give way, one after the other, whatever the order, there is one end. Plain lists. -/
namespace Go.Proofs.Ytkeledbgmpienaa
open Go.RowKit

def CV.conf (x : CV) : CV := { x with v := 5 }
theorem CV.conf_conf (x : CV) : x.conf.conf = x.conf := rfl
/-- a gives way among x -/
def Forced (x : List CV) (a : CV) : Prop := (∃ q ∈ x, upB a q = true) ∨ (∃ p ∈ x, lowB p a = true)
def Closed (x : List CV) : Prop := ∀ a ∈ x, ¬ Forced x a
inductive Turns (l : List CV) : List CV → Prop
  | none : Turns l l
  | turn {p s : List CV} {a : CV} : Turns l (p ++ a :: s) → Forced (p ++ a :: s) a → Turns l (p ++ a.conf :: s)
/-- y is x, but for some that have become conflicts -/
def Le (x y : List CV) : Prop := x.length = y.length ∧ ∀ (i : Nat) (a b : CV), x[i]? = some a → y[i]? = some b → b = a ∨ b = a.conf
def Closes (l x : List CV) : Prop := Turns l x ∧ Closed x

theorem upB_movesB {p q : CV} (h : upB p q = true) : movesB p.v = true := by
  unfold upB at h; simp only [Bool.and_eq_true] at h; exact h.1.1.2
theorem lowB_movesB {p q : CV} (h : lowB p q = true) : movesB q.v = true := by
  unfold lowB at h; simp only [Bool.and_eq_true] at h; exact h.1.2
theorem Forced.movesB {x : List CV} {a : CV} (h : Forced x a) : movesB a.v = true := by
  rcases h with ⟨q, _, h⟩ | ⟨p, _, h⟩
  · exact upB_movesB h
  · exact lowB_movesB h
theorem upB_conf {p q : CV} (h : upB p q = true) : upB p q.conf = true := by
  unfold upB CV.und at h ⊢
  simp only [Bool.and_eq_true] at h
  simp [CV.conf, h.1.1.1, h.1.1.2, openB]
  simpa using h.1.2
theorem lowB_conf {p q : CV} (h : lowB p q = true) : lowB p.conf q = true := by
  unfold lowB CV.und at h ⊢
  simp only [Bool.and_eq_true] at h
  simp [CV.conf, h.1.1, h.1.2, openB]

theorem Le.refl (x : List CV) : Le x x := ⟨rfl, fun i a b h1 h2 => .inl (Option.some.inj (h2.symm.trans h1))⟩
theorem Le.trans {x y z : List CV} (h : Le x y) (k : Le y z) : Le x z := ⟨h.1.trans k.1, fun i a c h1 h3 => by
  have hi : i < y.length := by rw [← h.1]; exact (List.getElem?_eq_some_iff.1 h1).1
  have h2 := List.getElem?_eq_getElem hi
  rcases h.2 i a _ h1 h2 with e | e <;> rcases k.2 i _ c h2 h3 with e' | e'
  · exact .inl (e'.trans e)
  · exact .inr (by rw [e', e])
  · exact .inr (e'.trans e)
  · exact .inr (by rw [e', e, CV.conf_conf])⟩
theorem Le.mem {x y : List CV} (h : Le x y) {q : CV} (hq : q ∈ x) : q ∈ y ∨ q.conf ∈ y := by
  obtain ⟨i, hi⟩ := List.mem_iff_getElem?.1 hq
  have hl : i < y.length := by rw [← h.1]; exact (List.getElem?_eq_some_iff.1 hi).1
  rcases h.2 i q _ hi (List.getElem?_eq_getElem hl) with e | e
  · exact .inl (e ▸ List.getElem_mem hl)
  · exact .inr (e ▸ List.getElem_mem hl)
theorem Forced.le {x y : List CV} {a : CV} (h : Forced x a) (k : Le x y) : Forced y a := by
  rcases h with ⟨q, hq, h⟩ | ⟨p, hp, h⟩
  · rcases k.mem hq with hy | hy
    · exact .inl ⟨q, hy, h⟩
    · exact .inl ⟨_, hy, upB_conf h⟩
  · rcases k.mem hp with hy | hy
    · exact .inr ⟨p, hy, h⟩
    · exact .inr ⟨_, hy, lowB_conf h⟩
theorem Le.step (p s : List CV) (a : CV) : Le (p ++ a :: s) (p ++ a.conf :: s) := ⟨by simp, fun i x y h1 h2 => by
  rcases Nat.lt_trichotomy i p.length with h | h | h
  · rw [List.getElem?_append_left h] at h1 h2; exact .inl (Option.some.inj (h2.symm.trans h1))
  · subst h; simp at h1 h2; subst h1 h2; exact .inr rfl
  · rw [List.getElem?_append_right (by omega)] at h1 h2
    rw [show i - p.length = (i - p.length - 1) + 1 by omega] at h1 h2
    simp at h1 h2
    exact .inl (Option.some.inj (h2.symm.trans h1))⟩
theorem Turns.le {l x : List CV} (h : Turns l x) : Le l x := by
  induction h with
  | none => exact Le.refl _
  | turn _ _ ih => exact ih.trans (Le.step _ _ _)
theorem Le.put {p s y : List CV} {a : CV} (h : Le (p ++ a :: s) y) (hy : Closed y) (hf : Forced (p ++ a :: s) a) : Le (p ++ a.conf :: s) y := by
  have hl : p.length < y.length := by rw [← h.1]; simp
  have hb := h.2 p.length a y[p.length] (by simp) (List.getElem?_eq_getElem hl)
  have hf' := hf.le h
  have hne : y[p.length] = a.conf := by
    rcases hb with e | e
    · exact absurd (e ▸ hf') (hy _ (List.getElem_mem hl))
    · exact e
  refine ⟨by rw [← h.1]; simp, fun i x z h1 h2 => ?_⟩
  rcases Nat.lt_trichotomy i p.length with hi | hi | hi
  · exact h.2 i x z (by rw [List.getElem?_append_left hi] at h1 ⊢; exact h1) h2
  · subst hi
    simp at h1
    subst h1
    rw [List.getElem?_eq_getElem hl, hne] at h2
    exact .inl (Option.some.inj h2).symm
  · refine h.2 i x z ?_ h2
    rw [List.getElem?_append_right (by omega)] at h1 ⊢
    rw [show i - p.length = (i - p.length - 1) + 1 by omega] at h1 ⊢
    simpa using h1
theorem Turns.le_closed {l x y : List CV} (h : Turns l x) (hl : Le l y) (hy : Closed y) : Le x y := by
  induction h with
  | none => exact hl
  | turn _ hf ih => exact ih.put hy hf
theorem Le.antisymm {x y : List CV} (h : Le x y) (k : Le y x) : x = y := by
  apply List.ext_getElem? 
  intro i
  rcases Nat.lt_or_ge i x.length with hi | hi
  · have hi2 : i < y.length := by rw [← h.1]; exact hi
    rw [List.getElem?_eq_getElem hi, List.getElem?_eq_getElem hi2]
    rcases h.2 i _ _ (List.getElem?_eq_getElem hi) (List.getElem?_eq_getElem hi2) with e | e
    · rw [e]
    · rcases k.2 i _ _ (List.getElem?_eq_getElem hi2) (List.getElem?_eq_getElem hi) with e' | e'
      · rw [e']
      · rw [e'] at e ⊢
        rw [e, CV.conf_conf, CV.conf_conf]
  · rw [List.getElem?_eq_none hi, List.getElem?_eq_none (by rw [← h.1]; exact hi)]
/-- **one end** -/
theorem Closes.unique {l x y : List CV} (h : Closes l x) (k : Closes l y) : x = y :=
  Le.antisymm (h.1.le_closed k.1.le k.2) (k.1.le_closed h.1.le h.2)
theorem Closes.refl {l : List CV} (h : Closed l) : Closes l l := ⟨.none, h⟩
theorem Forced.perm {x y : List CV} {a : CV} (h : Forced x a) (k : ∀ q, q ∈ x → q ∈ y) : Forced y a := by
  rcases h with ⟨q, hq, h⟩ | ⟨p, hp, h⟩
  · exact .inl ⟨q, k q hq, h⟩
  · exact .inr ⟨p, k p hp, h⟩
theorem Turns.reverse {l x : List CV} (h : Turns l x) : Turns l.reverse x.reverse := by
  induction h with
  | none => exact .none
  | @turn p s a _ hf ih =>
    have e : ∀ b : CV, (p ++ b :: s).reverse = s.reverse ++ b :: p.reverse := fun b => by simp
    rw [e] at ih ⊢
    exact .turn ih (hf.perm (fun q hq => by rw [← e]; exact List.mem_reverse.2 hq))
theorem Closed.reverse {x : List CV} (h : Closed x) : Closed x.reverse := fun a ha hf =>
  h a (List.mem_reverse.1 ha) (hf.perm (fun q hq => List.mem_reverse.1 hq))
theorem Closes.reverse {l x : List CV} (h : Closes l x) : Closes l.reverse x.reverse := ⟨h.1.reverse, h.2.reverse⟩

/-- how many move -/
def mv (x : List CV) : Nat := x.countP (fun a => movesB a.v)
theorem mv_conf (p s : List CV) (a : CV) (h : movesB a.v = true) : mv (p ++ a.conf :: s) < mv (p ++ a :: s) := by
  unfold mv
  rw [List.countP_append, List.countP_append, List.countP_cons, List.countP_cons]
  have h5 : movesB a.conf.v = false := rfl
  simp only [h, h5]
  simp
theorem Le.mv_le : ∀ {x y : List CV}, Le x y → mv y ≤ mv x
  | [], [], _ => Nat.le_refl _
  | [], _ :: _, h => by have := h.1; simp at this
  | _ :: _, [], h => by have := h.1; simp at this
  | a :: x, b :: y, h => by
    have ht : Le x y := ⟨by simpa using h.1, fun i c d h1 h2 => h.2 (i + 1) c d (by simpa using h1) (by simpa using h2)⟩
    have := Le.mv_le ht
    unfold mv at this ⊢
    rw [List.countP_cons, List.countP_cons]
    rcases h.2 0 a b rfl rfl with e | e
    · subst e; omega
    · subst e
      have : movesB a.conf.v = false := rfl
      simp only [this]
      simp
      omega
theorem set_split {x : List CV} {m : Nat} {a b : CV} (h : x[m]? = some a) : ∃ p s, x = p ++ a :: s ∧ x.set m b = p ++ b :: s := by
  obtain ⟨hm, rfl⟩ := List.getElem?_eq_some_iff.1 h
  refine ⟨x.take m, x.drop (m + 1), ?_, ?_⟩
  · rw [List.getElem_cons_drop, List.take_append_drop]
  · rw [List.set_eq_take_append_cons_drop, if_pos hm]
/-- one who is forced becomes a conflict, where it stands -/
theorem Turns.set {l x : List CV} {m : Nat} {a : CV} (h : Turns l x) (ha : x[m]? = some a) (hf : Forced x a) : Turns l (x.set m a.conf) ∧ mv (x.set m a.conf) < mv x := by
  obtain ⟨p, s, e1, e2⟩ := set_split (b := a.conf) ha
  rw [e2, e1]
  rw [e1] at h hf
  exact ⟨.turn h hf, mv_conf p s a hf.movesB⟩
/-- .. or was one by then -/
theorem Turns.set_le {l o x : List CV} {m : Nat} {a b : CV} (h : Turns l x) (hle : Le o x) (ho : o[m]? = some a) (hx : x[m]? = some b) (hf : Forced o a) :
    Turns l (x.set m b.conf) ∧ Le o (x.set m b.conf) ∧ mv (x.set m b.conf) < mv o := by
  rcases hle.2 m a b ho hx with e | e
  · subst e
    obtain ⟨h1, h2⟩ := h.set hx (hf.le hle)
    refine ⟨h1, ?_, Nat.lt_of_lt_of_le h2 hle.mv_le⟩
    obtain ⟨p, s, e1, e2⟩ := set_split (b := b.conf) hx
    rw [e2]
    rw [e1] at hle
    exact hle.trans (Le.step _ _ _)
  · have e3 : x.set m b.conf = x := by
      apply List.ext_getElem?
      intro i
      rw [List.getElem?_set]
      split
      · rename_i hi; subst hi; rw [hx, e]; have := (List.getElem?_eq_some_iff.1 hx).1; simp [this, CV.conf_conf]
      · rfl
    rw [e3]
    refine ⟨h, hle, ?_⟩
    -- b is a conflict where a moves
    obtain ⟨p, s, e1, e2⟩ := set_split (b := a.conf) ho
    have : Le (o.set m a.conf) x := by
      refine ⟨by rw [List.length_set]; exact hle.1, fun i c d h1 h2 => ?_⟩
      rw [List.getElem?_set] at h1
      split at h1
      · rename_i hi
        subst hi
        have := (List.getElem?_eq_some_iff.1 ho).1
        simp [this] at h1
        rw [hx] at h2
        injection h2 with h2
        exact .inl (by rw [← h2, e, ← h1])
      · exact hle.2 i c d h1 h2
    have h3 := this.mv_le
    have h4 := mv_conf p s a hf.movesB
    rw [e2] at h3
    rw [← e1] at h4
    omega
/-- closed, pair by pair -/
theorem closed_of {x : List CV} (h : ∀ (i k : Nat) (a b : CV), x[i]? = some a → x[k]? = some b → upB a b = false ∧ lowB a b = false) : Closed x := by
  intro a ha hf
  obtain ⟨i, hi⟩ := List.mem_iff_getElem?.1 ha
  rcases hf with ⟨q, hq, hu⟩ | ⟨p, hp, hu⟩
  · obtain ⟨k, hk⟩ := List.mem_iff_getElem?.1 hq
    rw [(h i k _ _ hi hk).1] at hu; cases hu
  · obtain ⟨k, hk⟩ := List.mem_iff_getElem?.1 hp
    rw [(h k i _ _ hk hi).2] at hu; cases hu
theorem Closed.pair {x : List CV} (h : Closed x) {a b : CV} (ha : a ∈ x) (hb : b ∈ x) : upB a b = false ∧ lowB a b = false := by
  constructor
  · cases hu : upB a b with
    | false => rfl
    | true => exact absurd (.inl ⟨b, hb, hu⟩) (h a ha)
  · cases hu : lowB a b with
    | false => rfl
    | true => exact absurd (.inr ⟨a, ha, hu⟩) (h b hb)
end Go.Proofs.Ytkeledbgmpienaa

/- == and != of changes. -/
namespace Go.Proofs.Ytkeledbgmpienaa
open Go.RowKit

def sameC (x y : CV) : Bool := x.p.toList == y.p.toList && x.b == y.b && x.m == y.m && x.t == y.t && x.k == y.k && x.o == y.o && x.s == y.s && x.l == y.l && x.v == y.v
theorem sameC_iff (x y : CV) : sameC x y = true ↔ x = y := by
  obtain ⟨p, b, m, t, k, o, s, l, v⟩ := x
  obtain ⟨p', b', m', t', k', o', s', l', v'⟩ := y
  unfold sameC
  have hp : (p.toList == p'.toList) = true ↔ p = p' := by
    rw [beq_iff_eq, ByteArray.toList_eq, ByteArray.toList_eq]
    obtain ⟨⟨x⟩⟩ := p
    obtain ⟨⟨y⟩⟩ := p'
    simp
  simp only [Bool.and_eq_true, hp, beq_iff_eq, CV.mk.injEq]
  constructor
  · rintro ⟨⟨⟨⟨⟨⟨⟨⟨h1, h2⟩, h3⟩, h4⟩, h5⟩, h6⟩, h7⟩, h8⟩, h9⟩; exact ⟨h1, h2, h3, h4, h5, h6, h7, h8, h9⟩
  · rintro ⟨h1, h2, h3, h4, h5, h6, h7, h8, h9⟩; exact ⟨⟨⟨⟨⟨⟨⟨⟨h1, h2⟩, h3⟩, h4⟩, h5⟩, h6⟩, h7⟩, h8⟩, h9⟩
set_option maxRecDepth 100000 in
theorem eqAt_chg (x y : CV) (w : World) : (Op.equalIn 10000 26 x.val y.val).run Try.prog w = .ok (sameC x y) w := by
  unfold sameC CV.val chV
  have hs : Try.prog.stoodInHeld 26 = false := by kernel_rfl
  have hu : Try.prog.underlying 26 = some (.struct (Try.prog.fieldsOf 26)) := by kernel_rfl
  rw [run_equalIn_struct w 9999 26 _ _ hu hs]
  simp [go_sem]
  repeat' split
  all_goals simp [*]
theorem neq_chg (x y : CV) (w : World) : (binOp .neq 26 x.val y.val).run Try.prog w = .ok (.bool (!sameC x y)) w := by
  show (binOp .neq 26 (.agg _) (.agg _)).run Try.prog w = _
  rw [run_neq_struct]
  have h := eqAt_chg x y w
  unfold CV.val chV at h
  rw [h]
  rfl
/-- what is told of two rows -/
def sameCs (l m : List CV) : Bool := l.length == m.length && (l.zip m).all fun x => sameC x.1 x.2
theorem sameCs_iff : ∀ (l m : List CV), sameCs l m = true ↔ l = m
  | [], [] => by simp [sameCs]
  | [], b :: m => by simp [sameCs]
  | a :: l, [] => by simp [sameCs]
  | a :: l, b :: m => by
    have ih := sameCs_iff l m
    unfold sameCs at ih ⊢
    simp only [List.length_cons, List.zip_cons_cons, List.all_cons, Bool.and_eq_true, beq_iff_eq, Nat.add_right_cancel_iff, List.cons.injEq, sameC_iff] at ih ⊢
    rw [← ih]
    constructor
    · rintro ⟨h1, h2, h3⟩; exact ⟨h2, h1, h3⟩
    · rintro ⟨h2, h1, h3⟩; exact ⟨h1, h2, h3⟩
end Go.Proofs.Ytkeledbgmpienaa

/- Flat lists of cells. -/
namespace Go.Proofs.Ytkeledbgmpienaa
open Go.RowKit

theorem flat_get {α : Type} {f : α → List Value} {k : Nat} (hk : ∀ x, (f x).length = k) : ∀ (l : List α) (i j : Nat) (hi : i < l.length), j < k → (l.flatMap f)[i * k + j]? = (f l[i])[j]?
  | x :: l, 0, j, _, hj => by
    rw [List.flatMap_cons, List.getElem?_append_left (by rw [hk]; omega)]
    simp
  | x :: l, i + 1, j, hi, hj => by
    have e : (i + 1) * k + j - (f x).length = i * k + j := by rw [hk, Nat.add_mul]; omega
    rw [List.flatMap_cons, List.getElem?_append_right (by rw [hk, Nat.add_mul]; omega), e, flat_get hk l i j (by simpa using hi) hj]
    simp
theorem flat_len {α : Type} {f : α → List Value} {k : Nat} (hk : ∀ x, (f x).length = k) : ∀ (l : List α), (l.flatMap f).length = l.length * k
  | [] => by simp
  | x :: l => by rw [List.flatMap_cons, List.length_append, hk, flat_len hk l, List.length_cons, Nat.add_mul]; omega

end Go.Proofs.Ytkeledbgmpienaa

/- A region that draws its order, of whose first n operations each yields ONE value in every world of a class (and leaves a world of it): one walk, in the order of the text, serves every order; what stands behind them goes one after the other. No program. -/
namespace Go.Proofs.Ytkeledbgmpienaa
open Go.RowKit

section
variable {P : Program} {ops : Array Oper} {md : Region.Mode} {C : World → Prop}

/-- From here on k operations below n, each of which may come up now and has one value; E holds behind all. -/
inductive Det (P : Program) (md : Region.Mode) (ops : Array Oper) (C : World → Prop) (n : Nat) (E : Array Bool → Act → Prop) : Nat → Array Bool → Act → Prop
  | done {listed : Array Bool} {a : Act} : (∀ j ∈ Region.ready md ops listed, n ≤ j) → E listed a → Det P md ops C n E 0 listed a
  | step {k i : Nat} {listed : Array Bool} {a : Act} {o : Oper} {v : Value} : ops[i]? = some o → i < n → HeadInv md ops n listed → i ∈ Region.ready md ops listed →
      (∀ j oj, ops[j]? = some oj → j ≠ i → listed.getD j true = false → (∀ e ∈ oj.after, Region.binds md e = true → e.on ≠ i) → o.apart ops oj = true) →
      YieldsIn P ops C o v a → Det P md ops C n E k (listed.setIfInBounds i true) (a.put o.dst v) → Det P md ops C n E (k + 1) listed a

/-- while one of the first n is to come none behind them may come up -/
def TailWaits (md : Region.Mode) (ops : Array Oper) (n : Nat) : Prop :=
  ∀ listed, HeadInv md ops n listed → ∀ i, i < n → listed.getD i true = false → ∀ t ∈ Region.ready md ops listed, t < n

theorem Det.any {n : Nat} {E : Array Bool → Act → Prop} (hsel : ∀ (j : Nat) (o : Oper) cs b, ops[j]? = some o → o.op ≠ .select cs b) (hT : TailWaits md ops n) :
    ∀ {k : Nat} {listed : Array Bool} {a : Act}, Det P md ops C n E (k + 1) listed a →
      Region.ready md ops listed ≠ [] ∧ ∀ j ∈ Region.ready md ops listed, ∃ o v, ops[j]? = some o ∧ YieldsIn P ops C o v a ∧ Det P md ops C n E k (listed.setIfInBounds j true) (a.put o.dst v) := by
  intro k
  induction k with
  | zero =>
    intro listed a h
    cases h with
    | @step _ i _ _ o v ho hin inv hr hap hy hd =>
      refine ⟨fun h => (by rw [h] at hr; cases hr), fun j hj => ?_⟩
      by_cases hji : j = i
      · subst hji; exact ⟨o, v, ho, hy, hd⟩
      · cases hd with
        | done hge _ => have h1 := hT _ inv i hin (mem_ready.1 hr).1 j hj; have h2 := hge j (ready_mono hj hji); omega
  | succ k ih =>
    intro listed a h
    cases h with
    | @step _ i _ _ o v ho hin inv hr hap hy hd =>
      refine ⟨fun h => (by rw [h] at hr; cases hr), fun j hj => ?_⟩
      by_cases hji : j = i
      · subst hji; exact ⟨o, v, ho, hy, hd⟩
      · obtain ⟨_, h2⟩ := ih hd
        obtain ⟨oj, u, hoj, hyj, hdj⟩ := h2 j (ready_mono hj hji)
        obtain ⟨hjun, oj', hoj', hall⟩ := mem_ready.1 hj
        obtain rfl : oj' = oj := Option.some.inj (hoj'.symm.trans hoj)
        have hun := (mem_ready.1 hr).1
        have hnot : ∀ e ∈ oj'.after, Region.binds md e = true → e.on ≠ i := fun e he hb heq => by
          have h1 := hall e he hb
          rw [heq, getD_both hun] at h1
          cases h1
        have hapj := hap j oj' hoj hji hjun hnot
        obtain ⟨a1, a2, a3⟩ := Oper.apart_spec hapj
        have hyj' : YieldsIn P ops C oj' u a := hyj.of_same (execOp_put oj' (fun cs b => hsel j oj' cs b hoj) a o.dst v a1).symm (wanted_put oj' a o.dst v a1).symm
        have hyi' : YieldsIn P ops C o v (a.put oj'.dst u) := hy.of_same (execOp_put o (fun cs b => hsel i o cs b ho) a oj'.dst u a3) (wanted_put o a oj'.dst u a3)
        refine ⟨oj', u, hoj, hyj', ?_⟩
        rw [Act.put_comm a v u a2, Array.setIfInBounds_comm _ _ (Ne.symm hji)] at hdj
        refine Det.step ho hin (inv.set hj (hT _ inv i hin hun j hj)) (ready_mono hr (Ne.symm hji)) ?_ hyi' hdj
        intro m om hm hmi hmun hmno
        refine hap m om hm hmi ?_ hmno
        by_cases hmj : j = m
        · subst hmj; exact hjun
        · rw [getD_set_ne true hmj] at hmun; exact hmun

theorem wpAny_of_det {n g : Nat} {E : Array Bool → Act → Prop} {Q : Exit → Act → World → Prop} (hsel : ∀ (j : Nat) (o : Oper) cs b, ops[j]? = some o → o.op ≠ .select cs b) (hT : TailWaits md ops n)
    (hE : ∀ listed a w, E listed a → C w → wpAny P md ops Q g listed a w) :
    ∀ (k : Nat) (listed : Array Bool) (a : Act) (w : World), Det P md ops C n E k listed a → C w → wpAny P md ops Q (k + g) listed a w
  | 0, listed, a, w, h, hw => by
    rw [Nat.zero_add]
    cases h with
    | done _ h => exact hE _ _ _ h hw
  | k + 1, listed, a, w, h, hw => by
    obtain ⟨h1, h2⟩ := Det.any hsel hT h
    rw [show k + 1 + g = (k + g) + 1 by omega]
    refine ⟨fun h0 => absurd h0 h1, fun j hj => ?_⟩
    obtain ⟨o, v, ho, hy, hd⟩ := h2 j hj
    exact wpOp_of_qOp (K := fun a' => Det P md ops C n E k (listed.setIfInBounds j true) a') hw (fun a' w' hw' hd' => wpAny_of_det hsel hT hE k _ a' w' hd' hw') (hy.qOp ho hd)

theorem det_lex {n g : Nat} {Lq : Act → Prop} (hsel : Region.noSelect ops = true) :
    ∀ (l : List Oper) (k : Nat) (listed : Array Bool) (a : Act), (∀ j, j < l.length → l[j]? = ops[k + j]?) → k + l.length = n → HeadInv md ops n listed →
    Region.lexHead md ops g l.length k listed = true → wpQuiet P ops C Lq l a →
    Det P md ops C n (fun listed' a' => Region.seqB md ops g n listed' = true ∧ Lq a') l.length listed a
  | [], k, listed, a, _, hk, _, hB, h => by
    have : k = n := by simpa using hk
    subst this
    have hs : Region.seqB md ops g k listed = true := by simpa [Region.lexHead] using hB
    exact .done (seqB_ready hs) ⟨hs, h⟩
  | o :: l, k, listed, a, hl, hk, inv, hB, h => by
    have h0 : ops[k]? = some o := by simpa using (hl 0 (by simp)).symm
    simp only [List.length_cons, Region.lexHead, Bool.and_eq_true] at hB
    obtain ⟨⟨hr, hf⟩, hB'⟩ := hB
    have hkn : k < n := by simp only [List.length_cons] at hk; omega
    have hr' : k ∈ Region.ready md ops listed := by simpa using hr
    have hst : qOp P ops C k (wpQuiet P ops C Lq l) a := by unfold qOp; simp only [h0]; exact h
    obtain ⟨v, hy, hK⟩ := yieldsIn_of_qOp h0 hst
    exact .step h0 hkn inv hr' (Region.free_spec h0 hf) hy
      (det_lex hsel l (k + 1) _ _ (fun j hj => by have := hl (j + 1) (by simp; omega); simpa [Nat.add_assoc, Nat.add_comm 1 j] using this) (by simp only [List.length_cons] at hk; omega) (inv.set hr' hkn) hB' hK)

/-- a quiet walk that nobody looks into (the walk's head is not to be unfolded: 'refine' would run it) -/
structure ClsW (P : Program) (ops : Array Oper) (C : World → Prop) (Q : Act → Prop) (l : List Oper) (a : Act) : Prop where
  go : wpQuiet P ops C Q l a
/-- what is asked of the region's form: n operations ahead, the rest one behind the other -/
def clsB (ops : Array Oper) (n : Nat) : Bool :=
  Region.noSelect ops && (decide (n = ops.size) || (decide (n < ops.size) && Region.sinkB .any ops n && Region.chainB .any ops n)) && Region.lexHead .any ops (ops.size - n) n 0 (Array.replicate ops.size false)

theorem wp_region_class {id : Nat} {Q : Exit → Act → World → Prop} {a : Act} {w : World} {l : List Oper} (n : Nat) (C : World → Prop) (hm : P.follows .mixedOrders = true) (hB : clsB l.toArray n = true) (hC : C w.drew)
    (h : ClsW P l.toArray C (fun a' => ∀ w', C w' → wpList P l.toArray Q (l.drop n) a' w') (l.take n) a) : (Code.region id l.toArray true).wp P Q a w := by
  replace h := h.go
  simp only [clsB, Bool.and_eq_true, Bool.or_eq_true, decide_eq_true_eq] at hB
  obtain ⟨⟨hsel, hn⟩, hlex⟩ := hB
  have hnl : n ≤ l.length := by
    rcases hn with h | ⟨⟨h, _⟩, _⟩
    · simp at h; omega
    · simp at h; omega
  have hT : TailWaits .any l.toArray n := by
    intro listed inv i hi hun t ht
    rcases hn with h | ⟨⟨h, hs⟩, hc⟩
    · obtain ⟨_, o, ho, _⟩ := mem_ready.1 ht
      have := (Array.getElem?_eq_some_iff.1 ho).1
      omega
    · rcases Nat.lt_or_ge t n with h1 | h1
      · exact h1
      · exact absurd ht (tail_waits hs hc h inv _ i rfl hi hun t h1)
  have htl : (l.take n).length = n := by simp; omega
  have hdl : (l.drop n).length = l.toArray.size - n := by simp
  have inv0 : HeadInv .any l.toArray n (Array.replicate l.toArray.size false) :=
    ⟨by simp, fun j oj _ hl => (by rw [getD_replicate_false] at hl; cases hl), fun t _ ht => getD_in (by simpa using ht) (getD_replicate_false _ _)⟩
  have H := det_lex (P := P) (md := .any) (C := C) (n := n) (g := l.toArray.size - n) hsel (l.take n) 0 _ a (fun j hj => by
    have hj' : j < n := by rw [htl] at hj; exact hj
    simp [hj']) (by simpa using htl) inv0 (by rw [htl]; exact hlex) h
  refine wp_region_any hm ?_
  have := wpAny_of_det (Q := Q) (g := l.toArray.size - n) (Region.noSelect_spec hsel) hT (fun listed a' w' hL hw => by
    have := wpAny_of_seq (md := .any) (Q' := Q) (l.drop n) n listed a' w' (fun j => by simp [List.getElem?_drop]) (by rw [hdl]; exact hL.1) (hL.2 w' hw)
    rwa [hdl] at this) _ _ _ w.drew H hC
  rw [htl, show n + (l.toArray.size - n) = l.toArray.size by omega] at this
  exact this

variable {Q : Act → Prop} {a : Act} {o : Oper} {rest : List Oper}
theorem cls_skip (hw : Region.wanted o (yielded ops a.tmps) = false) (h : ∃ a', a.put o.dst undef = a' ∧ ClsW P ops C Q rest a') : ClsW P ops C Q (o :: rest) a :=
  ⟨wpQuiet_step fun K hK => by
    obtain ⟨a', ha, h⟩ := h
    rw [if_neg (by rw [hw]; exact Bool.false_ne_true), ha]
    exact hK _ h.go⟩
theorem cls_val (hw : Region.wanted o (yielded ops a.tmps) = true) (h : ∃ v, (∀ w, C w → (execOp a.eval o).run P w = .ok (.value v) w) ∧ ∃ a', a.put o.dst v = a' ∧ ClsW P ops C Q rest a') : ClsW P ops C Q (o :: rest) a :=
  ⟨wpQuiet_step fun K hK => by
    obtain ⟨v, hv, a', ha, h⟩ := h
    rw [if_pos hw]
    refine ⟨v, fun w hC => ?_, by rw [ha]; exact hK _ h.go⟩
    unfold Oper.quietAt
    rw [hv w hC]
    exact ⟨rfl, rfl⟩⟩
theorem cls_move (x : Operand) (hw : Region.wanted o (yielded ops a.tmps) = true) (hop : o.op = .move x) (h : ∃ v, a.eval x = v ∧ ∃ a', a.put o.dst v = a' ∧ ClsW P ops C Q rest a') : ClsW P ops C Q (o :: rest) a := by
  obtain ⟨v, hv, h⟩ := h
  exact cls_val hw ⟨v, fun w _ => by rw [BigFrame.run_move x hop, hv], h⟩
theorem cls_assign (x : Operand) (hw : Region.wanted o (yielded ops a.tmps) = true) (hop : o.op = .assign x) (h : ∃ v, a.eval x = v ∧ ∃ a', a.put o.dst v = a' ∧ ClsW P ops C Q rest a') : ClsW P ops C Q (o :: rest) a := by
  obtain ⟨v, hv, h⟩ := h
  exact cls_val hw ⟨v, fun w _ => by rw [BigFrame.run_assign x hop, hv], h⟩
theorem cls_call {v : Value} {f : FuncId} {args : Array Value} (hw : Region.wanted o (yielded ops a.tmps) = true) (hc : ∀ w, C w → Calls P f args w fun e w' => e = .returned v ∧ C w') (hv : ∀ w, (execOp a.eval o).run P w = .ok (.enter f args) w)
    (h : ∃ a', a.put o.dst v = a' ∧ ClsW P ops C Q rest a') : ClsW P ops C Q (o :: rest) a :=
  ⟨wpQuiet_step fun K hK => by
    obtain ⟨a', ha, h⟩ := h
    rw [if_pos hw]
    refine ⟨v, fun w hC => ?_, by rw [ha]; exact hK _ h.go⟩
    unfold Oper.quietAt
    rw [hv w]
    exact ⟨rfl, hc w hC⟩⟩
theorem cls_end (h : Q a) : ClsW P ops C Q [] a := ⟨h⟩
/-- a contract that only makes memory, in the class of worlds above W -/
theorem cls_of {f : FuncId} {args : Array Value} {W w : World} {v : Value} (hC : Below W.heap.size W w) (h : Calls P f args w fun e w' => e = .returned v ∧ Below w.heap.size w w') :
    Calls P f args w fun e w' => e = .returned v ∧ Below W.heap.size W w' :=
  h.mono fun _ _ ⟨he, hb⟩ => ⟨he, bthen hC hb⟩
end
end Go.Proofs.Ytkeledbgmpienaa

/- Rows of changes: reading, putting; slices.Clone; tenderref25.Same; Light. -/
namespace Go.Proofs.Ytkeledbgmpienaa
open Go.RowKit Go.WideShapes Go.ChangeShapes Go.ChangeAt

/-- changes in a slice -/
structure Chs (w : World) (Z : Nat → Prop) (A : Option Addr) (l : List CV) : Prop where
  rd : Rd w Z 9 A l.length (l.flatMap CV.cells)
  p : ∀ o ∈ l, o.p.size ≤ 140737488355328
  len : l.length ≤ 140737488355328
theorem Chs.fr {w w' : World} {Z S : Nat → Prop} {A : Option Addr} {l : List CV} (h : Chs w Z A l) (k : Fr S w w') (hs : ∀ b, b < w.heap.size → Z b → ¬ S b) : Chs w' Z A l :=
  ⟨h.rd.fr k hs, h.p, h.len⟩
theorem Chs.below {w w' : World} {Z : Nat → Prop} {A : Option Addr} {l : List CV} (h : Chs w Z A l) (k : Below w.heap.size w w') : Chs w' Z A l := h.fr (Fr.of_below k (fun _ => False)) (fun _ _ _ h => h)
theorem Chs.mono {w : World} {Z Z' : Nat → Prop} {A : Option Addr} {l : List CV} (h : Chs w Z A l) (hz : ∀ b, b < w.heap.size → Z b → Z' b) : Chs w Z' A l := ⟨h.rd.mono hz, h.p, h.len⟩
/-- the cells of one -/
structure At9 (w : World) (b o : Nat) (x : CV) : Prop where
  c0 : w.cell? ⟨b, o, none⟩ = some (.string x.p)
  c1 : w.cell? ⟨b, o + 1, none⟩ = some (.int .i64 x.b)
  c2 : w.cell? ⟨b, o + 2, none⟩ = some (.bool x.m)
  c3 : w.cell? ⟨b, o + 3, none⟩ = some (.bool x.t)
  c4 : w.cell? ⟨b, o + 4, none⟩ = some (.int .i64 x.k)
  c5 : w.cell? ⟨b, o + 5, none⟩ = some (.int .i64 x.o)
  c6 : w.cell? ⟨b, o + 6, none⟩ = some (.int .i64 x.s)
  c7 : w.cell? ⟨b, o + 7, none⟩ = some (.int .i64 x.l)
  c8 : w.cell? ⟨b, o + 8, none⟩ = some (.int .i64 x.v)
theorem At9.below {w w' : World} {b o : Nat} {x : CV} (h : At9 w b o x) (hb : b < w.heap.size) (k : Below w.heap.size w w') : At9 w' b o x := by
  obtain ⟨a0, a1, a2, a3, a4, a5, a6, a7, a8⟩ := h
  exact ⟨cellAt k hb a0, cellAt k hb a1, cellAt k hb a2, cellAt k hb a3, cellAt k hb a4, cellAt k hb a5, cellAt k hb a6, cellAt k hb a7, cellAt k hb a8⟩
theorem ch_len (x : CV) : x.cells.length = 9 := rfl
theorem ch_at {w : World} {Z : Nat → Prop} {A : Option Addr} {l : List CV} {i : Nat} (h : Rd w Z 9 A l.length (l.flatMap CV.cells)) (hi : i < l.length) :
    ∃ b off, A = some ⟨b, off, none⟩ ∧ Z b ∧ b < w.heap.size ∧ At9 w b (off + i * 9) l[i] := by
  obtain ⟨b, off, hA, hz, hb, hc⟩ := h.2 (by omega)
  have hg : ∀ j, j < 9 → (l.flatMap CV.cells)[i * 9 + j]? = (CV.cells l[i])[j]? := fun j hj => flat_get (k := 9) ch_len l i j hi hj
  refine ⟨b, off, hA, hz, hb, ?_, ?_, ?_, ?_, ?_, ?_, ?_, ?_, ?_⟩
  · exact hc _ _ (hg 0 (by omega))
  all_goals rw [Nat.add_assoc]
  · exact hc _ _ (hg 1 (by omega))
  · exact hc _ _ (hg 2 (by omega))
  · exact hc _ _ (hg 3 (by omega))
  · exact hc _ _ (hg 4 (by omega))
  · exact hc _ _ (hg 5 (by omega))
  · exact hc _ _ (hg 6 (by omega))
  · exact hc _ _ (hg 7 (by omega))
  · exact hc _ _ (hg 8 (by omega))


theorem ch_flat (l : List CV) : (l.flatMap CV.cells).length = l.length * 9 := flat_len (k := 9) ch_len l
theorem ch_one (l : List CV) : ∀ u ∈ l.flatMap CV.cells, u.oneCell' = true := by
  intro u hu
  obtain ⟨x, _, hx⟩ := List.mem_flatMap.1 hu
  simp only [CV.cells, List.mem_cons, List.not_mem_nil, or_false] at hx
  rcases hx with rfl | rfl | rfl | rfl | rfl | rfl | rfl | rfl | rfl <;> rfl
theorem ch_info : (Try.prog.info? 26).map (fun i => (i.zero, i.size, i.bytes)) = some (some (.agg #[.string ⟨#[]⟩, .int .i64 0, .bool false, .bool false, .int .i64 0, .int .i64 0, .int .i64 0, .int .i64 0, .int .i64 0]), 9, 72) := by kernel_rfl
/-- the verdict of one, put in place -/
theorem ch_put : ∀ (l : List CV) (i : Nat) (x : CV), l[i]? = some x → (l.flatMap CV.cells).set (i * 9 + 8) (.int .i64 5) = (l.set i x.conf).flatMap CV.cells
  | a :: l, 0, x, h => by
    simp at h
    subst h
    simp [CV.cells, CV.conf]
  | a :: l, i + 1, x, h => by
    have ih := ch_put l i x (by simpa using h)
    rw [List.flatMap_cons, List.set_cons_succ, List.flatMap_cons, ← ih, List.set_append_right _ _ (by rw [ch_len, Nat.add_mul]; omega), ch_len]
    congr 2
    omega

set_option maxRecDepth 100000 in
set_option maxHeartbeats 1000000 in
theorem cloneC_any (A : Option Addr) (c : Nat) (l : List CV) (Z : Nat → Prop) (w : World) (h : Rd w Z 9 A l.length (l.flatMap CV.cells)) (hlen : l.length ≤ 1000000) :
    Calls Try.prog 22 #[.slice A l.length c] w fun e w' => ∃ (A' : Option Addr) (c' : Nat), e = .returned (.slice A' l.length c') ∧ Row w' w.heap.size 26 9 A' l.length c' (l.flatMap CV.cells) ∧ Below w.heap.size w w' := by
  obtain ⟨i0, hi0, hz0, hz1, hz2⟩ := info_parts ch_info
  rcases A with _ | a
  · have hl : l = [] := by
      rcases l with _ | ⟨x, l⟩
      · rfl
      · obtain ⟨b, off, e, _⟩ := h.2 (by simp); cases e
    subst hl
    have k1 : ∀ w, (binOp .eql 22 (.slice none 0 c) (.slice none 0 0)).run Try.prog w = .ok (.bool true) w := fun w => Lib.run_eql_slice_nil (P := Try.prog) w 22 26 none 0 c 0 0 Try.underlying22
    show Calls Try.prog 22 #[.slice none 0 c] w _
    go_enter Try.func22, Try.ntmps22
    go_wp2_with fail
    go_ret
    exact ⟨none, 0, rfl, Row.none_ _ _ _ _, Below.refl _ _⟩
  · have k1 := fun w => Lib.run_eql_slice_nil (P := Try.prog) w 22 26 (some a) l.length c 0 0 Try.underlying22
    have hch := ch_one l
    generalize hn : l.length = n at *
    generalize l.flatMap CV.cells = xs at *
    clear hn
    have hr := h.alloc (.cells #[] 26)
    have hrow : Row (w.alloc (.cells #[] 26)) w.heap.size 26 9 (some ⟨w.heap.size, 0, none⟩) 0 0 [] :=
      ⟨by simp, Nat.le_refl _, by simp [maxLen], fun h => (by cases h), fun a ha => by
        injection ha with ha
        subst ha
        exact ⟨w.heap.size, 0, _, rfl, Nat.le_refl _, Blk.new w _ _, by simp, by simp⟩⟩
    have HR := Lib.hid hr
    have HW := Lib.hid hrow
    have HC := Lib.hid hch
    clear hr hrow hch h
    go_enter Try.func22, Try.ntmps22
    go_wp2_with (at_builtin; refine wpList_append_row _ rfl (.tmp 5) (.tmp 6) 22 rfl w.heap.size 26 i0 _ 9 72 Try.underlying22 hi0 hz0 hz1 hz2 rfl (by omega) rfl HW.out rfl HR.out HC.out (by simp only [maxLen]; omega) (by omega) (by simp) ?_; intro A' c' w1 h1 h2 h3; rw [List.nil_append, Nat.zero_add] at h1)
    have hb : Below w.heap.size w w1 := by
      have hf : Fr (fun k => k = w.heap.size) (w.alloc (.cells #[] 26)) w1 := Fr.of_grown h2 (fun k hk e => by simp [ablk] at e; omega)
      exact ((Below.refl _ _).alloc (Nat.le_refl _) _).trans (hf.below (by simp) (fun k hk e => by omega))
    go_ret
    exact ⟨A', c', by simp, h1, hb⟩

set_option maxRecDepth 100000 in
set_option maxHeartbeats 1000000 in
theorem sameR_any (A A' : Option Addr) (c c' : Nat) (l m : List CV) (Z Z' : Nat → Prop) (w : World) (h : Chs w Z A l) (h' : Chs w Z' A' m) :
    Calls Try.prog 9 #[.slice A l.length c, .slice A' m.length c'] w fun e w' => e = .returned (.bool (sameCs l m)) ∧ Below w.heap.size w w' := by
  obtain ⟨M, hM⟩ : ∃ M, M = sameCs l m := ⟨_, rfl⟩
  rw [← hM]
  have HM := Lib.hid hM
  have hl1 := h.len
  have hl2 := h'.len
  by_cases hne : l.length = m.length
  · have HE := Lib.hid hne
    rw [← hne]
    clear hl2
    go_enter Try.func9, Try.ntmps9
    go_wp2_with fail
    go_loopw [5] (fun iv wr => ∃ i : Nat, i ≤ l.length ∧ iv = .int .i64 (i : Int) ∧ Hid (∀ (j : Nat) (a b : CV), j < i → l[j]? = some a → m[j]? = some b → sameC a b = true) ∧ Below w.heap.size w wr) (fun iv _ => l.length - (intOf iv).toNat)
    case atStart => exact ⟨0, Nat.zero_le _, rfl, fun j a b hj => absurd hj (Nat.not_lt_zero _), Below.refl _ _⟩
    case round =>
      obtain ⟨i, hi, rfl, hd, hb⟩ := hrel
      by_cases hlt : i < l.length
      · obtain ⟨b, off, rfl, hz, hbb, at1⟩ := ch_at (h.rd.below hb) hlt
        obtain ⟨b', off', rfl, hz', hbb', at2⟩ := ch_at (h'.rd.below hb) (by rw [← HE.out]; exact hlt)
        have hx : l[i]? = some l[i] := List.getElem?_eq_getElem hlt
        have hy : m[i]? = some m[i] := List.getElem?_eq_getElem (by rw [← HE.out]; exact hlt)
        have HX := Lib.hid hx
        have HY := Lib.hid hy
        clear hx hy
        generalize l[i] = x at *
        generalize m[i] = y at *
        have kn := fun w => neq_chg x y w
        have hS : Hid (sameC x y = false → M = false) := fun e => by
          rw [HM.out]
          cases hh : sameCs l m with
          | false => rfl
          | true =>
            have := (sameCs_iff l m).1 hh
            subst this
            have hxy := HX.out.symm.trans HY.out
            injection hxy with hxy
            rw [(sameC_iff x y).2 hxy] at e
            cases e
        have hT : Hid (sameC x y = true → ∀ (j : Nat) (a b : CV), j < i + 1 → l[j]? = some a → m[j]? = some b → sameC a b = true) := fun e j a b hj ha hb => by
          rcases Nat.lt_or_ge j i with h | h
          · exact hd.out j a b h ha hb
          · obtain rfl : j = i := by omega
            rw [HX.out] at ha
            rw [HY.out] at hb
            injection ha with ha
            injection hb with hb
            rw [← ha, ← hb]
            exact e
        generalize sameC x y = S at *
        clear hd
        have hw1 : Below w.heap.size w wr := hb
        cases S
        · have HM2 : Hid (M = false) := hS.out rfl
          clear hS hT
          go_wp2_with fail
          refine wp_region_class 9 (fun w' => Below wr.heap.size wr w') (by kernel_rfl) (by kernel_rfl) (Below.refl _ _).drew ?_
          simp only [List.take_succ_cons, List.take_zero, List.drop_succ_cons, List.drop_zero]
          refine cls_move _ (by kernel_rfl) rfl ⟨_, (by ((try simp [go_sem]); (try rfl); done)), _, (by (simp only [Act.put, List.setIfInBounds_toArray, List.set_cons_zero, List.set_cons_succ]; rfl)), ?_⟩
          refine cls_move _ (by kernel_rfl) rfl ⟨_, (by ((try simp [go_sem]); (try rfl); done)), _, (by (simp only [Act.put, List.setIfInBounds_toArray, List.set_cons_zero, List.set_cons_succ]; rfl)), ?_⟩
          refine cls_val (by kernel_rfl) ⟨_, (by (intro w' hC; clear hC; (try go_simp); (try with_reducible rfl); done)), _, (by (simp only [Act.put, List.setIfInBounds_toArray, List.set_cons_zero, List.set_cons_succ]; rfl)), ?_⟩
          refine cls_val (by kernel_rfl) ⟨_, (by (intro w' hC; (obtain ⟨a0, a1, a2, a3, a4, a5, a6, a7, a8⟩ := at1.below hbb hC); clear hC; (try go_simp); (try with_reducible rfl); done)), _, (by (simp only [Act.put, List.setIfInBounds_toArray, List.set_cons_zero, List.set_cons_succ]; rfl)), ?_⟩
          refine cls_move _ (by kernel_rfl) rfl ⟨_, (by ((try simp [go_sem]); (try rfl); done)), _, (by (simp only [Act.put, List.setIfInBounds_toArray, List.set_cons_zero, List.set_cons_succ]; rfl)), ?_⟩
          refine cls_move _ (by kernel_rfl) rfl ⟨_, (by ((try simp [go_sem]); (try rfl); done)), _, (by (simp only [Act.put, List.setIfInBounds_toArray, List.set_cons_zero, List.set_cons_succ]; rfl)), ?_⟩
          refine cls_val (by kernel_rfl) ⟨_, (by (intro w' hC; clear hC; (try go_simp); (try with_reducible rfl); done)), _, (by (simp only [Act.put, List.setIfInBounds_toArray, List.set_cons_zero, List.set_cons_succ]; rfl)), ?_⟩
          refine cls_val (by kernel_rfl) ⟨_, (by (intro w' hC; (obtain ⟨c0, c1, c2, c3, c4, c5, c6, c7, c8⟩ := at2.below hbb' hC); clear hC; (try go_simp); (try with_reducible rfl); done)), _, (by (simp only [Act.put, List.setIfInBounds_toArray, List.set_cons_zero, List.set_cons_succ]; rfl)), ?_⟩
          refine cls_val (by kernel_rfl) ⟨_, (by (intro w' hC; clear hC; (try go_simp); (try with_reducible rfl); done)), _, (by (simp only [Act.put, List.setIfInBounds_toArray, List.set_cons_zero, List.set_cons_succ]; rfl)), ?_⟩
          refine cls_end ?_
          intro w2 hb2
          go_wp2_with fail
          go_ret
          exact ⟨ret_b HM2.out.symm, hb.trans (hb2.mono hb.size)⟩
        · have HT := Lib.hid (hT.out rfl)
          clear hS hT
          go_wp2_with fail
          refine wp_region_class 9 (fun w' => Below wr.heap.size wr w') (by kernel_rfl) (by kernel_rfl) (Below.refl _ _).drew ?_
          simp only [List.take_succ_cons, List.take_zero, List.drop_succ_cons, List.drop_zero]
          refine cls_move _ (by kernel_rfl) rfl ⟨_, (by ((try simp [go_sem]); (try rfl); done)), _, (by (simp only [Act.put, List.setIfInBounds_toArray, List.set_cons_zero, List.set_cons_succ]; rfl)), ?_⟩
          refine cls_move _ (by kernel_rfl) rfl ⟨_, (by ((try simp [go_sem]); (try rfl); done)), _, (by (simp only [Act.put, List.setIfInBounds_toArray, List.set_cons_zero, List.set_cons_succ]; rfl)), ?_⟩
          refine cls_val (by kernel_rfl) ⟨_, (by (intro w' hC; clear hC; (try go_simp); (try with_reducible rfl); done)), _, (by (simp only [Act.put, List.setIfInBounds_toArray, List.set_cons_zero, List.set_cons_succ]; rfl)), ?_⟩
          refine cls_val (by kernel_rfl) ⟨_, (by (intro w' hC; (obtain ⟨a0, a1, a2, a3, a4, a5, a6, a7, a8⟩ := at1.below hbb hC); clear hC; (try go_simp); (try with_reducible rfl); done)), _, (by (simp only [Act.put, List.setIfInBounds_toArray, List.set_cons_zero, List.set_cons_succ]; rfl)), ?_⟩
          refine cls_move _ (by kernel_rfl) rfl ⟨_, (by ((try simp [go_sem]); (try rfl); done)), _, (by (simp only [Act.put, List.setIfInBounds_toArray, List.set_cons_zero, List.set_cons_succ]; rfl)), ?_⟩
          refine cls_move _ (by kernel_rfl) rfl ⟨_, (by ((try simp [go_sem]); (try rfl); done)), _, (by (simp only [Act.put, List.setIfInBounds_toArray, List.set_cons_zero, List.set_cons_succ]; rfl)), ?_⟩
          refine cls_val (by kernel_rfl) ⟨_, (by (intro w' hC; clear hC; (try go_simp); (try with_reducible rfl); done)), _, (by (simp only [Act.put, List.setIfInBounds_toArray, List.set_cons_zero, List.set_cons_succ]; rfl)), ?_⟩
          refine cls_val (by kernel_rfl) ⟨_, (by (intro w' hC; (obtain ⟨c0, c1, c2, c3, c4, c5, c6, c7, c8⟩ := at2.below hbb' hC); clear hC; (try go_simp); (try with_reducible rfl); done)), _, (by (simp only [Act.put, List.setIfInBounds_toArray, List.set_cons_zero, List.set_cons_succ]; rfl)), ?_⟩
          refine cls_val (by kernel_rfl) ⟨_, (by (intro w' hC; clear hC; (try go_simp); (try with_reducible rfl); done)), _, (by (simp only [Act.put, List.setIfInBounds_toArray, List.set_cons_zero, List.set_cons_succ]; rfl)), ?_⟩
          refine cls_end ?_
          intro w2 hb2
          go_wp2_with fail
          go_roundw
          case rel => exact ⟨i + 1, hlt, by go_num, HT.out, hb.trans (hb2.mono hb.size)⟩
          case measure => simp [intOf]; omega
      · have e : i = l.length := by omega
        subst e
        go_wp2_with fail
        go_ret
        refine ⟨ret_b ?_, hb⟩
        rw [HM.out]
        symm
        rw [sameCs_iff]
        apply List.ext_getElem HE.out
        intro j h1 h2
        exact (sameC_iff _ _).1 (hd.out j _ _ h1 (List.getElem?_eq_getElem h1) (List.getElem?_eq_getElem h2))
  · have hF : M = false := by
      rw [hM]
      unfold sameCs
      simp [hne]
    have hne2 : ((l.length : Int) != (m.length : Int)) = true := by simp; omega
    subst hF
    clear hM hne
    go_enter Try.func9, Try.ntmps9
    go_wp2_with fail
    go_ret
    exact ⟨rfl, Below.refl _ _⟩
end Go.Proofs.Ytkeledbgmpienaa
