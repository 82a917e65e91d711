/- A row of a call's own at any offset: cells, stores, tails, append. No function of the program. -/
import Derived.Test.YtdnljmncdbcgeaaGreatA03
import Derived.ArgAppend
import Derived.Deep.RegionHeld3
import Derived.Lib.BitFns
import Derived.Deep.RegionLaw
import Derived.Outline
import Derived.IntWalk

namespace Go.Proofs.YtdnljmncdbcgeaaGreat
open Go.RowKit

/-- A is n elements of so many cells, with room for c, in a block of its own (element type e) at or beyond base. -/
structure Row (w : World) (base : Nat) (e : TypeId) (size : Nat) (A : Option Addr) (n c : Nat) (xs : List Value) : Prop where
  len : xs.length = n * size
  room : n ≤ c
  cap : c ≤ maxLen
  nil : A = none → n = 0 ∧ c = 0
  at_ : ∀ a, A = some a → ∃ g off cur, a = ⟨g, off, none⟩ ∧ base ≤ g ∧ Blk w g e cur ∧ off + c * size ≤ cur.size ∧ ∀ j u, xs[j]? = some u → cur[off + j]? = some u

namespace Row
variable {w w' : World} {base size n c : Nat} {e : TypeId} {A : Option Addr} {xs : List Value}
theorem none_ (w : World) (base : Nat) (e : TypeId) (size : Nat) : Row w base e size none 0 0 [] := ⟨by simp, Nat.le_refl _, by simp [maxLen], fun _ => ⟨rfl, rfl⟩, fun a h => by cases h⟩
theorem fr {S : Nat → Prop} (h : Row w base e size A n c xs) (k : Fr S w w') (hs : ∀ g, ablk A = some g → ¬ S g) : Row w' base e size A n c xs :=
  ⟨h.len, h.room, h.cap, h.nil, fun a ha => by
    obtain ⟨g, off, cur, e1, hb, hk, hsz, hc⟩ := h.at_ a ha
    exact ⟨g, off, cur, e1, hb, hk.fr k (hs g (by rw [ha, e1]; rfl)), hsz, hc⟩⟩
theorem below (h : Row w base e size A n c xs) (k : Below w.heap.size w w') : Row w' base e size A n c xs := h.fr (Fr.of_below k (fun _ => False)) (fun _ _ h => h)
theorem alloc (h : Row w base e size A n c xs) (o : Obj) : Row (w.alloc o) base e size A n c xs := h.below ((Below.refl _ _).alloc (Nat.le_refl _) o)
theorem drew (h : Row w base e size A n c xs) : Row w.drew base e size A n c xs := h.below (Below.refl _ _).drew
theorem lt (h : Row w base e size A n c xs) : ∀ g, ablk A = some g → base ≤ g ∧ g < w.heap.size := by
  intro g hg
  rcases A with _ | a
  · cases hg
  · obtain ⟨g', off, cur, e1, hb, hk, _⟩ := h.at_ a rfl
    subst e1
    injection hg with hg
    exact hg ▸ ⟨hb, hk.lt⟩
theorem rebase {base' : Nat} (h : Row w base e size A n c xs) (hb : ∀ g, ablk A = some g → base' ≤ g) : Row w base' e size A n c xs :=
  ⟨h.len, h.room, h.cap, h.nil, fun a ha => by
    obtain ⟨g, off, cur, e1, _, r⟩ := h.at_ a ha
    exact ⟨g, off, cur, e1, hb g (by rw [ha, e1]; rfl), r⟩⟩
theorem ne_blk {g : Nat} {t : TypeId} {cs : Array Value} (h : Row w base e size A n c xs) (hb : Blk w g t cs) (hne : e ≠ t) : ablk A ≠ some g := by
  intro hg
  rcases A with _ | a
  · cases hg
  · obtain ⟨g', off, cur, e1, _, hk, _⟩ := h.at_ a rfl
    subst e1
    injection hg with hg
    have hg' : g' = g := hg
    subst hg'
    exact Blk.ne_ hk hb hne rfl
theorem of_own (h : w.ownsRow base e size (.slice A n c) n xs) : Row w base e size A n c xs := by
  rcases h.2 with ⟨hv, hn⟩ | ⟨g, cap, cur, hv, hb, hg, hn, hm, hs, ht⟩
  · injection hv with h1 h2 h3
    subst h1 h2 h3
    exact ⟨h.1, Nat.le_refl _, by simp [maxLen], fun _ => ⟨rfl, rfl⟩, fun a ha => by cases ha⟩
  · injection hv with h1 h2 h3
    subst h1 h3
    refine ⟨h.1, hn, hm, fun h => (by cases h), fun a ha => ?_⟩
    injection ha with ha
    subst ha
    refine ⟨g, 0, cur, rfl, hb, hg, by omega, fun j u hu => ?_⟩
    rw [← ht, List.getElem?_take] at hu
    split at hu
    · simpa using hu
    · cases hu
theorem cell {g off : Nat} (h : Row w base e size (some ⟨g, off, none⟩) n c xs) {j : Nat} {u : Value} (hu : xs[j]? = some u) : w.cell? ⟨g, off + j, none⟩ = some u := by
  obtain ⟨g', off', cur, e1, _, hk, _, hc⟩ := h.at_ _ rfl
  injection e1 with h1 h2
  subst h1 h2
  rw [hk.cell, hc j u hu]
theorem frozen {g off : Nat} (h : Row w base e size (some ⟨g, off, none⟩) n c xs) (i : Nat) : w.frozen? ⟨g, i, none⟩ = false := by
  obtain ⟨g', off', cur, e1, _, hk, _, _⟩ := h.at_ _ rfl
  injection e1 with h1 h2
  subst h1 h2
  exact hk.frozen i
theorem addr (h : Row w base e size A n c xs) (hn : 0 < n) : ∃ g off, A = some ⟨g, off, none⟩ ∧ base ≤ g ∧ g < w.heap.size := by
  rcases A with _ | a
  · have := (h.nil rfl).1; omega
  · obtain ⟨g, off, cur, e1, hb, hk, _⟩ := h.at_ a rfl
    exact ⟨g, off, by rw [e1], hb, hk.lt⟩
theorem rd (h : Row w base e size A n c xs) : Rd w (fun b => ablk A = some b) size A n xs := by
  refine ⟨h.len, fun hn => ?_⟩
  have hn' : 0 < n := Nat.pos_of_mul_pos_right hn
  obtain ⟨g, off, rfl, hb, hlt⟩ := h.addr hn'
  exact ⟨g, off, rfl, rfl, hlt, fun j u hu => h.cell hu⟩
theorem put {g off : Nat} (h : Row w base e size (some ⟨g, off, none⟩) n c xs) (j : Nat) (u : Value) : Row (w.setCell ⟨g, off + j, none⟩ u) base e size (some ⟨g, off, none⟩) n c (xs.set j u) := by
  obtain ⟨g', off', cur, e1, hb, hk, hs, hc⟩ := h.at_ _ rfl
  injection e1 with h1 h2
  subst h1 h2
  refine ⟨by rw [List.length_set]; exact h.len, h.room, h.cap, fun h => (by cases h), fun a ha => ?_⟩
  injection ha with ha
  subst ha
  refine ⟨g, off, _, rfl, hb, hk.set_ (off + j) u, by simpa using hs, fun i v hv => ?_⟩
  rw [List.getElem?_set] at hv
  split at hv
  · rename_i hij
    subst hij
    split at hv
    · rename_i hjl
      have hlt : off + j < cur.size := by
        have := hc j _ (List.getElem?_eq_getElem hjl)
        exact (Array.getElem?_eq_some_iff.1 this).1
      rw [Array.getElem?_setIfInBounds_self_of_lt hlt]
      exact hv
    · cases hv
  · rename_i hij
    rw [Array.getElem?_setIfInBounds_ne (by omega)]
    exact hc i v hv
/-- s[k:] -/
theorem tail (h : Row w base e size A n c xs) {k : Nat} (hk : k ≤ n) : Row w base e size (if c = k then A else A.map (·.add (k * size))) (n - k) (c - k) (xs.drop (k * size)) := by
  have hr := h.room
  refine ⟨by rw [List.length_drop, h.len, Nat.sub_mul], by omega, by have := h.cap; omega, ?_, ?_⟩
  · intro hA
    split at hA
    · rename_i hck
      have := h.nil hA
      omega
    · rcases A with _ | a
      · have := h.nil rfl; omega
      · cases hA
  · intro a ha
    split at ha
    · rename_i hck
      obtain ⟨g, off, cur, e1, hb, hbk, hs, hc⟩ := h.at_ a ha
      refine ⟨g, off, cur, e1, hb, hbk, by rw [show c - k = 0 by omega]; omega, fun j u hu => ?_⟩
      have hn : n = k := by omega
      rw [List.drop_of_length_le (by rw [h.len, hn]; exact Nat.le_refl _)] at hu
      simp at hu
    · rcases A with _ | a0
      · cases ha
      · obtain ⟨g, off, cur, e1, hb, hbk, hs, hc⟩ := h.at_ a0 rfl
        subst e1
        injection ha with ha
        replace ha : (⟨g, off, none⟩ : Addr).add (k * size) = a := ha
        rw [add_none] at ha
        subst ha
        have hmul : (c - k) * size = c * size - k * size := Nat.sub_mul _ _ _
        have hle : k * size ≤ c * size := Nat.mul_le_mul_right _ (by omega)
        refine ⟨g, off + k * size, cur, rfl, hb, hbk, by omega, fun j u hu => ?_⟩
        rw [Nat.add_assoc]
        exact hc _ u (by rw [← hu, List.getElem?_drop])
/-- s[:k:k] -/
theorem head (h : Row w base e size A n c xs) {k : Nat} (hk : k ≤ n) : Row w base e size A k k (xs.take (k * size)) := by
  have hr := h.room
  have hle : k * size ≤ n * size := Nat.mul_le_mul_right _ hk
  refine ⟨by rw [List.length_take, h.len]; omega, Nat.le_refl _, by have := h.cap; omega, fun hA => by have := h.nil hA; omega, fun a ha => ?_⟩
  obtain ⟨g, off, cur, e1, hb, hbk, hs, hc⟩ := h.at_ a ha
  have : k * size ≤ c * size := Nat.mul_le_mul_right _ (by omega)
  refine ⟨g, off, cur, e1, hb, hbk, by omega, fun j u hu => ?_⟩
  rw [List.getElem?_take] at hu
  split at hu
  · exact hc j u hu
  · cases hu
end Row

theorem blk_setCells {g : Nat} {t : TypeId} : ∀ (vs : List Value) (o : Nat) {w : World} {cs : Array Value}, Blk w g t cs → ∃ cs', Blk (w.setCells g o vs) g t cs' ∧ cs'.size = cs.size
  | [], o, w, cs, h => ⟨cs, h, rfl⟩
  | v :: vs, o, w, cs, h => by
    obtain ⟨cs', h1, h2⟩ := blk_setCells vs (o + 1) (h.set_ o v)
    exact ⟨cs', h1, by rw [h2]; simp⟩
theorem grown_setCells (g : Nat) : ∀ (vs : List Value) (o : Nat) (w : World), w.grownBy (w.setCells g o vs) (some g)
  | [], o, w => World.grownBy.refl w _
  | v :: vs, o, w => by
    have h1 : w.grownBy (w.setCell ⟨g, o, none⟩ v) (some g) := ⟨rfl, rfl, rfl, by simp [World.setCell], fun k _ hk => Below.heap_setCell w ⟨g, o, none⟩ v k (fun e => hk (by rw [e]))⟩
    have h2 := grown_setCells g vs (o + 1) (w.setCell ⟨g, o, none⟩ v)
    exact h1.trans h2

section
variable {P : Program} (w : World)
theorem run_append_row (base : Nat) (t ty e : TypeId) (i : TypeInfo) (z : Value) (size bytes : Nat) (ht : P.underlying t = some (.slice e)) (hi : P.info? e = some i) (hz : i.zero = some z)
    (hsize : i.size = size) (hby : i.bytes = bytes) (hzs : z.cells.size = size) (hsz : 0 < size)
    {A : Option Addr} {n c : Nat} {xs : List Value} (h : Row w base e size A n c xs)
    {Z : Nat → Prop} {B : Option Addr} {m d : Nat} {news : List Value} (hr : Rd w Z size B m news) (h1 : ∀ u ∈ news, u.oneCell' = true)
    (h63 : n + m ≤ maxLen) (hbytes : (n + m) * bytes ≤ 140737488355328) (hbase : base ≤ w.heap.size) :
    ∃ A' c' w', (Builtin.append_ #[t, t] ty #[.slice A n c, .slice B m d]).run P w = .ok (.slice A' (n + m) c') w' ∧ Row w' base e size A' (n + m) c' (xs ++ news) ∧ w.grownBy w' (ablk A) ∧ (∀ g, ablk A' = some g → ablk A = some g ∨ w.heap.size ≤ g) := by
  rcases B with _ | ad
  · have hm : m = 0 := by
      rcases Nat.eq_zero_or_pos m with h0 | h0
      · exact h0
      · obtain ⟨b, off, hh, _⟩ := hr.2 (Nat.mul_pos h0 hsz)
        cases hh
    subst hm
    have hn : news = [] := List.eq_nil_of_length_eq_zero (by simpa using hr.1)
    subst hn
    refine ⟨A, c, w, ?_, by simpa using h, World.grownBy.refl w _, fun g hg => .inl hg⟩
    rcases A with _ | a
    · obtain ⟨rfl, rfl⟩ := h.nil rfl
      simp [Builtin.append_, run_underlying ht, sizeOf, typeInfo, hi, Builtin.lenOf, Builtin.firstCells]
    · have := h.room
      simp [Builtin.append_, run_underlying ht, sizeOf, typeInfo, hi, Builtin.lenOf, Builtin.firstCells, this, storeCells]
  · have hnews : ∀ j u, news[j]? = some u → w.cell? (ad.add j) = some u := by
      intro j u hu
      obtain ⟨b, off, hh, _, _, hc⟩ := hr.atj hu
      injection hh with hh
      subst hh
      rw [add_none]
      exact hc
    rcases A with _ | a
    · obtain ⟨rfl, rfl⟩ := h.nil rfl
      have hx : xs = [] := List.eq_nil_of_length_eq_zero (by simpa using h.len)
      subst hx
      obtain ⟨v', w', hrun, h2, h3, _, h5⟩ := run_append_own_at (P := P) w base t ty e i z size bytes ht hi hz hsize hby hzs hsz (.slice none 0 0) 0 [] (World.ownsRow_nil _ _ _ _) ad m d news hr.1 hnews h1 h63 hbytes hbase
      obtain ⟨A', c', rfl, _, _, hb⟩ := own_form h2
      refine ⟨A', c', w', hrun, Row.of_own h2, h3, ?_⟩
      intro g hg
      rcases A' with _ | a'
      · cases hg
      · injection hg with hg
        rcases h5 with h5 | h5
        · simp [Value.ownBlock] at h5
        · simp [Value.ownBlock] at h5
          exact .inr (by omega)
    · obtain ⟨g, off, cur, e1, hb, hk, hs, hc⟩ := h.at_ a rfl
      subst e1
      by_cases hroom : n + m ≤ c
      · subst hsize
        have hnl : news.length = m * i.size := hr.1
        have hfit : n * i.size + m * i.size ≤ c * i.size := by rw [← Nat.add_mul]; exact Nat.mul_le_mul_right _ hroom
        have hin : ∀ j, j < news.length → (w.cell? ⟨g, off + n * i.size + j, none⟩).isSome = true := by
          intro j hj
          rw [hk.cell, Array.getElem?_eq_getElem (by omega)]
          rfl
        have hrun := run_append_room_cells (P := P) w t ty e i ht hi g off n c ad m d news hnl hnews h1 hroom hin (fun j _ => hk.frozen _)
        refine ⟨_, _, _, hrun, ?_, grown_setCells g news _ w, fun g hg => .inl hg⟩
        obtain ⟨cs', hk', hs'⟩ := blk_setCells news (off + n * i.size) hk
        refine ⟨by rw [List.length_append, h.len, hnl, Nat.add_mul], hroom, h.cap, fun hh => (by cases hh), fun a ha => ?_⟩
        injection ha with ha
        subst ha
        refine ⟨g, off, cs', rfl, hb, hk', by omega, fun j u hu => ?_⟩
        rw [← hk'.cell]
        by_cases hj : j < xs.length
        · rw [List.getElem?_append_left hj] at hu
          rw [World.cell?_setCells_out g news _ w ⟨g, off + j, none⟩ (fun _ _ => .inl (by have := h.len; simp only; omega)), hk.cell]
          exact hc j u hu
        · rw [List.getElem?_append_right (by omega)] at hu
          have hjl := (List.getElem?_eq_some_iff.1 hu)
          obtain ⟨hjl, hju⟩ := hjl
          have hx := World.cell?_setCells_in g news (off + n * i.size) w hin (j - xs.length) hjl
          have hl := h.len
          rw [show off + n * i.size + (j - xs.length) = off + j by omega] at hx
          rw [hx, hju]
      · obtain ⟨v', w', hrun, h2, h3⟩ := run_append_arg_grows (P := P) w t ty e i z size bytes ht hi hz hsize hby hzs hsz ⟨g, off, none⟩ n c xs h.len (fun j u hu => by rw [add_none]; exact h.cell hu) ad m d news hr.1 hnews (by omega) h63 hbytes
        obtain ⟨A', c', rfl, _, _, hb2, hnil, _⟩ := own_form h2
        refine ⟨A', c', w', hrun, (Row.of_own h2).rebase (fun g hg => Nat.le_trans hbase (hb2 g hg).1), ⟨h3.os, h3.tape, h3.output, h3.size, fun k hk _ => h3.block k hk (by simp)⟩, ?_⟩
        exact fun g' hg' => .inr (hb2 g' hg').1
theorem wp_append_row {o : Oper} {a : Act} {K : Act → World → Prop} {Q : Exit → Act → World → Prop} (s x : Operand) (t : TypeId)
    (ho : o.op = .call { callee := .builtin .append, args := #[s, x], argTypes := #[t, t] })
    (base : Nat) (e : TypeId) (i : TypeInfo) (z : Value) (size bytes : Nat) (ht : P.underlying t = some (.slice e)) (hi : P.info? e = some i) (hz : i.zero = some z)
    (hsize : i.size = size) (hby : i.bytes = bytes) (hzs : z.cells.size = size) (hsz : 0 < size)
    {A : Option Addr} {n c : Nat} {xs : List Value} (hs : a.eval s = .slice A n c) (hrow : Row w base e size A n c xs)
    {Z : Nat → Prop} {B : Option Addr} {m d : Nat} {news : List Value} (hx : a.eval x = .slice B m d) (hr : Rd w Z size B m news) (h1 : ∀ u ∈ news, u.oneCell' = true)
    (h63 : n + m ≤ maxLen) (hbytes : (n + m) * bytes ≤ 140737488355328) (hbase : base ≤ w.heap.size)
    (h : ∀ (A' : Option Addr) (c' : Nat) (w' : World), Row w' base e size A' (n + m) c' (xs ++ news) → w.grownBy w' (ablk A) → (∀ g, ablk A' = some g → ablk A = some g ∨ w.heap.size ≤ g) → K (a.put o.dst (.slice A' (n + m) c')) w') : o.wp P a w K Q := by
  obtain ⟨A', c', w', hrun, h2, h3, h4⟩ := run_append_row (P := P) w base t o.type e i z size bytes ht hi hz hsize hby hzs hsz hrow hr h1 h63 hbytes hbase (d := d)
  unfold Oper.wp execOp
  simp only [ho, resolve, invoke, builtin, Sem.run_bind, Sem.run_pure, Result.andThen_ok, List.map_toArray, List.map_cons, List.map_nil, hs, hx, hrun]
  exact h A' c' w' h2 h3 h4

theorem wpList_append_row {ops : Array Oper} {rest : List Oper} {o : Oper} {a : Act} {Q : Exit → Act → World → Prop} (hgd : o.guard = none) (s x : Operand) (t : TypeId)
    (ho : o.op = .call { callee := .builtin .append, args := #[s, x], argTypes := #[t, t] })
    (base : Nat) (e : TypeId) (i : TypeInfo) (z : Value) (size bytes : Nat) (ht : P.underlying t = some (.slice e)) (hi : P.info? e = some i) (hz : i.zero = some z)
    (hsize : i.size = size) (hby : i.bytes = bytes) (hzs : z.cells.size = size) (hsz : 0 < size)
    {A : Option Addr} {n c : Nat} {xs : List Value} (hs : a.eval s = .slice A n c) (hrow : Row w base e size A n c xs)
    {Z : Nat → Prop} {B : Option Addr} {m d : Nat} {news : List Value} (hx : a.eval x = .slice B m d) (hr : Rd w Z size B m news) (h1 : ∀ u ∈ news, u.oneCell' = true)
    (h63 : n + m ≤ maxLen) (hbytes : (n + m) * bytes ≤ 140737488355328) (hbase : base ≤ w.heap.size)
    (h : ∀ (A' : Option Addr) (c' : Nat) (w' : World), Row w' base e size A' (n + m) c' (xs ++ news) → w.grownBy w' (ablk A) → (∀ g, ablk A' = some g → ablk A = some g ∨ w.heap.size ≤ g) → wpList P ops Q rest (a.put o.dst (.slice A' (n + m) c')) w') : wpList P ops Q (o :: rest) a w :=
  wpList_plain hgd fun _ hK => wp_append_row w s x t ho base e i z size bytes ht hi hz hsize hby hzs hsz hs hrow hx hr h1 h63 hbytes hbase fun A' c' w' h2 h3 h4 => hK _ _ (h A' c' w' h2 h3 h4)

theorem step_append_row {ops : Array Oper} {o : Oper} {a : Act} {K : Act → World → Prop} {Q : Exit → Act → World → Prop} {E : Prop} (hgd : o.guard = none) (s x : Operand) (t : TypeId)
    (ho : o.op = .call { callee := .builtin .append, args := #[s, x], argTypes := #[t, t] })
    (base : Nat) (e : TypeId) (i : TypeInfo) (z : Value) (size bytes : Nat) (ht : P.underlying t = some (.slice e)) (hi : P.info? e = some i) (hz : i.zero = some z)
    (hsize : i.size = size) (hby : i.bytes = bytes) (hzs : z.cells.size = size) (hsz : 0 < size)
    {A : Option Addr} {n c : Nat} {xs : List Value} (hs : a.eval s = .slice A n c) (hrow : Row w base e size A n c xs)
    {Z : Nat → Prop} {B : Option Addr} {m d : Nat} {news : List Value} (hx : a.eval x = .slice B m d) (hr : Rd w Z size B m news) (h1 : ∀ u ∈ news, u.oneCell' = true)
    (h63 : n + m ≤ maxLen) (hbytes : (n + m) * bytes ≤ 140737488355328) (hbase : base ≤ w.heap.size)
    (h : ∀ (A' : Option Addr) (c' : Nat) (w' : World), Row w' base e size A' (n + m) c' (xs ++ news) → w.grownBy w' (ablk A) → (∀ g, ablk A' = some g → ablk A = some g ∨ w.heap.size ≤ g) → K (a.put o.dst (.slice A' (n + m) c')) w') :
    if Region.wanted o (yielded ops a.tmps) = true then Oper.wp P o a w K Q else E := by
  have hw : Region.wanted o (yielded ops a.tmps) = true := by simp [Region.wanted, hgd]
  rw [if_pos hw]
  exact wp_append_row w s x t ho base e i z size bytes ht hi hz hsize hby hzs hsz hs hrow hx hr h1 h63 hbytes hbase h
end
end Go.Proofs.YtdnljmncdbcgeaaGreat

/- tenderref03: Cut, part, Good, User. -/
namespace Go.Proofs.YtdnljmncdbcgeaaGreat
open Go.RowKit

theorem str_info : (Tryz.prog.info? 9).map (fun i => (i.zero, i.size, i.bytes)) = some (some (.string ⟨#[]⟩), 1, 16) := by kernel_rfl
/-- texts in a row of their own -/
def Sts (w : World) (base : Nat) (A : Option Addr) (c : Nat) (l : List (List UInt8)) : Prop := Row w base 9 1 A l.length c (l.map stv)
theorem Sts.at_ {w : World} {base c i : Nat} {A : Option Addr} {l : List (List UInt8)} (h : Sts w base A c l) (hi : i < l.length) : ∃ g off, A = some ⟨g, off, none⟩ ∧ base ≤ g ∧ g < w.heap.size ∧ w.cell? ⟨g, off + i, none⟩ = some (stv l[i]) ∧ ∀ j, w.frozen? ⟨g, j, none⟩ = false := by
  obtain ⟨g, off, rfl, hb, hlt⟩ := Row.addr h (by omega)
  exact ⟨g, off, rfl, hb, hlt, Row.cell h (by rw [List.getElem?_map, List.getElem?_eq_getElem hi]; rfl), fun j => Row.frozen h j⟩
theorem Sts.get {w : World} {base c i : Nat} {A : Option Addr} {l : List (List UInt8)} {x : List UInt8} (h : Sts w base A c l) (hi : l[i]? = some x) : ∃ g off, A = some ⟨g, off, none⟩ ∧ base ≤ g ∧ g < w.heap.size ∧ w.cell? ⟨g, off + i, none⟩ = some (stv x) ∧ ∀ j, w.frozen? ⟨g, j, none⟩ = false := by
  obtain ⟨hlt, rfl⟩ := List.getElem?_eq_some_iff.1 hi
  exact h.at_ hlt
theorem Sts.below {w w' : World} {base c : Nat} {A : Option Addr} {l : List (List UInt8)} (h : Sts w base A c l) (k : Below w.heap.size w w') : Sts w' base A c l := Row.below h k
theorem Sts.rd {w : World} {base c : Nat} {A : Option Addr} {l : List (List UInt8)} (h : Sts w base A c l) : Rd w (fun b => ablk A = some b) 1 A l.length (l.map stv) := Row.rd h
theorem Sts.lit1 (w : World) {base : Nat} (l : List UInt8) (hb : base ≤ w.heap.size) : Sts (w.alloc (.cells #[stv l] 9)) base (some ⟨w.heap.size, 0, none⟩) 1 [l] :=
  Row.of_own (World.ownsRow_lit (base := base) (e := 9) (size := 1) w #[stv l] 1 hb (by simp [maxLen]) (by simp))
theorem st_one (l : List (List UInt8)) : ∀ u ∈ l.map stv, u.oneCell' = true := by
  intro u hu
  obtain ⟨x, _, rfl⟩ := List.mem_map.1 hu
  rfl
theorem tl_one (s : ByteArray) (i : Nat) (hi : i < s.size) : tl (s.extract i (i + 1)) = [s[i]] := by
  have h : (tl s)[i]? = some s[i] := by rw [List.getElem?_eq_getElem (by rw [tl_len]; exact hi)]; rfl
  have e : tl (s.extract i (i + 1)) = ((tl s).drop i).take 1 := by
    simp only [tl, ByteArray.data_extract, Array.toList_extract, List.extract_eq_take_drop]
    rw [show i + 1 - i = 1 by omega]
  rw [e, List.drop_eq_getElem_cons (by rw [tl_len]; exact hi), List.take_succ_cons, List.take_zero]
  rfl
theorem take_one (s : ByteArray) (i : Nat) (hi : i < s.size) : (tl s).take (i + 1) = (tl s).take i ++ [s[i]] := by
  rw [List.take_succ_eq_append_getElem (by rw [tl_len]; exact hi)]; rfl

theorem cutL_len : ∀ l : List UInt8, (cutL l).length ≤ l.length + 1
  | [] => by simp [cutL]
  | c :: l => by
    have := cutL_len l
    have h0 := cutL_pos l
    rw [cutL]
    split
    · simp; omega
    · simp; omega
theorem under_short_v (s t : ByteArray) : stv (tl s ++ tl t) = .string (s ++ t) := by rw [← under_short]; rfl
theorem cut_mem_len : ∀ l : List UInt8, ∀ x ∈ cutL l, x.length ≤ l.length
  | [], x, h => by simp [cutL] at h; simp [h]
  | c :: l, x, h => by
    have ih := cut_mem_len l
    obtain ⟨y, ys, e⟩ := List.exists_cons_of_ne_nil (cutL_ne l)
    rw [cutL] at h
    rw [e] at ih h
    split at h
    · rcases List.mem_cons.1 h with rfl | h
      · simp
      · have := ih x h; simp; omega
    · rw [List.headD_cons, List.tail_cons] at h
      rcases List.mem_cons.1 h with rfl | h
      · have := ih y (by simp); simp; omega
      · have := ih x (by simp [h]); simp; omega
theorem snoc_set {l : List (List UInt8)} {m : Nat} {x y : List UInt8} (hm : l.length = m + 1) (hx : l[m]? = some x) : l.dropLast ++ [l.getLastD [] ++ y] = l.set m (x ++ y) := by
  obtain ⟨l', z, rfl⟩ : ∃ l' z, l = l' ++ [z] := ⟨l.dropLast, l.getLast (by rintro rfl; simp at hm), (List.dropLast_concat_getLast _).symm⟩
  have hl : l'.length = m := by simpa using hm
  subst hl
  have : z = x := by simpa using hx
  subst this
  simp
set_option maxRecDepth 100000 in
set_option maxHeartbeats 1000000 in
theorem refCut_any (s : ByteArray) (hs : s.size ≤ 1048576) (w : World) :
    Calls Tryz.prog 118 #[.string s] w fun e w' => ∃ A c l, e = .returned (.slice A l.length c) ∧ Hid (l = cutL (tl s)) ∧ Sts w' w.heap.size A c l ∧ Below w.heap.size w w' := by
  obtain ⟨i0, hi0, hz0, hz1, hz2⟩ := info_parts str_info
  go_enter Tryz.func118, Tryz.ntmps118
  go_wp2_with fail
  go_loopw [3, 4] (fun ov iv wr => ∃ (i : Nat) (A : Option Addr) (c : Nat) (l : List (List UInt8)), i ≤ s.size ∧ iv = .int .i64 (i : Int) ∧ ov = .slice A l.length c ∧ Hid (l = cutL ((tl s).take i)) ∧ Sts wr w.heap.size A c l ∧ Below w.heap.size w wr) (fun _ iv _ => s.size - (intOf iv).toNat)
  case atStart => exact ⟨0, _, 1, [[]], Nat.zero_le _, rfl, rfl, by show _ = _; simp [cutL], Sts.lit1 w [] (Nat.le_refl _), (Below.refl _ _).alloc (Nat.le_refl _) _⟩
  case round =>
    obtain ⟨i, A, c, l, hi, rfl, rfl, hl, hst, hb⟩ := hrel
    have hln : l.length ≤ i + 1 := by
      rw [hl.out]
      have := cutL_len ((tl s).take i)
      rw [List.length_take] at this
      omega
    have hl0 : 0 < l.length := by rw [hl.out]; exact cutL_pos _
    by_cases hlt : i < s.size
    · have HT := Lib.hid (take_one s i hlt)
      obtain ⟨m, hm⟩ : ∃ m : Nat, l.length = m + 1 := ⟨l.length - 1, by omega⟩
      obtain ⟨x, hx⟩ : ∃ x, l[m]? = some x := ⟨_, List.getElem?_eq_getElem (by omega)⟩
      obtain ⟨g, off, rfl, hgb, hgl, hcell, hfz⟩ := hst.get hx
      have hsz := hb.size
      have HX := Lib.hid hx
      clear hx
      have HM := Lib.hid hm
      have HC := Lib.hid hcell
      have HF := Lib.hid hfz
      have hm1 : (m : Int) + 1 ≤ (l.length : Int) := by omega
      clear hcell hfz hm
      go_wp2_with (at_builtin; refine wpList_append_row _ rfl (.tmp 16) (.tmp 17) 54 rfl w.heap.size 9 i0 _ 1 16 Tryz.underlying54 hi0 hz0 hz1 hz2 rfl (by omega) rfl (Row.alloc hst (.cells #[stv []] 9)) rfl (Rd.lit (xs := [stv []]) (n := 1) rfl rfl rfl) (by simp [Value.oneCell', stv]) (by simp only [maxLen]; omega) (by omega) (by simp; omega) ?_; intro A3 c3 w3 hrow3 hg3 hat3)
      · have hc1 : ((s[i].toNat : Int) == 47) = true := by assumption
        have hc : s[i] = 47 := UInt8.toNat_inj.1 (by rw [beq_iff_eq] at hc1; rw [show (47 : UInt8).toNat = 47 from rfl]; omega)
        have HL : Hid (l ++ [[]] = cutL ((tl s).take (i + 1))) := by show _ = _; rw [HT.out, cutL_snoc, if_pos hc, hl.out]
        go_roundw
        case rel =>
          refine ⟨i + 1, A3, c3, l ++ [[]], hlt, by go_num, by simp, HL, ?_, ?_⟩
          · unfold Sts
            rw [List.length_append, List.map_append]
            exact hrow3
          · refine (hb.alloc hsz _).grown hg3 (by simp; omega) (fun k e => ?_)
            injection e with e
            have e' : g = k := e
            omega
        case measure => simp [intOf]; omega
      · have hc1 : ((s[i].toNat : Int) == 47) = false := by assumption
        have hc : ¬ s[i] = 47 := by intro e; rw [e] at hc1; simp at hc1
        have HL : Hid (l.set m (x ++ [s[i]]) = cutL ((tl s).take (i + 1))) := by
          show _ = _
          rw [HT.out, cutL_snoc, if_neg hc, ← hl.out]
          exact (snoc_set HM.out HX.out).symm
        have hcell := HC.out
        unfold stv at hcell
        have hfz := HF.out (off + m)
        have hw1 : IntKind.i64.wrap ((l.length : Int) - 1) = (m : Int) := by rw [show (l.length : Int) - 1 = (m : Int) by have := HM.out; omega]; exact IntWalk.i64_in _ (by omega)
        have hw2 : IntKind.i64.wrap ((i : Int) + 1) = (i : Int) + 1 := IntWalk.i64_in _ (by omega)
        have b1 : (0 : Int) ≤ (m : Int) := by omega
        have b2 : (m : Int) < (l.length : Int) := by omega
        have b3 : (0 : Int) ≤ (i : Int) := by omega
        have b4 : (i : Int) ≤ (i : Int) + 1 := by omega
        have b5 : (i : Int) + 1 ≤ (s.size : Int) := by omega
        have b6 : ((i : Int) + 1).toNat = i + 1 := by omega
        have hxl : x.length ≤ i := by
          have := cut_mem_len _ _ (show x ∈ cutL ((tl s).take i) by rw [← hl.out]; exact List.mem_of_getElem? HX.out)
          rw [List.length_take] at this
          omega
        have b7 : x.length + (min (i + 1) s.size - i) ≤ 9223372036854775807 := by omega
        clear hm1 hxl
        go_region
        all_goals
          go_wp2_with fail
          go_roundw
          case rel =>
            have hrow : Row (wr.drew.setCell ⟨g, off + m, none⟩ (.string (⟨⟨x⟩⟩ ++ s.extract i (i + 1)))) w.heap.size 9 1 (some ⟨g, off, none⟩) l.length c ((l.map stv).set m (.string (⟨⟨x⟩⟩ ++ s.extract i (i + 1)))) := (Row.drew hst).put m _
            refine ⟨i + 1, some ⟨g, off, none⟩, c, l.set m (x ++ [s[i]]), hlt, by go_num, by rw [List.length_set], HL, ?_, ?_⟩
            · unfold Sts
              rw [List.length_set, List.map_set, show stv (x ++ [s[i]]) = .string (⟨⟨x⟩⟩ ++ s.extract i (i + 1)) by rw [← tl_one s i hlt]; exact (under_short_v ⟨⟨x⟩⟩ (s.extract i (i + 1)))]
              exact hrow
            · exact hb.drew.setCell (p := ⟨g, off + m, none⟩) hgb _
          case measure => simp [intOf]; omega
    · go_wp2_with fail
      go_ret
      exact ⟨A, c, l, rfl, by show _ = _; rw [hl.out, List.take_of_length_le (by rw [tl_len]; omega)], hst, hb⟩

set_option maxRecDepth 100000 in
theorem refPart_any (s : ByteArray) (hs : s.size ≤ 9223372036854775807) (w : World) : Calls Tryz.prog 119 #[.string s] w fun e w' => e = .returned (.bool (partB (tl s))) ∧ w = w' := by
  obtain ⟨a, ha⟩ : ∃ a, s.data.toList = a := ⟨_, rfl⟩
  have HL := Lib.hid (show a.length = s.size by rw [← ha]; exact tl_len s)
  have EA := Lib.hid (show s.toList = a by rw [ByteArray.toList_eq, ha])
  have HA := Lib.hid ha
  rw [show tl s = a from ha]
  clear ha
  go_enter Tryz.func119, Tryz.ntmps119
  go_wp2_with fail
  go_loop [3] (fun iv => ∃ i : Nat, i ≤ s.size ∧ iv = .int .i64 (i : Int) ∧ Hid (∀ c ∈ a.take i, c ≠ 0)) (fun iv => s.size - (intOf iv).toNat)
  case atStart => exact ⟨0, Nat.zero_le _, rfl, by show ∀ c ∈ a.take 0, c ≠ 0; simp⟩
  case round =>
    obtain ⟨i, hi, rfl, hz⟩ := hrel
    by_cases hlt : i < s.size
    · have HE : Hid (a[i]? = some s[i]) := by
        show _ = _
        rw [← HA.out, List.getElem?_eq_getElem (show i < s.data.toList.length from by rw [show s.data.toList.length = s.size from tl_len s]; exact hlt)]
        rfl
      go_wp2_with fail
      · have hc : ((s[i].toNat : Int) == 0) = true := by assumption
        go_ret
        refine ⟨ret_b ?_, rfl⟩
        have e : s[i] = 0 := UInt8.toNat_inj.1 (by rw [beq_iff_eq] at hc; rw [show (0 : UInt8).toNat = 0 from rfl]; omega)
        rw [e] at HE
        have hm := List.mem_of_getElem? HE.out
        unfold partB
        simp [hm]
      · have hc : ((s[i].toNat : Int) == 0) = false := by assumption
        go_round
        case rel =>
          refine ⟨i + 1, hlt, by go_num, ?_⟩
          show ∀ c ∈ a.take (i + 1), c ≠ 0
          intro c hcm
          rw [List.take_add_one, HE.out] at hcm
          rcases List.mem_append.1 hcm with h | h
          · exact hz.out c h
          · simp at h
            rw [h]
            intro e
            rw [e] at hc
            simp at hc
        case measure => simp [intOf]; omega
    · have hz2 : Hid (a.contains 0 = false) := by
        show _ = _
        rw [List.contains_eq_mem, decide_eq_false_iff_not]
        intro h
        exact hz.out 0 (by rw [List.take_of_length_le (by rw [HL.out]; omega)]; exact h) rfl
      clear hz
      have HM : Hid (a.isEmpty = decide (s.size < 1)) := by
        show _ = _
        rw [Bool.eq_iff_iff, List.isEmpty_iff, decide_eq_true_eq, ← HL.out]
        constructor
        · rintro rfl; simp
        · intro h; exact List.length_eq_zero_iff.1 (by omega)
      go_wp2_with fail
      all_goals
        go_ret
        refine ⟨ret_b ?_, rfl⟩
        simp only [EA.out] at *
        unfold partB
        rw [HM.out, HL.out, hz2.out]
      · have h1 : a = [46] := by assumption
        rw [h1]; simp
      · have h1 : (1 : Int) ≤ (s.size : Int) := by assumption
        have h2 : (s.size : Int) ≤ 24 := by assumption
        rw [decide_eq_false (by omega : ¬ s.size < 1), decide_eq_true (by omega : s.size ≤ 24)]; simp
      · have h2 : 24 < (s.size : Int) := by assumption
        rw [decide_eq_false (by omega : ¬ s.size ≤ 24)]; simp
      · have h2 : (s.size : Int) < 1 := by assumption
        rw [decide_eq_true (by omega : s.size < 1)]; simp
set_option maxRecDepth 100000 in
set_option maxHeartbeats 1000000 in
theorem refGood_any (s : ByteArray) (hs : s.size ≤ 9223372036854775807) (w : World) : Calls Tryz.prog 81 #[.string s] w fun e w' => e = .returned (.bool (goodB (tl s))) ∧ Below w.heap.size w w' := by
  by_cases h96 : s.size ≤ 96
  · have HG := Lib.hid (show goodB (tl s) = ((cutL (tl s)).all partB && decide ((cutL (tl s)).length ≤ 6)) by unfold goodB; rw [tl_len]; simp [h96])
    obtain ⟨R, hR⟩ : ∃ R, R = goodB (tl s) := ⟨_, rfl⟩
    rw [← hR]
    have HR := Lib.hid (hR.trans HG.out)
    clear hR HG
    go_enter Tryz.func81, Tryz.ntmps81
    go_wp2_with fail
    refine (refCut_any s (by omega) _).mono ?_
    rintro e w1 ⟨A, c, l, rfl, hl, hst, hb⟩
    rw [← hl.out] at HR
    have hll : l.length ≤ 97 := by
      have := cutL_len (tl s)
      rw [hl.out, tl_len] at *
      omega
    have hml : ∀ x ∈ l, x.length ≤ 96 := by
      intro x hx
      rw [hl.out] at hx
      have := cut_mem_len _ _ hx
      rw [tl_len] at this
      omega
    go_wp2_with fail
    go_loopw [4] (fun iv wr => ∃ i : Nat, i ≤ l.length ∧ iv = .int .i64 (i : Int) ∧ Hid ((l.take i).all partB = true) ∧ w1 = wr) (fun iv _ => l.length - (intOf iv).toNat)
    case atStart => exact ⟨0, Nat.zero_le _, rfl, by show _ = _; simp, rfl⟩
    case round =>
      obtain ⟨i, hi, rfl, hz, rfl⟩ := hrel
      by_cases hlt : i < l.length
      · obtain ⟨x, hx⟩ : ∃ x, l[i]? = some x := ⟨_, List.getElem?_eq_getElem hlt⟩
        obtain ⟨g, off, rfl, hgb, hgl, hcell, hfz⟩ := hst.get hx
        have HP := Lib.hid (fun w => refPart_any ⟨⟨x⟩⟩ (by have := hml x (List.mem_of_getElem? hx); show x.length ≤ _; omega) w)
        have HX := Lib.hid hx
        clear hx
        unfold stv at hcell
        go_wp2_with fail
        refine (HP.out _).mono ?_
        rintro e w2 ⟨rfl, rfl⟩
        rw [show tl ⟨⟨x⟩⟩ = x from rfl]
        cases hp : partB x
        · have HPX := Lib.hid hp
          clear hp
          go_wp2_with fail
          go_ret
          refine ⟨ret_b ?_, hb⟩
          rw [HR.out]
          have : l.all partB = false := by
            rw [List.all_eq_false]
            exact ⟨x, List.mem_of_getElem? HX.out, by rw [HPX.out]; simp⟩
          rw [this]; rfl
        · have HPX := Lib.hid hp
          clear hp
          go_wp2_with fail
          go_roundw
          case rel =>
            refine ⟨i + 1, hlt, by go_num, ?_, trivial⟩
            show _ = _
            rw [List.take_add_one, HX.out, List.all_append, hz.out]
            simp [HPX.out]
          case measure => simp [intOf]; omega
      · have HZ := Lib.hid (show l.all partB = true by have := hz.out; rwa [List.take_of_length_le (by omega)] at this)
        clear hz
        go_wp2_with fail
        go_ret
        refine ⟨ret_b ?_, hb⟩
        rw [HR.out, HZ.out]
        rw [Bool.eq_iff_iff]
        simp
        omega
  · have hr : goodB (tl s) = false := by unfold goodB; rw [tl_len]; simp [h96]
    have h1 : 96 < (s.size : Int) := by omega
    rw [hr]
    clear hr
    go_enter Tryz.func81, Tryz.ntmps81
    go_wp2_with fail
    go_ret
    exact ⟨rfl, Below.refl _ _⟩
end Go.Proofs.YtdnljmncdbcgeaaGreat

/- tenderref03: User. -/
namespace Go.Proofs.YtdnljmncdbcgeaaGreat
open Go.RowKit

theorem refUser_any (s : ByteArray) (hs : s.size ≤ 9223372036854775807) (w : World) : Calls Tryz.prog 123 #[.string s] w fun e w' => e = .returned (.bool (userB (tl s))) ∧ Below w.heap.size w w' := by
  have HG := Lib.hid (fun w => refGood_any s hs w)
  cases h : goodB (tl s)
  · have hr : userB (tl s) = false := by unfold userB; rw [h]; rfl
    rw [hr]
    rw [h] at HG
    clear hr h
    go_enter Tryz.func123, Tryz.ntmps123
    go_wp2_with fail
    refine (HG.out _).mono ?_
    rintro e w1 ⟨rfl, hb⟩
    go_wp2_with fail
    go_ret
    exact ⟨rfl, hb⟩
  · have h0 : 0 < s.size := by have := List.length_pos_iff.2 (goodB_ne h); rwa [tl_len] at this
    obtain ⟨R, hR⟩ : ∃ R, R = userB (tl s) := ⟨_, rfl⟩
    have HR : Hid (R = !((tl s).head? == some 126)) := by show _ = _; rw [hR]; unfold userB; rw [h]; rfl
    rw [← hR]
    rw [h] at HG
    clear hR h
    go_enter Tryz.func123, Tryz.ntmps123
    go_wp2_with fail
    refine (HG.out _).mono ?_
    rintro e w1 ⟨rfl, hb⟩
    go_wp2_with fail
    go_ret
    refine ⟨ret_b ?_, hb⟩
    rw [HR.out]
    have e : (tl s).head? = some s[0] := by
      obtain ⟨⟨l⟩⟩ := s
      cases l with
      | nil => exact (Nat.lt_irrefl 0 h0).elim
      | cons c l => rfl
    rw [e, Bool.eq_iff_iff]
    generalize s[0] = c
    by_cases hc : c = 126
    · subst hc; decide
    · have h2 : ¬ c.toNat = 126 := fun e => hc (UInt8.toNat_inj.1 e)
      simp [hc]
      omega
end Go.Proofs.YtdnljmncdbcgeaaGreat

/- entry and tenderref21: Check, Same, Newer, Row, Clone. -/
namespace Go.Proofs.YtdnljmncdbcgeaaGreat
open Go.RowKit

/-- an entry -/
structure EV where
  p : ByteArray
  v : Int
  k : Int
  x : BV
def EV.cells (o : EV) : List Value := [.string o.p, .int .u64 o.v, .int .i64 o.k, .slice o.x.A o.x.l.length o.x.c]
/-- what an answer to 'is an entry right?' is -/
def checkE (p : List UInt8) (v k : Int) (n : Nat) : Int := if userB p = false then 23 else if isV v = false then 2 else checkN k n

set_option maxRecDepth 100000 in
set_option maxHeartbeats 400000 in
theorem entryCheck_any (p : ByteArray) (v k : Int) (A : Option Addr) (n c : Nat) (w : World) (hp : p.size ≤ 9223372036854775807) (hv : 0 ≤ v ∧ v < 18446744073709551616) (hn : n ≤ 140737488355328) :
    Calls Tryz.prog 57 #[.agg #[.string p, .int .u64 v, .int .i64 k, .slice A n c]] w fun e w' => e = .returned (.int .i64 (checkE (tl p) v k n)) ∧ Below w.heap.size w w' := by
  obtain ⟨R, hR⟩ : ∃ R, R = checkE (tl p) v k n := ⟨_, rfl⟩
  rw [← hR]
  have HU := Lib.hid (fun w => user_any p hp w)
  have HV := Lib.hid (fun w => is_any v w hv.1 hv.2)
  have HL := Lib.hid (fun w => leafCheck_any k A n c w hn)
  cases hu : userB (tl p)
  · have HR : Hid (R = 23) := by show _ = _; rw [hR]; unfold checkE; rw [hu, if_pos rfl]
    rw [hu] at HU
    clear hR hu
    go_enter Tryz.func57, Tryz.ntmps57
    go_wp2_with fail
    refine (HU.out _).mono ?_
    rintro e w1 ⟨rfl, hb1⟩
    go_wp2_with fail
    go_ret
    exact ⟨ret_i HR.out.symm, ((Below.refl _ _).alloc (Nat.le_refl _) _).trans (hb1.mono (by simp))⟩
  · rw [hu] at HU
    have b0 := Blk.new w 59 #[.string p, .int .u64 v, .int .i64 k, .slice A n c]
    have hl : Below w.heap.size w (w.alloc (.cells #[.string p, .int .u64 v, .int .i64 k, .slice A n c] 59)) := (Below.refl _ _).alloc (Nat.le_refl _) _
    cases hvv : isV v
    · have HR : Hid (R = 2) := by show _ = _; rw [hR]; unfold checkE; rw [hu, hvv]; rfl
      rw [hvv] at HV
      clear hR hu hvv
      go_enter Tryz.func57, Tryz.ntmps57
      go_wp2_with fail
      generalize w.alloc (.cells #[.string p, .int .u64 v, .int .i64 k, .slice A n c] 59) = W at *
      have hs := hl.size
      refine (HU.out _).mono ?_
      rintro e w1 ⟨rfl, hb1⟩
      have b1 := b0.below hb1
      have c1 : w1.cell? ⟨w.heap.size, 1, none⟩ = some (.int .u64 v) := b1.cell 1
      go_wp2_with fail
      refine (HV.out _).mono ?_
      rintro e w2 ⟨rfl, rfl⟩
      go_wp2_with fail
      go_ret
      exact ⟨ret_i HR.out.symm, hl.trans (hb1.mono hs)⟩
    · have HR : Hid (R = checkN k n) := by show _ = _; rw [hR]; unfold checkE; rw [hu, hvv]; rfl
      rw [hvv] at HV
      rw [← HR.out] at HL
      clear hR hu hvv
      go_enter Tryz.func57, Tryz.ntmps57
      go_wp2_with fail
      generalize w.alloc (.cells #[.string p, .int .u64 v, .int .i64 k, .slice A n c] 59) = W at *
      have hs := hl.size
      refine (HU.out _).mono ?_
      rintro e w1 ⟨rfl, hb1⟩
      have b1 := b0.below hb1
      have c1 : w1.cell? ⟨w.heap.size, 1, none⟩ = some (.int .u64 v) := b1.cell 1
      have c2 : w1.cell? ⟨w.heap.size, 2, none⟩ = some (.int .i64 k) := b1.cell 2
      have c3 : w1.cell? ⟨w.heap.size, 3, none⟩ = some (.slice A n c) := b1.cell 3
      go_wp2_with fail
      refine (HV.out _).mono ?_
      rintro e w2 ⟨rfl, rfl⟩
      go_wp2_with fail
      refine (HL.out _).mono ?_
      rintro e w3 ⟨rfl, hb3⟩
      go_wp2_with fail
      go_ret
      exact ⟨rfl, hl.trans ((bthen hb1 hb3).mono hs)⟩

set_option maxRecDepth 100000 in
set_option maxHeartbeats 400000 in
theorem refEntryCheck_any (p : ByteArray) (v k : Int) (A : Option Addr) (n c : Nat) (w : World) (hp : p.size ≤ 9223372036854775807) (hv : 0 ≤ v ∧ v < 18446744073709551616) (hn : n ≤ 140737488355328) :
    Calls Tryz.prog 89 #[.agg #[.string p, .int .u64 v, .int .i64 k, .slice A n c]] w fun e w' => e = .returned (.int .i64 (checkE (tl p) v k n)) ∧ Below w.heap.size w w' := by
  obtain ⟨R, hR⟩ : ∃ R, R = checkE (tl p) v k n := ⟨_, rfl⟩
  rw [← hR]
  have HU := Lib.hid (fun w => refUser_any p hp w)
  have HV := Lib.hid (fun w => parts_any v w hv.1 hv.2)
  have HL := Lib.hid (fun w => leafCheckR_any k A n c w hn)
  cases hu : userB (tl p)
  · have HR : Hid (R = 23) := by show _ = _; rw [hR]; unfold checkE; rw [hu, if_pos rfl]
    rw [hu] at HU
    clear hR hu
    go_enter Tryz.func89, Tryz.ntmps89
    go_wp2_with fail
    refine (HU.out _).mono ?_
    rintro e w1 ⟨rfl, hb1⟩
    go_wp2_with fail
    go_ret
    exact ⟨ret_i HR.out.symm, ((Below.refl _ _).alloc (Nat.le_refl _) _).trans (hb1.mono (by simp))⟩
  · rw [hu] at HU
    have b0 := Blk.new w 59 #[.string p, .int .u64 v, .int .i64 k, .slice A n c]
    have hl : Below w.heap.size w (w.alloc (.cells #[.string p, .int .u64 v, .int .i64 k, .slice A n c] 59)) := (Below.refl _ _).alloc (Nat.le_refl _) _
    cases hvv : isV v
    · have HR : Hid (R = 2) := by show _ = _; rw [hR]; unfold checkE; rw [hu, hvv]; rfl
      rw [hvv] at HV
      clear hR hu hvv
      go_enter Tryz.func89, Tryz.ntmps89
      go_wp2_with fail
      generalize w.alloc (.cells #[.string p, .int .u64 v, .int .i64 k, .slice A n c] 59) = W at *
      have hs := hl.size
      refine (HU.out _).mono ?_
      rintro e w1 ⟨rfl, hb1⟩
      have b1 := b0.below hb1
      have c1 : w1.cell? ⟨w.heap.size, 1, none⟩ = some (.int .u64 v) := b1.cell 1
      go_wp2_with fail
      refine (HV.out _).mono ?_
      rintro e w2 ⟨rfl, rfl⟩
      go_wp2_with fail
      go_ret
      exact ⟨ret_i HR.out.symm, hl.trans (hb1.mono hs)⟩
    · have HR : Hid (R = checkN k n) := by show _ = _; rw [hR]; unfold checkE; rw [hu, hvv]; rfl
      rw [hvv] at HV
      rw [← HR.out] at HL
      clear hR hu hvv
      go_enter Tryz.func89, Tryz.ntmps89
      go_wp2_with fail
      generalize w.alloc (.cells #[.string p, .int .u64 v, .int .i64 k, .slice A n c] 59) = W at *
      have hs := hl.size
      refine (HU.out _).mono ?_
      rintro e w1 ⟨rfl, hb1⟩
      have b1 := b0.below hb1
      have c1 : w1.cell? ⟨w.heap.size, 1, none⟩ = some (.int .u64 v) := b1.cell 1
      have c2 : w1.cell? ⟨w.heap.size, 2, none⟩ = some (.int .i64 k) := b1.cell 2
      have c3 : w1.cell? ⟨w.heap.size, 3, none⟩ = some (.slice A n c) := b1.cell 3
      go_wp2_with fail
      refine (HV.out _).mono ?_
      rintro e w2 ⟨rfl, rfl⟩
      go_wp2_with fail
      refine (HL.out _).mono ?_
      rintro e w3 ⟨rfl, hb3⟩
      go_wp2_with fail
      go_ret
      exact ⟨rfl, hl.trans ((bthen hb1 hb3).mono hs)⟩
/-- are two the same? -/
def sameE (p q : List UInt8) (v u k j : Int) (l m : List UInt8) : Bool := p == q && v == u && (k == j && l == m)


set_option maxRecDepth 100000 in
set_option maxHeartbeats 400000 in
theorem entrySame_any (p q : ByteArray) (v u k j : Int) (A B : Option Addr) (c d : Nat) (l m : List UInt8) (Z Z' : Nat → Prop) (w : World) (hl : By w Z A l) (hm : By w Z' B m) :
    Calls Tryz.prog 78 #[.agg #[.string p, .int .u64 v, .int .i64 k, .slice A l.length c], .agg #[.string q, .int .u64 u, .int .i64 j, .slice B m.length d]] w fun e w' => e = .returned (.bool (sameE (tl p) (tl q) v u k j l m)) ∧ Below w.heap.size w w' := by
  obtain ⟨R, hR⟩ : ∃ R, R = sameE (tl p) (tl q) v u k j l m := ⟨_, rfl⟩
  rw [← hR]
  have hl2 := (hl.alloc (.cells #[.string p, .int .u64 v, .int .i64 k, .slice A l.length c] 59)).alloc (.cells #[.string q, .int .u64 u, .int .i64 j, .slice B m.length d] 59)
  have hm2 := (hm.alloc (.cells #[.string p, .int .u64 v, .int .i64 k, .slice A l.length c] 59)).alloc (.cells #[.string q, .int .u64 u, .int .i64 j, .slice B m.length d] 59)
  have HL := Lib.hid (leafSame_any k j A B c d l m Z Z' _ hl2 hm2)
  by_cases hpq : p = q
  · by_cases hvu : v = u
    · have HR : Hid (R = (k == j && l == m)) := by show _ = _; rw [hR]; unfold sameE; rw [hpq, hvu]; simp
      have e1 := eq_yes hpq
      have e2 : (v == u) = true := by simpa using hvu
      rw [← HR.out] at HL
      subst hvu
      clear hR hpq hl2 hm2
      go_enter Tryz.func78, Tryz.ntmps78
      go_wp2_with fail
      refine HL.out.mono ?_
      rintro e w1 ⟨rfl, hb1⟩
      go_wp2_with fail
      go_ret
      exact ⟨rfl, (((Below.refl _ _).alloc (Nat.le_refl _) _).alloc (by simp) _).trans (hb1.mono (by simp; omega))⟩
    · have HR : Hid (R = false) := by show _ = _; rw [hR]; unfold sameE; rw [show (v == u) = false by simpa using hvu]; simp
      have e1 := eq_yes hpq
      have e2 : (v == u) = false := by simpa using hvu
      clear hR hpq hl2 hm2 HL
      go_enter Tryz.func78, Tryz.ntmps78
      go_wp2_with fail
      go_ret
      exact ⟨ret_b HR.out.symm, (by repeat (first | exact Below.refl _ _ | refine Below.alloc ?_ (by simp) _ | refine Below.setCell ?_ (by simp) _ | refine Below.drew ?_))⟩
  · have HR : Hid (R = false) := by show _ = _; rw [hR]; unfold sameE; rw [show (tl p == tl q) = false by simp only [beq_eq_false_iff_ne, ne_eq]; exact fun e => hpq (tl_inj e)]; simp
    have e1 := eq_no hpq
    clear hR hpq hl2 hm2 HL
    go_enter Tryz.func78, Tryz.ntmps78
    go_wp2_with fail
    go_ret
    exact ⟨ret_b HR.out.symm, (by repeat (first | exact Below.refl _ _ | refine Below.alloc ?_ (by simp) _ | refine Below.setCell ?_ (by simp) _ | refine Below.drew ?_))⟩


set_option maxRecDepth 100000 in
set_option maxHeartbeats 400000 in
theorem refEntrySame_any (p q : ByteArray) (v u k j : Int) (A B : Option Addr) (c d : Nat) (l m : List UInt8) (Z Z' : Nat → Prop) (w : World) (hl : By w Z A l) (hm : By w Z' B m) :
    Calls Tryz.prog 75 #[.agg #[.string p, .int .u64 v, .int .i64 k, .slice A l.length c], .agg #[.string q, .int .u64 u, .int .i64 j, .slice B m.length d]] w fun e w' => e = .returned (.bool (sameE (tl p) (tl q) v u k j l m)) ∧ Below w.heap.size w w' := by
  obtain ⟨R, hR⟩ : ∃ R, R = sameE (tl p) (tl q) v u k j l m := ⟨_, rfl⟩
  rw [← hR]
  have hl2 := (hl.alloc (.cells #[.string p, .int .u64 v, .int .i64 k, .slice A l.length c] 59)).alloc (.cells #[.string q, .int .u64 u, .int .i64 j, .slice B m.length d] 59)
  have hm2 := (hm.alloc (.cells #[.string p, .int .u64 v, .int .i64 k, .slice A l.length c] 59)).alloc (.cells #[.string q, .int .u64 u, .int .i64 j, .slice B m.length d] 59)
  have HL := Lib.hid (leafSameR_any k j A B c d l m Z Z' _ hl2 hm2)
  by_cases hpq : p = q
  · by_cases hvu : v = u
    · have HR : Hid (R = (k == j && l == m)) := by show _ = _; rw [hR]; unfold sameE; rw [hpq, hvu]; simp
      have e1 := eq_yes hpq
      have e2 : (v == u) = true := by simpa using hvu
      rw [← HR.out] at HL
      subst hvu
      clear hR hpq hl2 hm2
      go_enter Tryz.func75, Tryz.ntmps75
      go_wp2_with fail
      refine HL.out.mono ?_
      rintro e w1 ⟨rfl, hb1⟩
      go_wp2_with fail
      go_ret
      exact ⟨rfl, (((Below.refl _ _).alloc (Nat.le_refl _) _).alloc (by simp) _).trans (hb1.mono (by simp; omega))⟩
    · have HR : Hid (R = false) := by show _ = _; rw [hR]; unfold sameE; rw [show (v == u) = false by simpa using hvu]; simp
      have e1 := eq_yes hpq
      have e2 : (v == u) = false := by simpa using hvu
      clear hR hpq hl2 hm2 HL
      go_enter Tryz.func75, Tryz.ntmps75
      go_wp2_with fail
      go_ret
      exact ⟨ret_b HR.out.symm, (by repeat (first | exact Below.refl _ _ | refine Below.alloc ?_ (by simp) _ | refine Below.setCell ?_ (by simp) _ | refine Below.drew ?_))⟩
  · have HR : Hid (R = false) := by show _ = _; rw [hR]; unfold sameE; rw [show (tl p == tl q) = false by simp only [beq_eq_false_iff_ne, ne_eq]; exact fun e => hpq (tl_inj e)]; simp
    have e1 := eq_no hpq
    clear hR hpq hl2 hm2 HL
    go_enter Tryz.func75, Tryz.ntmps75
    go_wp2_with fail
    go_ret
    exact ⟨ret_b HR.out.symm, (by repeat (first | exact Below.refl _ _ | refine Below.alloc ?_ (by simp) _ | refine Below.setCell ?_ (by simp) _ | refine Below.drew ?_))⟩

set_option maxRecDepth 100000 in
theorem entryNewer_any (p q : ByteArray) (v u k j : Int) (x y : Value) (w : World) :
    Calls Tryz.prog 59 #[.agg #[.string p, .int .u64 v, .int .i64 k, x], .agg #[.string q, .int .u64 u, .int .i64 j, y]] w fun e w' => e = .returned (.bool (decide (u < v))) ∧ Below w.heap.size w w' := by
  go_enter Tryz.func59, Tryz.ntmps59
  go_wp2_with fail
  go_ret
  exact ⟨rfl, (by repeat (first | exact Below.refl _ _ | refine Below.alloc ?_ (by simp) _ | refine Below.setCell ?_ (by simp) _ | refine Below.drew ?_))⟩
end Go.Proofs.YtdnljmncdbcgeaaGreat

/- tenderlaw21: Light. -/
namespace Go.Proofs.YtdnljmncdbcgeaaGreat
open Go.RowKit

/-- what is known of an entry -/
structure EV.ok (w : World) (Z : Nat → Prop) (o : EV) : Prop where
  x : o.x.ok w Z
  len : o.x.l.length ≤ 140737488355328
  p : o.p.size ≤ 140737488355328
  v : 0 ≤ o.v ∧ o.v < 18446744073709551616
  k : -9223372036854775808 ≤ o.k ∧ o.k < 9223372036854775808
theorem EV.ok.fr {w w' : World} {Z S : Nat → Prop} {o : EV} (h : o.ok w Z) (k : Fr S w w') (hs : ∀ b, b < w.heap.size → Z b → ¬ S b) : o.ok w' Z := ⟨h.x.fr k hs, h.len, h.p, h.v, h.k⟩
theorem EV.ok.below {w w' : World} {Z : Nat → Prop} {o : EV} (h : o.ok w Z) (k : Below w.heap.size w w') : o.ok w' Z := h.fr (Fr.of_below k (fun _ => False)) (fun _ _ _ h => h)
theorem EV.ok.mono {w : World} {Z Z' : Nat → Prop} {o : EV} (h : o.ok w Z) (hz : ∀ b, b < w.heap.size → Z b → Z' b) : o.ok w Z' := ⟨h.x.mono hz, h.len, h.p, h.v, h.k⟩
/-- entries in a slice -/
structure Ents (w : World) (Z : Nat → Prop) (A : Option Addr) (l : List EV) : Prop where
  rd : Rd w Z 4 A l.length (l.flatMap EV.cells)
  ok : ∀ o ∈ l, o.ok w Z
  len : l.length ≤ 140737488355328
theorem Ents.fr {w w' : World} {Z S : Nat → Prop} {A : Option Addr} {l : List EV} (h : Ents w Z A l) (k : Fr S w w') (hs : ∀ b, b < w.heap.size → Z b → ¬ S b) : Ents w' Z A l :=
  ⟨h.rd.fr k hs, fun o ho => (h.ok o ho).fr k hs, h.len⟩
theorem Ents.below {w w' : World} {Z : Nat → Prop} {A : Option Addr} {l : List EV} (h : Ents w Z A l) (k : Below w.heap.size w w') : Ents w' Z A l := h.fr (Fr.of_below k (fun _ => False)) (fun _ _ _ h => h)
theorem ent_at {w : World} {Z : Nat → Prop} {A : Option Addr} {l : List EV} {i : Nat} (h : Rd w Z 4 A l.length (l.flatMap EV.cells)) (hi : i < l.length) :
    ∃ b off, A = some ⟨b, off, none⟩ ∧ Z b ∧ b < w.heap.size ∧ w.cell? ⟨b, off + i * 4, none⟩ = some (.string l[i].p) ∧ w.cell? ⟨b, off + i * 4 + 1, none⟩ = some (.int .u64 l[i].v) ∧
      w.cell? ⟨b, off + i * 4 + 2, none⟩ = some (.int .i64 l[i].k) ∧ w.cell? ⟨b, off + i * 4 + 3, none⟩ = some (.slice l[i].x.A l[i].x.l.length l[i].x.c) := by
  obtain ⟨b, off, hA, hz, hb, hc⟩ := h.2 (by omega)
  have hg : ∀ j, j < 4 → (l.flatMap EV.cells)[i * 4 + j]? = (EV.cells l[i])[j]? := fun j hj => flat_get (k := 4) (fun _ => rfl) l i j hi hj
  refine ⟨b, off, hA, hz, hb, ?_, ?_, ?_, ?_⟩
  · exact hc _ _ (hg 0 (by omega))
  · rw [Nat.add_assoc]; exact hc _ _ (hg 1 (by omega))
  · rw [Nat.add_assoc]; exact hc _ _ (hg 2 (by omega))
  · rw [Nat.add_assoc]; exact hc _ _ (hg 3 (by omega))
def lenE (o : EV) : Nat := o.p.size + o.x.l.length
def lensE (l : List EV) : Nat := (l.map lenE).sum
def lightE (l : List EV) : Bool := decide (lensE l ≤ 20000) && decide (l.length ≤ 400)
theorem lensE_take (l : List EV) (i : Nat) (hi : i < l.length) : lensE (l.take (i + 1)) = lensE (l.take i) + lenE l[i] := by
  unfold lensE
  rw [List.take_succ_eq_append_getElem hi, List.map_append, List.sum_append]
  simp
theorem lensE_le (K : Nat) : ∀ (l : List EV), (∀ o ∈ l, lenE o ≤ K) → lensE l ≤ l.length * K
  | [], _ => by simp [lensE]
  | o :: l, h => by
    have h1 := h o (by simp)
    have h2 := lensE_le K l (fun o ho => h o (by simp [ho]))
    simp only [lensE, List.map_cons, List.sum_cons, List.length_cons, Nat.add_mul] at h2 ⊢
    omega
theorem lensE_take_le (K : Nat) (l : List EV) (i : Nat) (h : ∀ o ∈ l, lenE o ≤ K) : lensE (l.take i) ≤ i * K := by
  have h1 := lensE_le K (l.take i) (fun o ho => h o (List.mem_of_mem_take ho))
  have h2 : (l.take i).length ≤ i := List.length_take_le _ _
  have h3 : (l.take i).length * K ≤ i * K := Nat.mul_le_mul_right _ h2
  omega
/-- the sum that Light has made: right while few have been seen -/
def SeenE (l : List EV) (i : Nat) (s : Int) : Prop := i ≤ 400 → s = (lensE (l.take i) : Int)
theorem seenE_step {l : List EV} {i : Nat} {s : Int} (hs : SeenE l i s) (hi : i < l.length) (h : ∀ o ∈ l, lenE o ≤ 281474976710656) : SeenE l (i + 1) (wrap64 (s + (lenE l[i] : Int))) := by
  intro hi2
  have e := hs (by omega)
  have h1 := lensE_take_le 281474976710656 l (i + 1) h
  have h2 := lensE_take l i hi
  have h3 : (i + 1) * 281474976710656 ≤ 401 * 281474976710656 := Nat.mul_le_mul_right _ (by omega)
  rw [h2] at h1 ⊢
  rw [e, IntWalk.wrap64_in _ ⟨by omega, by omega⟩]
  omega

set_option maxRecDepth 100000 in
set_option maxHeartbeats 400000 in
theorem lightE_any (A : Option Addr) (c : Nat) (l : List EV) (Z : Nat → Prop) (w : World) (h : Ents w Z A l) :
    Calls Tryz.prog 18 #[.slice A l.length c] w fun e w' => e = .returned (.bool (lightE l)) ∧ Below w.heap.size w w' := by
  have hlen := h.len
  go_enter Tryz.func18, Tryz.ntmps18
  go_wp2_with fail
  go_loopw [3, 8] (fun sv iv wr => ∃ (i : Nat) (s : Int), i ≤ l.length ∧ iv = .int .i64 (i : Int) ∧ sv = .int .i64 s ∧ SeenE l i s ∧ Below w.heap.size w wr) (fun _ iv _ => l.length - (intOf iv).toNat)
  case atStart => exact ⟨0, 0, Nat.zero_le _, rfl, rfl, by intro _; simp [lensE], Below.refl _ _⟩
  case round =>
    obtain ⟨i, s, hi, rfl, rfl, hs, hb⟩ := hrel
    by_cases hlt : i < l.length
    · obtain ⟨b, off, rfl, hz, hbb, hc0, hc1, hc2, hc3⟩ := ent_at (h.rd.below hb) hlt
      have hsz := hb.size
      have hok := h.ok _ (List.getElem_mem hlt)
      have hxl := hok.len
      have hpl := hok.p
      have hst := Lib.hid (seenE_step hs hlt (fun o ho => by have h1 := (h.ok o ho).len; have h2 := (h.ok o ho).p; unfold lenE; omega))
      have hle : lenE l[i] = l[i].p.size + l[i].x.l.length := rfl
      rw [hle] at hst
      clear hle hok
      generalize l[i] = o at *
      obtain ⟨p, v, k, xA, xc, xl⟩ := o
      dsimp only at *
      go_wp2_with fail
      go_roundw
      case rel => exact ⟨i + 1, _, hlt, by go_num, rfl, by have := hst.out; push_cast at this; exact this, (hb.alloc hsz _)⟩
      case measure => simp [intOf]; omega
    · have e : i = l.length := by omega
      subst e
      by_cases h2 : l.length ≤ 400
      · have hss := hs h2
        rw [List.take_length] at hss
        subst hss
        go_wp2
        all_goals
          go_ret
          exact ⟨ret_b (by unfold lightE; rw [Bool.eq_iff_iff]; simp; omega), hb⟩
      · go_wp2
        all_goals
          go_ret
          exact ⟨ret_b (by unfold lightE; rw [Bool.eq_iff_iff]; simp; omega), hb⟩
end Go.Proofs.YtdnljmncdbcgeaaGreat

/- The bytes of numbers and texts, as plain lists. -/
namespace Go.Proofs.YtdnljmncdbcgeaaGreat
open Go.RowKit

def dg : Nat → Nat → List UInt8 → List UInt8
  | 0, _, acc => acc
  | f + 1, n, acc => if n = 0 then acc else dg f (n / 256) (UInt8.ofNat (n % 256) :: acc)
def digs (n : Nat) : List UInt8 := dg 8 n []
def numB (n : Nat) : List UInt8 := UInt8.ofNat (digs n).length :: digs n
def textB (l : List UInt8) : List UInt8 := numB l.length ++ l

theorem bv_ofNat {m : Nat} (h : m < 256) : bv (UInt8.ofNat m) = .int .u8 (m : Int) := by
  unfold bv
  rw [UInt8.toNat_ofNat']
  rw [Nat.mod_eq_of_lt h]

theorem dg_zero (f : Nat) (acc : List UInt8) : dg f 0 acc = acc := by cases f <;> simp [dg]
theorem dg_len : ∀ (f n : Nat) (acc : List UInt8), (dg f n acc).length ≤ f + acc.length
  | 0, _, acc => by simp [dg]
  | f + 1, n, acc => by
    unfold dg
    split
    · omega
    · have := dg_len f (n / 256) (UInt8.ofNat (n % 256) :: acc)
      simp only [List.length_cons] at this
      omega
theorem digs_len (n : Nat) : (digs n).length ≤ 8 := by have := dg_len 8 n []; simpa [digs] using this
theorem numB_len (n : Nat) : (numB n).length ≤ 9 := by simp only [numB, List.length_cons]; have := digs_len n; omega

theorem dg_app : ∀ (f n : Nat) (acc : List UInt8), dg f n acc = dg f n [] ++ acc
  | 0, _, acc => by simp [dg]
  | f + 1, n, acc => by
    unfold dg
    split
    · simp
    · rw [dg_app f (n / 256) (_ :: acc), dg_app f (n / 256) [_], List.append_assoc]
      rfl
/-- one digit more -/
theorem dg_fuel : ∀ (f n : Nat), n < 256 ^ f → ∀ k, dg (f + k) n [] = dg f n []
  | 0, n, h, k => by
    have : n = 0 := by simpa using h
    subst this
    rw [dg_zero, dg_zero]
  | f + 1, n, h, k => by
    rw [show f + 1 + k = (f + k) + 1 by omega]
    unfold dg
    split
    · rfl
    · have h' : n / 256 < 256 ^ f := by
        rw [Nat.div_lt_iff_lt_mul (by omega)]
        rw [Nat.pow_succ] at h
        exact h
      rw [dg_app (f + k), dg_app f, dg_fuel f _ h' k]
theorem digs_step {n : Nat} (h0 : 0 < n) (h : n < 18446744073709551616) : digs n = digs (n / 256) ++ [UInt8.ofNat (n % 256)] := by
  have e : dg 8 n [] = dg 7 (n / 256) [UInt8.ofNat (n % 256)] := by
    conv => lhs; unfold dg
    rw [if_neg (by omega)]
  have h' : n / 256 < 256 ^ 7 := by omega
  unfold digs
  rw [e, dg_app, dg_fuel 7 (n / 256) h' 1]
theorem digs_zero : digs 0 = [] := dg_zero 8 []
theorem digs_lt {n : Nat} (k : Nat) (hk : k ≤ 8) (h : n < 256 ^ k) : (digs n).length ≤ k := by
  unfold digs
  have := dg_fuel k n h (8 - k)
  rw [show k + (8 - k) = 8 by omega] at this
  rw [this]
  simpa using dg_len k n []

theorem pow_le8 {f : Nat} (h : f ≤ 8) : 256 ^ f ≤ 18446744073709551616 := Nat.le_trans (Nat.pow_le_pow_right (by decide) h) (by decide)
theorem dg_cons {f m : Nat} (h0 : 0 < m) (acc : List UInt8) : dg (f + 1) m acc = dg f (m / 256) (UInt8.ofNat (m % 256) :: acc) := by
  conv => lhs; unfold dg
  rw [if_neg (by omega)]

theorem digs_range : ∀ (k n : Nat), k ≤ 8 → n < 256 ^ k → n < 256 ^ (digs n).length ∧ (0 < n → 256 ^ ((digs n).length - 1) ≤ n ∧ 0 < (digs n).length)
  | 0, n, _, h => by
    have : n = 0 := by simpa using h
    subst this
    rw [digs_zero]
    simp
  | k + 1, n, hk, h => by
    rcases Nat.eq_zero_or_pos n with h0 | h0
    · subst h0
      rw [digs_zero]
      simp
    · have h64 : n < 18446744073709551616 := Nat.lt_of_lt_of_le h (pow_le8 hk)
      have h' : n / 256 < 256 ^ k := by
        rw [Nat.div_lt_iff_lt_mul (by omega)]
        rw [Nat.pow_succ] at h
        exact h
      obtain ⟨i1, i2⟩ := digs_range k (n / 256) (by omega) h'
      rw [digs_step h0 h64, List.length_append, List.length_singleton, Nat.add_sub_cancel]
      refine ⟨?_, fun _ => ⟨?_, by omega⟩⟩
      · rw [Nat.pow_succ]; omega
      · rcases Nat.eq_zero_or_pos (n / 256) with h1 | h1
        · rw [h1, digs_zero]; simp; omega
        · obtain ⟨j1, j2⟩ := i2 h1
          obtain ⟨m, hm⟩ : ∃ m, (digs (n / 256)).length = m + 1 := ⟨_, (Nat.succ_pred_eq_of_pos j2).symm⟩
          rw [hm] at j1 ⊢
          rw [Nat.add_sub_cancel] at j1
          rw [Nat.pow_succ]
          omega

theorem bitAux_range : ∀ (f n : Nat), n < 2 ^ f → n < 2 ^ Lib.bitLenAux f n ∧ (0 < n → 2 ^ (Lib.bitLenAux f n - 1) ≤ n) ∧ Lib.bitLenAux f n ≤ f
  | 0, n, h => by
    have : n = 0 := by simpa using h
    subst this
    simp [Lib.bitLenAux]
  | f + 1, n, h => by
    unfold Lib.bitLenAux
    split
    · rename_i h0; subst h0; simp
    · rename_i h0
      have h' : n / 2 < 2 ^ f := by rw [Nat.pow_succ] at h; omega
      obtain ⟨i1, i2, i3⟩ := bitAux_range f (n / 2) h'
      refine ⟨by rw [Nat.add_comm, Nat.pow_succ]; omega, fun _ => ?_, by omega⟩
      rw [Nat.add_sub_cancel_left]
      rcases Nat.eq_zero_or_pos (n / 2) with h1 | h1
      · rw [h1]
        have : Lib.bitLenAux f 0 = 0 := by cases f <;> simp [Lib.bitLenAux]
        rw [this]
        simp; omega
      · have j := i2 h1
        have hb : 0 < Lib.bitLenAux f (n / 2) := by
          rcases Nat.eq_zero_or_pos (Lib.bitLenAux f (n / 2)) with hz | hz
          · rw [hz] at i1; simp at i1; omega
          · exact hz
        obtain ⟨m, hm⟩ : ∃ m, Lib.bitLenAux f (n / 2) = m + 1 := ⟨_, (Nat.succ_pred_eq_of_pos hb).symm⟩
        rw [hm] at j ⊢
        rw [Nat.add_sub_cancel] at j
        rw [Nat.pow_succ]
        omega

theorem bitLen_le {n : Nat} (h : n < 18446744073709551616) : Lib.bitLen n ≤ 64 := (bitAux_range 64 n h).2.2
theorem bitLen_wd {n : Nat} (h : n < 18446744073709551616) : (Lib.bitLen n + 7) / 8 = (digs n).length := by
  obtain ⟨a1, a2, a3⟩ := bitAux_range 64 n h
  obtain ⟨b1, b2⟩ := digs_range 8 n (by omega) h
  rcases Nat.eq_zero_or_pos n with h0 | h0
  · subst h0
    rw [digs_zero]
    decide
  · have a4 := a2 h0
    obtain ⟨b3, b4⟩ := b2 h0
    have p1 : ∀ k : Nat, 256 ^ k = 2 ^ (8 * k) := fun k => by rw [Nat.pow_mul]
    rw [p1] at b1 b3
    unfold Lib.bitLen
    generalize Lib.bitLenAux 64 n = b at *
    generalize (digs n).length = d at *
    have c1 : 8 * (d - 1) < b := (Nat.pow_lt_pow_iff_right (by decide : 1 < 2)).1 (Nat.lt_of_le_of_lt b3 a1)
    have c2 : b - 1 < 8 * d := (Nat.pow_lt_pow_iff_right (by decide : 1 < 2)).1 (Nat.lt_of_le_of_lt a4 b1)
    omega

theorem digs_get : ∀ (k n i : Nat), n < 18446744073709551616 → k + 1 + i = (digs n).length → (digs n).getD i 0 = UInt8.ofNat (n / 256 ^ k % 256)
  | k, n, i, h, hk => by
    have h0 : 0 < n := by
      rcases Nat.eq_zero_or_pos n with h0 | h0
      · subst h0; rw [digs_zero] at hk; simp at hk
      · exact h0
    rw [digs_step h0 h, List.length_append, List.length_singleton] at hk
    rw [digs_step h0 h]
    rcases k with _ | k
    · rw [List.getD_eq_getElem?_getD, List.getElem?_append_right (by omega), show i - (digs (n / 256)).length = 0 by omega]
      simp
    · rw [List.getD_eq_getElem?_getD, List.getElem?_append_left (by omega), ← List.getD_eq_getElem?_getD, digs_get k (n / 256) i (by omega) (by omega), Nat.div_div_eq_div_mul, Nat.pow_succ', ]

theorem bv_digit {n k i : Nat} (hn : n < 18446744073709551616) (hk : k + 1 + i = (digs n).length) :
    bv ((digs n).getD i 0) = .int .u8 (IntKind.u8.wrap ((n : Int) / 2 ^ min (8 * (k : Int)).toNat 64)) := by
  have h8 := digs_len n
  rw [digs_get k n i hn hk, bv_ofNat (by omega), IntKind.wrap_u8]
  have e : min (8 * (k : Int)).toNat 64 = 8 * k := by omega
  rw [e]
  have : ((n / 256 ^ k % 256 : Nat) : Int) = (n : Int) / (2 : Int) ^ (8 * k) % 256 := by
    rw [show (256 : Nat) ^ k = 2 ^ (8 * k) by rw [Nat.pow_mul]]
    simp
  rw [← this]
end Go.Proofs.YtdnljmncdbcgeaaGreat

/- A leaf's bytes, plainly. -/
namespace Go.Proofs.YtdnljmncdbcgeaaGreat
open Go.RowKit

/-- a leaf's bytes -/
def leafB (k : Int) (l : List UInt8) : List UInt8 := if checkN k l.length ≠ 0 then numB 0 else if k = 1 then numB 1 ++ textB l else numB k.toNat
theorem leafB_bad {k : Int} {l : List UInt8} (h : checkN k l.length ≠ 0) : leafB k l = numB 0 := by unfold leafB; rw [if_pos h]
theorem leafB_file {k : Int} {l : List UInt8} (h : checkN k l.length = 0) (hk : k = 1) : leafB k l = numB 1 ++ textB l := by unfold leafB; rw [if_neg (by simpa using h), if_pos hk]
theorem leafB_other {k : Int} {l : List UInt8} (h : checkN k l.length = 0) (hk : k ≠ 1) : leafB k l = numB k.toNat := by unfold leafB; rw [if_neg (by simpa using h), if_neg hk]
theorem leafB_len (k : Int) (l : List UInt8) : (leafB k l).length ≤ 18 + l.length := by
  have h0 := numB_len 0
  have h1 := numB_len 1
  have h2 := numB_len k.toNat
  have h3 := numB_len l.length
  unfold leafB textB
  split
  · omega
  · split
    · simp only [List.length_append]; omega
    · omega
theorem checkN_ok {k : Int} {n : Nat} (h : checkN k n = 0) : (k = 0 ∨ k = 1 ∨ k = 2) ∧ (k ≠ 1 → n = 0) ∧ n ≤ 4096 := by
  unfold checkN at h
  split at h
  · rename_i h1
    split at h
    · exact ⟨.inr (.inl h1), fun h2 => absurd h1 h2, by assumption⟩
    · simp at h
  · split at h
    · rename_i h1 h2
      split at h
      · rename_i h3
        exact ⟨h2.elim .inl (fun h => .inr (.inr h)), fun _ => h3, by omega⟩
      · simp at h
    · simp at h
/-- bytes that leaves take at most -/
def wideL (ls : List LV) : Nat := (ls.map fun o => 18 + o.x.l.length).sum
theorem wideL_take (ls : List LV) (i : Nat) (hi : i < ls.length) : (ls.take i |>.flatMap fun o => leafB o.k o.x.l).length + (18 + ls[i].x.l.length) ≤ wideL ls := by
  have h1 : ∀ cs : List LV, (cs.flatMap fun o => leafB o.k o.x.l).length ≤ wideL cs := by
    intro cs
    induction cs with
    | nil => simp [wideL]
    | cons x cs ih =>
      have := leafB_len x.k x.x.l
      simp only [wideL, List.flatMap_cons, List.length_append, List.map_cons, List.sum_cons] at ih ⊢
      omega
  have h2 := h1 (ls.take i)
  have h3 : wideL (ls.take i) + (18 + ls[i].x.l.length) ≤ wideL ls := by
    have e : ls = ls.take i ++ ls[i] :: ls.drop (i + 1) := by simp
    have e2 : wideL ls = wideL (ls.take i ++ ls[i] :: ls.drop (i + 1)) := congrArg wideL e
    rw [e2]
    simp only [wideL, List.map_append, List.map_cons, List.sum_append, List.sum_cons]
    omega
  omega
theorem wideL_len : ∀ ls : List LV, ls.length ≤ wideL ls
  | [] => by simp
  | x :: ls => by
    have := wideL_len ls
    simp only [wideL, List.map_cons, List.sum_cons, List.length_cons] at this ⊢
    omega
end Go.Proofs.YtdnljmncdbcgeaaGreat

/- Reading numbers, as a plain function. -/
namespace Go.Proofs.YtdnljmncdbcgeaaGreat
open Go.RowKit

/-- the number of bytes, highest first -/
def val (l : List UInt8) : Nat := l.foldl (fun n d => n * 256 + d.toNat) 0
/-- behind a failure -/
def failS (l : List UInt8) (f code : Int) : List UInt8 × Int := if f = 0 ∧ code ≠ 0 then ([], code) else (l, f)
/-- a number is read: the number, what is left, the fault -/
def readS (l : List UInt8) (f : Int) (most : Nat) : Nat × List UInt8 × Int :=
  if f ≠ 0 then (0, l, f)
  else match l with
    | [] => (0, [], 11)
    | c :: r =>
      if 8 < c.toNat then (0, [], 10)
      else if r.length < c.toNat then (0, [], 11)
      else if 0 < c.toNat ∧ r.getD 0 0 = 0 then (0, [], 10)
      else if most < val (r.take c.toNat) then (0, [], 13)
      else (val (r.take c.toNat), r.drop c.toNat, 0)

theorem val_snoc (l : List UInt8) (d : UInt8) : val (l ++ [d]) = val l * 256 + d.toNat := by unfold val; rw [List.foldl_append]; rfl
theorem val_aux : ∀ (l : List UInt8) (n : Nat), l.foldl (fun n d => n * 256 + d.toNat) n < (n + 1) * 256 ^ l.length
  | [], n => by simp
  | d :: l, n => by
    have h := val_aux l (n * 256 + d.toNat)
    have hd := d.toNat_lt
    rw [List.foldl_cons, List.length_cons, Nat.pow_succ]
    refine Nat.lt_of_lt_of_le h ?_
    rw [Nat.mul_comm (256 ^ l.length) 256, ← Nat.mul_assoc]
    exact Nat.mul_le_mul_right _ (by omega)
theorem val_lt (l : List UInt8) : val l < 256 ^ l.length := by simpa [val] using val_aux l 0
theorem val_lt64 {l : List UInt8} (h : l.length ≤ 8) : val l < 18446744073709551616 := Nat.lt_of_lt_of_le (val_lt l) (pow_le8 h)
theorem val_take {l : List UInt8} {i : Nat} (hi : i < l.length) : val (l.take (i + 1)) = val (l.take i) * 256 + (l.getD i 0).toNat := by
  rw [List.take_succ_eq_append_getElem hi, val_snoc, List.getD_eq_getElem?_getD, List.getElem?_eq_getElem hi]
  rfl
theorem or_byte {n : Nat} {d : UInt8} (h : n < 256 ^ 7) : bits .or .u64 ((n : Int) * 256) (d.toNat : Int) = ((n * 256 + d.toNat : Nat) : Int) := by
  have hd := d.toNat_lt
  rw [u64_or _ _ (by omega) (by omega) (by omega) (by omega)]
  have e : ((n : Int) * 256).toNat = n * 256 := by omega
  rw [e, Int.toNat_natCast, nat_join 8 (n * 256) d.toNat (by omega) (by omega)]
end Go.Proofs.YtdnljmncdbcgeaaGreat

/- tenderref01: Num, Text, Same. -/
namespace Go.Proofs.YtdnljmncdbcgeaaGreat
open Go.RowKit

set_option maxHeartbeats 400000 in
theorem refNum_any (n : Nat) (w : World) (hn : n < 18446744073709551616) :
    Calls Tryz.prog 73 #[.int .u64 n] w fun e w' => ∃ v, e = .returned v ∧ OwB w' w.heap.size v (numB n) ∧ Below w.heap.size w w' := by
  obtain ⟨i0, hi0, hz0, hz1, hz2⟩ := info_parts u8_info
  go_enter Tryz.func73, Tryz.ntmps73
  go_wp2
  go_loopw [0, 3] (fun nv dv wr => ∃ (m f : Nat) (acc : List UInt8), m < 256 ^ f ∧ nv = .int .u64 (m : Int) ∧ OwB wr w.heap.size dv acc ∧ acc.length + f = 8 ∧ Hid (dg f m acc = digs n) ∧ Below w.heap.size w wr) (fun nv _ _ => (intOf nv).toNat)
  case atStart => exact ⟨n, 8, [], hn, rfl, World.ownsRow_nil _ _ _ _, rfl, rfl, Below.refl _ _⟩
  case round =>
    obtain ⟨m, f, acc, hm, rfl, hd, hf, hdg, hb⟩ := hrel
    obtain ⟨A, c, rfl, hc, hcm, hA⟩ := hd.form
    have hsz := hb.size
    by_cases h0 : 0 < m
    · have hr := hd.rd
      have hm64 : m < 18446744073709551616 := Nat.lt_of_lt_of_le hm (pow_le8 (by omega))
      obtain ⟨f, rfl⟩ : ∃ k, f = k + 1 := by
        rcases f with _ | k
        · simp at hm; omega
        · exact ⟨k, rfl⟩
      go_wp2_with (at_builtin; refine wpList_append_by rfl (.tmp 9) (.tmp 10) rfl (v := .slice (some ⟨wr.heap.size, 0, none⟩) 1 1) rfl (OwB.lit1 wr (b := UInt8.ofNat (m % 256)) (by rw [bv_ofNat (by omega)]; rfl) hsz) rfl (hr.alloc _) (by simp; omega) (by simp; omega) ?_; intro L1 A1 c1 w1 hL1 hown hg hat)
      go_roundw
      case rel => 
        have hL : L1 = UInt8.ofNat (m % 256) :: acc := hL1.out
        subst hL
        refine ⟨m / 256, f, UInt8.ofNat (m % 256) :: acc, ?_, rfl, hown, ?_, ?_, ?_⟩
        · rw [Nat.div_lt_iff_lt_mul (by omega)]; rw [Nat.pow_succ] at hm; exact hm
        · simp; omega
        · rw [← dg_cons h0]; exact hdg
        · exact ((hb.alloc hsz _).grown hg (by simp; omega) (by simp [Value.ownBlock]; omega))
      case measure => simp [intOf]; omega
    · have e0 : m = 0 := by omega
      subst e0
      have hr := hd.rd
      rw [dg_zero] at hdg
      have hl := digs_len n
      go_wp2_with (at_builtin; refine wpList_append_by rfl (.tmp 17) (.tmp 18) rfl (v := .slice (some ⟨wr.heap.size, 0, none⟩) 1 1) rfl (OwB.lit1 wr (b := UInt8.ofNat acc.length) (by rw [bv_ofNat (by omega)]) hsz) rfl (hr.alloc _) (by simp; omega) (by simp; omega) ?_; intro L1 A1 c1 w1 hL1 hown hg hat)
      go_ret
      refine ⟨_, rfl, ?_, ?_⟩
      · have hL : L1 = UInt8.ofNat acc.length :: acc := hL1.out
        subst hL
        unfold numB; rw [← hdg.out]; exact hown
      · exact ((hb.alloc hsz _).grown hg (by simp; omega) (by simp [Value.ownBlock]; omega))

set_option maxHeartbeats 400000 in
theorem refText_any (A : Option Addr) (c : Nat) (l : List UInt8) (Z : Nat → Prop) (w : World) (hl : By w Z A l) (hn : l.length ≤ 70368744177664) :
    Calls Tryz.prog 107 #[.slice A l.length c] w fun e w' => ∃ v, e = .returned v ∧ OwB w' w.heap.size v (textB l) ∧ Below w.heap.size w w' := by
  have hL := numB_len l.length
  go_enter Tryz.func107, Tryz.ntmps107
  go_wp2_with fail
  refine (refNum_any l.length _ (by omega)).mono ?_
  rintro e w1 ⟨v1, rfl, h1, hb1⟩
  obtain ⟨A0, c0, rfl, hc0, hcm0, hA0⟩ := h1.form
  have hs1 := hb1.size
  go_wp2_with (at_builtin; refine wpList_append_by rfl (.tmp 6) (.tmp 7) rfl (v := .slice A0 (numB l.length).length c0) rfl h1 rfl (hl.below hb1) (by omega) hb1.size ?_; intro L2 A2 c2 w2 hL2 hown hg hat)
  go_ret
  have hL : L2 = textB l := hL2.out
  subst hL
  exact ⟨_, rfl, hown, hb1.grown hg hs1 (fun k hk => (h1.lt k hk).1)⟩

set_option maxHeartbeats 400000 in
theorem refSame_any (A B : Option Addr) (c d : Nat) (l m : List UInt8) (Z Z' : Nat → Prop) (w : World) (hl : By w Z A l) (hm : By w Z' B m) :
    Calls Tryz.prog 30 #[.slice A l.length c, .slice B m.length d] w fun e w' => e = .returned (.bool (l == m)) ∧ w = w' := by
  have k1 := conv_by hl c
  have k2 := conv_by hm d
  go_enter Tryz.func30, Tryz.ntmps30
  go_wp2
  go_ret
  exact ⟨rfl, rfl⟩
end Go.Proofs.YtdnljmncdbcgeaaGreat

/- grain.Pen: num, Num, Truth, Text, Bytes. -/
namespace Go.Proofs.YtdnljmncdbcgeaaGreat
open Go.RowKit

/-- The pen at block pb has the buffer v, which reads as l. -/
structure Pen (w : World) (base pb : Nat) (v : Value) (l : List UInt8) : Prop where
  blk : Blk w pb 128 #[v]
  own : OwB w base v l

/-- What a pen's method leaves: the pen has l', and only the pen and its buffer have turned. -/
structure PenTo (w : World) (base pb : Nat) (v : Value) (l' : List UInt8) (w' : World) (v' : Value) : Prop where
  pen : Pen w' base pb v' l'
  fr : Fr (fun k => k = pb ∨ v.ownBlock = some k) w w'
  at_ : v'.ownBlock = v.ownBlock ∨ ∃ g, v'.ownBlock = some g ∧ w.heap.size ≤ g

theorem Pen.cell {w : World} {base pb : Nat} {v : Value} {l : List UInt8} (h : Pen w base pb v l) : w.cell? ⟨pb, 0, none⟩ = some v := h.blk.cell 0
theorem Pen.frozen {w : World} {base pb : Nat} {v : Value} {l : List UInt8} (h : Pen w base pb v l) : w.frozen? ⟨pb, 0, none⟩ = false := h.blk.frozen 0
theorem Pen.ne {w : World} {base pb : Nat} {v : Value} {l : List UInt8} (h : Pen w base pb v l) : v.ownBlock ≠ some pb := h.blk.own_ne h.own (by decide)
theorem Pen.alloc {w : World} {base pb : Nat} {v : Value} {l : List UInt8} (h : Pen w base pb v l) (o : Obj) : Pen (w.alloc o) base pb v l := ⟨h.blk.alloc o, h.own.alloc o⟩
theorem Pen.below {w w' : World} {base pb : Nat} {v : Value} {l : List UInt8} (h : Pen w base pb v l) (k : Below w.heap.size w w') : Pen w' base pb v l := ⟨h.blk.below k, h.own.below k⟩
theorem PenTo.refl {w : World} {base pb : Nat} {v : Value} {l : List UInt8} (h : Pen w base pb v l) : PenTo w base pb v l w v := ⟨h, Fr.refl _ _, .inl rfl⟩
theorem PenTo.trans {a b c : World} {base pb : Nat} {v v' v'' : Value} {l l' : List UInt8} (h : PenTo a base pb v l b v') (k : PenTo b base pb v' l' c v'') : PenTo a base pb v l' c v'' := by
  refine ⟨k.pen, h.fr.trans k.fr ?_, ?_⟩
  · intro x hx hS
    rcases hS with hS | hS
    · exact .inl hS
    · rcases h.at_ with e | ⟨g, e, hg⟩
      · exact .inr (by rw [← e]; exact hS)
      · rw [e] at hS
        injection hS with hS
        omega
  · rcases k.at_ with e | ⟨g, e, hg⟩
    · rw [e]; exact h.at_
    · exact .inr ⟨g, e, by have := h.fr.size; omega⟩
/-- new memory ahead of a pen's method -/
theorem PenTo.after {a b c : World} {base pb : Nat} {v v' : Value} {l l' : List UInt8} (h : Pen a base pb v l) (k : Below a.heap.size a b) (h' : PenTo b base pb v l' c v') : PenTo a base pb v l' c v' :=
  (⟨h.below k, Fr.of_below k _, .inl rfl⟩ : PenTo a base pb v l b v).trans h'
/-- the step of all: append onto the buffer, store it back -/
theorem PenTo.stored {a b c : World} {base pb : Nat} {v v' : Value} {l l' : List UInt8} (h : Pen a base pb v l) (k : Below a.heap.size a b) (hown : OwB c base v' l') (hg : b.grownBy c v.ownBlock) (hat : v'.ownBlock = v.ownBlock ∨ v'.ownBlock = some b.heap.size) :
    PenTo a base pb v l' (c.setCell ⟨pb, 0, none⟩ v') v' := by
  have hpb := h.blk.lt
  have hb : Pen b base pb v l := h.below k
  have hblk : Blk c pb 128 #[v] := hb.blk.grown hg hb.ne
  have hne : v'.ownBlock ≠ some pb := hblk.own_ne hown (by decide)
  have f1 : Fr (fun x => x = pb ∨ v.ownBlock = some x) a c := (Fr.of_below k _).trans (Fr.of_grown hg (S := fun x => v.ownBlock = some x) (fun _ _ e => e)) (fun x _ e => .inr e)
  refine ⟨⟨?_, ?_⟩, f1.setCell (fun _ => .inl rfl) _, ?_⟩
  · have := hblk.set_ 0 v'
    simpa using this
  · exact own_fr hown (S := fun x => x = pb) ((Fr.refl (fun x => x = pb) c).setCell (p := ⟨pb, 0, none⟩) (fun _ => rfl) v') (fun g hg' e => hne (by rw [hg', e]))
  · rcases hat with e | e
    · exact .inl e
    · exact .inr ⟨_, e, k.size⟩

theorem hid_take0 {L a d : List UInt8} (h : L = a) : Hid (L = a ++ d.take 0) := by rw [List.take_zero, List.append_nil]; exact h

theorem hid_take {L L' a d : List UInt8} {i : Nat} (h : L = a ++ d.take i) (h' : L' = L ++ [d.getD i 0]) (hi : i < d.length) : Hid (L' = a ++ d.take (i + 1)) := by
  show L' = a ++ d.take (i + 1)
  rw [h', h, List.append_assoc, List.take_succ_eq_append_getElem hi, List.getD_eq_getElem?_getD, List.getElem?_eq_getElem hi]
  rfl

theorem len64_any (n : Nat) (w : World) (hn : n < 18446744073709551616) :
    Calls Tryz.prog 126 #[.int .u64 n] w fun e w' => ∃ b : Nat, e = .returned (.int .i64 b) ∧ b ≤ 64 ∧ (b + 7) / 8 = (digs n).length ∧ w = w' := by
  refine (Tryz.bits_Len64 _ _ (by omega) (by omega)).mono ?_
  rintro e w' ⟨rfl, hw⟩
  exact ⟨_, rfl, bitLen_le (by simpa using hn), bitLen_wd (by simpa using hn), hw.symm⟩

set_option maxHeartbeats 400000 in
theorem num_any (base pb : Nat) (v : Value) (l : List UInt8) (n : Nat) (w : World) (hp : Pen w base pb v l) (hbase : base ≤ w.heap.size) (hn : n < 18446744073709551616) (hlen : l.length + 9 ≤ 140737488355328) :
    Calls Tryz.prog 97 #[.pointer (some ⟨pb, 0, none⟩), .int .u64 n] w fun e w' => e = .returned (.tuple #[]) ∧ ∃ v', PenTo w base pb v (l ++ numB n) w' v' := by
  have hc := hp.cell
  have hf := hp.frozen
  have hpb := hp.blk.lt
  obtain ⟨A, c, rfl, hlc, hcm, hA⟩ := hp.own.form
  go_enter Tryz.func97, Tryz.ntmps97
  go_wp2_with fail
  refine (len64_any _ _ hn).mono ?_
  rintro e w' ⟨b, rfl, hb, hw, rfl⟩
  have Hw := Lib.hid hw
  clear hw
  go_wp2_with (at_builtin; refine wpList_append_by rfl (.tmp 14) (.tmp 17) rfl (v := .slice A l.length c) rfl (hp.own.alloc _) rfl (OwB.lit1 w (base := 0) (b := UInt8.ofNat ((b + 7) / 8)) (by rw [bv_ofNat (by omega)]; rfl) (by omega)).rd (by simp; omega) (by simp; omega) ?_; intro L1 A1 c1 w1 hL1 hown hg hat; have hst := PenTo.stored hp ((Below.refl _ _).alloc (Nat.le_refl _) _) hown hg hat; have hc1 : w1.cell? ⟨pb, 0, none⟩ = some (.slice A l.length c) := ((hp.alloc _).blk.grown hg hp.ne).cell 0; have hf1 : w1.frozen? ⟨pb, 0, none⟩ = false := ((hp.alloc _).blk.grown hg hp.ne).frozen 0)
  rw [show ((b : Int) + 7) / 8 = ((digs n).length : Int) by rw [← Hw.out]; omega]
  rw [Hw.out] at hL1
  have hd8 := digs_len n
  generalize w1.setCell ⟨pb, 0, none⟩ (.slice A1 L1.length c1) = w2 at hst ⊢
  clear hown hg hat hc1 hf1
  have HP := Lib.hid hp
  clear hp hc hf hA
  go_loopw [22] (fun iv wr => ∃ (i : Nat) (Li : List UInt8) (Ai : Option Addr) (ci : Nat), i ≤ (digs n).length ∧ iv = .int .i64 (i : Int) ∧ PenTo w base pb (.slice A l.length c) Li wr (.slice Ai Li.length ci) ∧ Hid (Li = (l ++ [UInt8.ofNat (digs n).length]) ++ (digs n).take i)) (fun iv _ => (digs n).length - (intOf iv).toNat)
  case atStart => exact ⟨0, L1, A1, c1, Nat.zero_le _, rfl, hst, hid_take0 hL1.out⟩
  case round =>
    obtain ⟨i, Li, Ai, ci, hi, rfl, hpi, hLi⟩ := hrel
    clear hst
    have hc1 := hpi.pen.cell
    have hf1 := hpi.pen.frozen
    have hsz := hpi.fr.size
    have hpr := hpi.pen.blk.lt
    by_cases hlt : i < (digs n).length
    · go_wp2_with fail
      obtain ⟨k, hk⟩ : ∃ k : Nat, k + 1 + i = (digs n).length := ⟨(digs n).length - 1 - i, by omega⟩
      have w1' : IntKind.i64.wrap (((digs n).length : Int) - 1) = ((digs n).length : Int) - 1 := IntWalk.i64_in _ (by omega)
      have w2' : IntKind.i64.wrap (((digs n).length : Int) - 1 - i) = (k : Int) := by rw [show ((digs n).length : Int) - 1 - i = (k : Int) by omega]; exact IntWalk.i64_in _ (by omega)
      have w3' : IntKind.i64.wrap (8 * (k : Int)) = 8 * (k : Int) := IntWalk.i64_in _ (by omega)
      have w4' : 0 ≤ 8 * (k : Int) := by omega
      have Hk := Lib.hid hk
      clear hk
      have hll : Li.length = (l.length + 1) + i := by rw [hLi.out]; simp; omega
      have Hll := Lib.hid hll
      clear hll
      go_region_law (refine step_append_by rfl (.tmp 29) (.tmp 38) rfl (v := .slice Ai Li.length ci) rfl (hpi.pen.own.alloc _) rfl (OwB.lit1 wr (base := 0) (b := (digs n).getD i 0) (bv_digit hn Hk.out) (by omega)).rd (by have := Hll.out; simp; omega) (by simp; omega) ?_; intro L3 A3 c3 w3 hL3 hown3 hg3 hat3; have hblk3 := (hpi.pen.alloc _).blk.drew.grown hg3 hpi.pen.ne; have hc3 : w3.cell? ⟨pb, 0, none⟩ = some (.slice Ai Li.length ci) := hblk3.cell 0; have hf3 : w3.frozen? ⟨pb, 0, none⟩ = false := hblk3.frozen 0)
      all_goals
        have hst3 := PenTo.stored hpi.pen ((Below.refl _ _).alloc (Nat.le_refl _) _).drew hown3 hg3 hat3
        go_wp2_with fail
        go_roundw
        case rel => exact ⟨i + 1, L3, A3, c3, hlt, by go_num, hpi.trans hst3, hid_take hLi.out hL3.out hlt⟩
        case measure => simp [intOf]; omega
    · have e : i = (digs n).length := by omega
      go_wp2_with fail
      go_end0
      subst e
      refine ⟨rfl, .slice Ai Li.length ci, ?_⟩
      have hL : Li = l ++ numB n := by rw [hLi.out, List.take_length]; simp [numB]
      rw [← hL]
      exact hpi
end Go.Proofs.YtdnljmncdbcgeaaGreat

/- grain.Pen: Num, Truth, Text, Bytes; bytes.Clone. -/
namespace Go.Proofs.YtdnljmncdbcgeaaGreat
open Go.RowKit

theorem flat_take {α : Type} {f : α → List UInt8} {L l : List UInt8} {ns : List α} {i : Nat} (hi : i < ns.length) (h : L = l ++ (ns.take i).flatMap f) : L ++ f ns[i] = l ++ (ns.take (i + 1)).flatMap f := by
  rw [h, List.take_succ_eq_append_getElem hi, List.flatMap_append, List.append_assoc]
  simp
theorem flat9 : ∀ (ns : List Nat), (ns.flatMap numB).length ≤ 9 * ns.length
  | [] => by simp
  | n :: ns => by
    have h1 := numB_len n
    have h2 := flat9 ns
    simp only [List.flatMap_cons, List.length_append, List.length_cons]
    omega
theorem flat9t (ns : List Nat) (i : Nat) : ((ns.take i).flatMap numB).length ≤ 9 * i := by
  have h := flat9 (ns.take i)
  have h2 := List.length_take_le i ns
  omega

set_option maxHeartbeats 400000 in
theorem Num_any (base pb : Nat) (v : Value) (l : List UInt8) (A : Option Addr) (c : Nat) (ns : List Nat) (Z : Nat → Prop) (w : World) (hp : Pen w base pb v l) (hr : Rd w Z 1 A ns.length (ns.map u64v))
    (hZ : ∀ b, b < w.heap.size → Z b → ¬ (b = pb ∨ v.ownBlock = some b)) (hn : ∀ n ∈ ns, n < 18446744073709551616) (hbase : base ≤ w.heap.size) (hlen : l.length + 9 * ns.length ≤ 140737488355328) :
    Calls Tryz.prog 62 #[.pointer (some ⟨pb, 0, none⟩), .slice A ns.length c] w fun e w' => e = .returned (.tuple #[]) ∧ ∃ v', PenTo w base pb v (l ++ ns.flatMap numB) w' v' := by
  go_enter Tryz.func62, Tryz.ntmps62
  go_wp2_with fail
  go_loopw [10] (fun iv wr => ∃ (i : Nat) (Li : List UInt8) (v' : Value), i ≤ ns.length ∧ iv = .int .i64 (i : Int) ∧ PenTo w base pb v Li wr v' ∧ Hid (Li = l ++ (ns.take i).flatMap numB)) (fun iv _ => ns.length - (intOf iv).toNat)
  case atStart => exact ⟨0, l, v, Nat.zero_le _, rfl, PenTo.refl hp, by show l = _; simp⟩
  case round =>
    obtain ⟨i, Li, v', hi, rfl, hpi, hLi⟩ := hrel
    have hsz := hpi.fr.size
    by_cases hlt : i < ns.length
    · obtain ⟨b, off, rfl, _, _, hc⟩ := (hr.fr hpi.fr hZ).atm hlt
      have hx := hn _ (List.getElem_mem hlt)
      have hll : Li.length ≤ l.length + 9 * i := by rw [hLi.out, List.length_append]; have := flat9t ns i; omega
      have hLn := flat_take hlt hLi.out
      have HLn := Lib.hid hLn
      clear hLn
      generalize ns[i] = x at hc hx HLn
      unfold u64v at hc
      go_wp2_with (go_at_call 97; refine (num_any base pb v' Li x _ hpi.pen (by omega) hx (by omega)).mono ?_; rintro e w1 ⟨rfl, v1, h1⟩)
      go_roundw
      case rel => exact ⟨i + 1, _, v1, hlt, by go_num, hpi.trans h1, HLn⟩
      case measure => simp [intOf]; omega
    · have e : i = ns.length := by omega
      go_wp2_with fail
      go_end0
      subst e
      refine ⟨rfl, v', ?_⟩
      have hL : Li = l ++ ns.flatMap numB := by rw [hLi.out, List.take_length]
      rw [← hL]
      exact hpi

set_option maxHeartbeats 400000 in
theorem Num_nil (A : Option Addr) (n c : Nat) (w : World) : Calls Tryz.prog 62 #[.pointer none, .slice A n c] w fun e w' => e = .returned (.tuple #[]) ∧ w = w' := by
  go_enter Tryz.func62, Tryz.ntmps62
  go_wp2_with fail
  refine bodyPost_ret (results_none rfl _ _ _) rfl ?_
  exact ⟨rfl, rfl⟩

set_option maxHeartbeats 400000 in
theorem Bytes_any (base pb : Nat) (v : Value) (l : List UInt8) (w : World) (hp : Pen w base pb v l) (hlen : l.length ≤ 140737488355328) :
    Calls Tryz.prog 64 #[.pointer (some ⟨pb, 0, none⟩)] w fun e w' => ∃ (A' : Option Addr) (c' : Nat) (l' : List UInt8), e = .returned (.slice A' l'.length c') ∧ Hid (l' = l) ∧ OwB w' w.heap.size (.slice A' l'.length c') l' ∧ Below w.heap.size w w' := by
  have hc := hp.cell
  obtain ⟨A, c, rfl, hlc, hcm, hA⟩ := hp.own.form
  go_enter Tryz.func64, Tryz.ntmps64
  go_wp2_with fail
  refine (clone_any A c l _ _ hp.own.rd hlen).mono ?_
  rintro e w1 ⟨A', c', l', rfl, hx, ho, hb⟩
  go_wp2_with fail
  go_ret
  exact ⟨A', c', l', rfl, hx, ho, hb⟩

set_option maxHeartbeats 400000 in
theorem Bytes_nil (w : World) : Calls Tryz.prog 64 #[.pointer none] w fun e w' => e = .returned (.slice none 0 0) ∧ w = w' := by
  go_enter Tryz.func64, Tryz.ntmps64
  go_wp2_with fail
  go_ret
  exact ⟨rfl, rfl⟩

end Go.Proofs.YtdnljmncdbcgeaaGreat
