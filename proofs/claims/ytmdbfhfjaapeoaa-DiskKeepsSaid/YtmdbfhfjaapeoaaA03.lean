/- A row of a call's own at any offset: cells, stores, tails, append. No function of the program. -/
import Derived.Test.YtmdbfhfjaapeoaaA02
import Derived.ArgAppend

namespace Go.Proofs.Ytmdbfhfjaapeoaa
open Go.RowKit

/-- A is n elements of so many cells, with room for c, in a block of its own (element type e) at or beyond base. -/
structure Row (w : World) (base : Nat) (e : TypeId) (size : Nat) (A : Option Addr) (n c : Nat) (xs : List Value) : Prop where
  len : xs.length = n * size
  room : n ≤ c
  cap : c ≤ maxLen
  nil : A = none → n = 0 ∧ c = 0
  at_ : ∀ a, A = some a → ∃ g off cur, a = ⟨g, off, none⟩ ∧ base ≤ g ∧ Blk w g e cur ∧ off + c * size ≤ cur.size ∧ ∀ j u, xs[j]? = some u → cur[off + j]? = some u

namespace Row
variable {w w' : World} {base size n c : Nat} {e : TypeId} {A : Option Addr} {xs : List Value}
theorem none_ (w : World) (base : Nat) (e : TypeId) (size : Nat) : Row w base e size none 0 0 [] := ⟨by simp, Nat.le_refl _, by simp [maxLen], fun _ => ⟨rfl, rfl⟩, fun a h => by cases h⟩
theorem fr {S : Nat → Prop} (h : Row w base e size A n c xs) (k : Fr S w w') (hs : ∀ g, ablk A = some g → ¬ S g) : Row w' base e size A n c xs :=
  ⟨h.len, h.room, h.cap, h.nil, fun a ha => by
    obtain ⟨g, off, cur, e1, hb, hk, hsz, hc⟩ := h.at_ a ha
    exact ⟨g, off, cur, e1, hb, hk.fr k (hs g (by rw [ha, e1]; rfl)), hsz, hc⟩⟩
theorem below (h : Row w base e size A n c xs) (k : Below w.heap.size w w') : Row w' base e size A n c xs := h.fr (Fr.of_below k (fun _ => False)) (fun _ _ h => h)
theorem alloc (h : Row w base e size A n c xs) (o : Obj) : Row (w.alloc o) base e size A n c xs := h.below ((Below.refl _ _).alloc (Nat.le_refl _) o)
theorem drew (h : Row w base e size A n c xs) : Row w.drew base e size A n c xs := h.below (Below.refl _ _).drew
theorem lt (h : Row w base e size A n c xs) : ∀ g, ablk A = some g → base ≤ g ∧ g < w.heap.size := by
  intro g hg
  rcases A with _ | a
  · cases hg
  · obtain ⟨g', off, cur, e1, hb, hk, _⟩ := h.at_ a rfl
    subst e1
    injection hg with hg
    exact hg ▸ ⟨hb, hk.lt⟩
theorem rebase {base' : Nat} (h : Row w base e size A n c xs) (hb : ∀ g, ablk A = some g → base' ≤ g) : Row w base' e size A n c xs :=
  ⟨h.len, h.room, h.cap, h.nil, fun a ha => by
    obtain ⟨g, off, cur, e1, _, r⟩ := h.at_ a ha
    exact ⟨g, off, cur, e1, hb g (by rw [ha, e1]; rfl), r⟩⟩
theorem ne_blk {g : Nat} {t : TypeId} {cs : Array Value} (h : Row w base e size A n c xs) (hb : Blk w g t cs) (hne : e ≠ t) : ablk A ≠ some g := by
  intro hg
  rcases A with _ | a
  · cases hg
  · obtain ⟨g', off, cur, e1, _, hk, _⟩ := h.at_ a rfl
    subst e1
    injection hg with hg
    have hg' : g' = g := hg
    subst hg'
    exact Blk.ne_ hk hb hne rfl
theorem of_own (h : w.ownsRow base e size (.slice A n c) n xs) : Row w base e size A n c xs := by
  rcases h.2 with ⟨hv, hn⟩ | ⟨g, cap, cur, hv, hb, hg, hn, hm, hs, ht⟩
  · injection hv with h1 h2 h3
    subst h1 h2 h3
    exact ⟨h.1, Nat.le_refl _, by simp [maxLen], fun _ => ⟨rfl, rfl⟩, fun a ha => by cases ha⟩
  · injection hv with h1 h2 h3
    subst h1 h3
    refine ⟨h.1, hn, hm, fun h => (by cases h), fun a ha => ?_⟩
    injection ha with ha
    subst ha
    refine ⟨g, 0, cur, rfl, hb, hg, by omega, fun j u hu => ?_⟩
    rw [← ht, List.getElem?_take] at hu
    split at hu
    · simpa using hu
    · cases hu
theorem cell {g off : Nat} (h : Row w base e size (some ⟨g, off, none⟩) n c xs) {j : Nat} {u : Value} (hu : xs[j]? = some u) : w.cell? ⟨g, off + j, none⟩ = some u := by
  obtain ⟨g', off', cur, e1, _, hk, _, hc⟩ := h.at_ _ rfl
  injection e1 with h1 h2
  subst h1 h2
  rw [hk.cell, hc j u hu]
theorem frozen {g off : Nat} (h : Row w base e size (some ⟨g, off, none⟩) n c xs) (i : Nat) : w.frozen? ⟨g, i, none⟩ = false := by
  obtain ⟨g', off', cur, e1, _, hk, _, _⟩ := h.at_ _ rfl
  injection e1 with h1 h2
  subst h1 h2
  exact hk.frozen i
theorem addr (h : Row w base e size A n c xs) (hn : 0 < n) : ∃ g off, A = some ⟨g, off, none⟩ ∧ base ≤ g ∧ g < w.heap.size := by
  rcases A with _ | a
  · have := (h.nil rfl).1; omega
  · obtain ⟨g, off, cur, e1, hb, hk, _⟩ := h.at_ a rfl
    exact ⟨g, off, by rw [e1], hb, hk.lt⟩
theorem rd (h : Row w base e size A n c xs) : Rd w (fun b => ablk A = some b) size A n xs := by
  refine ⟨h.len, fun hn => ?_⟩
  have hn' : 0 < n := Nat.pos_of_mul_pos_right hn
  obtain ⟨g, off, rfl, hb, hlt⟩ := h.addr hn'
  exact ⟨g, off, rfl, rfl, hlt, fun j u hu => h.cell hu⟩
theorem put {g off : Nat} (h : Row w base e size (some ⟨g, off, none⟩) n c xs) (j : Nat) (u : Value) : Row (w.setCell ⟨g, off + j, none⟩ u) base e size (some ⟨g, off, none⟩) n c (xs.set j u) := by
  obtain ⟨g', off', cur, e1, hb, hk, hs, hc⟩ := h.at_ _ rfl
  injection e1 with h1 h2
  subst h1 h2
  refine ⟨by rw [List.length_set]; exact h.len, h.room, h.cap, fun h => (by cases h), fun a ha => ?_⟩
  injection ha with ha
  subst ha
  refine ⟨g, off, _, rfl, hb, hk.set_ (off + j) u, by simpa using hs, fun i v hv => ?_⟩
  rw [List.getElem?_set] at hv
  split at hv
  · rename_i hij
    subst hij
    split at hv
    · rename_i hjl
      have hlt : off + j < cur.size := by
        have := hc j _ (List.getElem?_eq_getElem hjl)
        exact (Array.getElem?_eq_some_iff.1 this).1
      rw [Array.getElem?_setIfInBounds_self_of_lt hlt]
      exact hv
    · cases hv
  · rename_i hij
    rw [Array.getElem?_setIfInBounds_ne (by omega)]
    exact hc i v hv
/-- s[k:] -/
theorem tail (h : Row w base e size A n c xs) {k : Nat} (hk : k ≤ n) : Row w base e size (if c = k then A else A.map (·.add (k * size))) (n - k) (c - k) (xs.drop (k * size)) := by
  have hr := h.room
  refine ⟨by rw [List.length_drop, h.len, Nat.sub_mul], by omega, by have := h.cap; omega, ?_, ?_⟩
  · intro hA
    split at hA
    · rename_i hck
      have := h.nil hA
      omega
    · rcases A with _ | a
      · have := h.nil rfl; omega
      · cases hA
  · intro a ha
    split at ha
    · rename_i hck
      obtain ⟨g, off, cur, e1, hb, hbk, hs, hc⟩ := h.at_ a ha
      refine ⟨g, off, cur, e1, hb, hbk, by rw [show c - k = 0 by omega]; omega, fun j u hu => ?_⟩
      have hn : n = k := by omega
      rw [List.drop_of_length_le (by rw [h.len, hn]; exact Nat.le_refl _)] at hu
      simp at hu
    · rcases A with _ | a0
      · cases ha
      · obtain ⟨g, off, cur, e1, hb, hbk, hs, hc⟩ := h.at_ a0 rfl
        subst e1
        injection ha with ha
        replace ha : (⟨g, off, none⟩ : Addr).add (k * size) = a := ha
        rw [add_none] at ha
        subst ha
        have hmul : (c - k) * size = c * size - k * size := Nat.sub_mul _ _ _
        have hle : k * size ≤ c * size := Nat.mul_le_mul_right _ (by omega)
        refine ⟨g, off + k * size, cur, rfl, hb, hbk, by omega, fun j u hu => ?_⟩
        rw [Nat.add_assoc]
        exact hc _ u (by rw [← hu, List.getElem?_drop])
/-- s[:k:k] -/
theorem head (h : Row w base e size A n c xs) {k : Nat} (hk : k ≤ n) : Row w base e size A k k (xs.take (k * size)) := by
  have hr := h.room
  have hle : k * size ≤ n * size := Nat.mul_le_mul_right _ hk
  refine ⟨by rw [List.length_take, h.len]; omega, Nat.le_refl _, by have := h.cap; omega, fun hA => by have := h.nil hA; omega, fun a ha => ?_⟩
  obtain ⟨g, off, cur, e1, hb, hbk, hs, hc⟩ := h.at_ a ha
  have : k * size ≤ c * size := Nat.mul_le_mul_right _ (by omega)
  refine ⟨g, off, cur, e1, hb, hbk, by omega, fun j u hu => ?_⟩
  rw [List.getElem?_take] at hu
  split at hu
  · exact hc j u hu
  · cases hu
end Row

theorem blk_setCells {g : Nat} {t : TypeId} : ∀ (vs : List Value) (o : Nat) {w : World} {cs : Array Value}, Blk w g t cs → ∃ cs', Blk (w.setCells g o vs) g t cs' ∧ cs'.size = cs.size
  | [], o, w, cs, h => ⟨cs, h, rfl⟩
  | v :: vs, o, w, cs, h => by
    obtain ⟨cs', h1, h2⟩ := blk_setCells vs (o + 1) (h.set_ o v)
    exact ⟨cs', h1, by rw [h2]; simp⟩
theorem grown_setCells (g : Nat) : ∀ (vs : List Value) (o : Nat) (w : World), w.grownBy (w.setCells g o vs) (some g)
  | [], o, w => World.grownBy.refl w _
  | v :: vs, o, w => by
    have h1 : w.grownBy (w.setCell ⟨g, o, none⟩ v) (some g) := ⟨rfl, rfl, rfl, by simp [World.setCell], fun k _ hk => Below.heap_setCell w ⟨g, o, none⟩ v k (fun e => hk (by rw [e]))⟩
    have h2 := grown_setCells g vs (o + 1) (w.setCell ⟨g, o, none⟩ v)
    exact h1.trans h2

section
variable {P : Program} (w : World)
theorem run_append_row (base : Nat) (t ty e : TypeId) (i : TypeInfo) (z : Value) (size bytes : Nat) (ht : P.underlying t = some (.slice e)) (hi : P.info? e = some i) (hz : i.zero = some z)
    (hsize : i.size = size) (hby : i.bytes = bytes) (hzs : z.cells.size = size) (hsz : 0 < size)
    {A : Option Addr} {n c : Nat} {xs : List Value} (h : Row w base e size A n c xs)
    {Z : Nat → Prop} {B : Option Addr} {m d : Nat} {news : List Value} (hr : Rd w Z size B m news) (h1 : ∀ u ∈ news, u.oneCell' = true)
    (h63 : n + m ≤ maxLen) (hbytes : (n + m) * bytes ≤ 140737488355328) (hbase : base ≤ w.heap.size) :
    ∃ A' c' w', (Builtin.append_ #[t, t] ty #[.slice A n c, .slice B m d]).run P w = .ok (.slice A' (n + m) c') w' ∧ Row w' base e size A' (n + m) c' (xs ++ news) ∧ w.grownBy w' (ablk A) ∧ (∀ g, ablk A' = some g → ablk A = some g ∨ w.heap.size ≤ g) := by
  rcases B with _ | ad
  · have hm : m = 0 := by
      rcases Nat.eq_zero_or_pos m with h0 | h0
      · exact h0
      · obtain ⟨b, off, hh, _⟩ := hr.2 (Nat.mul_pos h0 hsz)
        cases hh
    subst hm
    have hn : news = [] := List.eq_nil_of_length_eq_zero (by simpa using hr.1)
    subst hn
    refine ⟨A, c, w, ?_, by simpa using h, World.grownBy.refl w _, fun g hg => .inl hg⟩
    rcases A with _ | a
    · obtain ⟨rfl, rfl⟩ := h.nil rfl
      simp [Builtin.append_, run_underlying ht, sizeOf, typeInfo, hi, Builtin.lenOf, Builtin.firstCells]
    · have := h.room
      simp [Builtin.append_, run_underlying ht, sizeOf, typeInfo, hi, Builtin.lenOf, Builtin.firstCells, this, storeCells]
  · have hnews : ∀ j u, news[j]? = some u → w.cell? (ad.add j) = some u := by
      intro j u hu
      obtain ⟨b, off, hh, _, _, hc⟩ := hr.atj hu
      injection hh with hh
      subst hh
      rw [add_none]
      exact hc
    rcases A with _ | a
    · obtain ⟨rfl, rfl⟩ := h.nil rfl
      have hx : xs = [] := List.eq_nil_of_length_eq_zero (by simpa using h.len)
      subst hx
      obtain ⟨v', w', hrun, h2, h3, _, h5⟩ := run_append_own_at (P := P) w base t ty e i z size bytes ht hi hz hsize hby hzs hsz (.slice none 0 0) 0 [] (World.ownsRow_nil _ _ _ _) ad m d news hr.1 hnews h1 h63 hbytes hbase
      obtain ⟨A', c', rfl, _, _, hb⟩ := own_form h2
      refine ⟨A', c', w', hrun, Row.of_own h2, h3, ?_⟩
      intro g hg
      rcases A' with _ | a'
      · cases hg
      · injection hg with hg
        rcases h5 with h5 | h5
        · simp [Value.ownBlock] at h5
        · simp [Value.ownBlock] at h5
          exact .inr (by omega)
    · obtain ⟨g, off, cur, e1, hb, hk, hs, hc⟩ := h.at_ a rfl
      subst e1
      by_cases hroom : n + m ≤ c
      · subst hsize
        have hnl : news.length = m * i.size := hr.1
        have hfit : n * i.size + m * i.size ≤ c * i.size := by rw [← Nat.add_mul]; exact Nat.mul_le_mul_right _ hroom
        have hin : ∀ j, j < news.length → (w.cell? ⟨g, off + n * i.size + j, none⟩).isSome = true := by
          intro j hj
          rw [hk.cell, Array.getElem?_eq_getElem (by omega)]
          rfl
        have hrun := run_append_room_cells (P := P) w t ty e i ht hi g off n c ad m d news hnl hnews h1 hroom hin (fun j _ => hk.frozen _)
        refine ⟨_, _, _, hrun, ?_, grown_setCells g news _ w, fun g hg => .inl hg⟩
        obtain ⟨cs', hk', hs'⟩ := blk_setCells news (off + n * i.size) hk
        refine ⟨by rw [List.length_append, h.len, hnl, Nat.add_mul], hroom, h.cap, fun hh => (by cases hh), fun a ha => ?_⟩
        injection ha with ha
        subst ha
        refine ⟨g, off, cs', rfl, hb, hk', by omega, fun j u hu => ?_⟩
        rw [← hk'.cell]
        by_cases hj : j < xs.length
        · rw [List.getElem?_append_left hj] at hu
          rw [World.cell?_setCells_out g news _ w ⟨g, off + j, none⟩ (fun _ _ => .inl (by have := h.len; simp only; omega)), hk.cell]
          exact hc j u hu
        · rw [List.getElem?_append_right (by omega)] at hu
          have hjl := (List.getElem?_eq_some_iff.1 hu)
          obtain ⟨hjl, hju⟩ := hjl
          have hx := World.cell?_setCells_in g news (off + n * i.size) w hin (j - xs.length) hjl
          have hl := h.len
          rw [show off + n * i.size + (j - xs.length) = off + j by omega] at hx
          rw [hx, hju]
      · obtain ⟨v', w', hrun, h2, h3⟩ := run_append_arg_grows (P := P) w t ty e i z size bytes ht hi hz hsize hby hzs hsz ⟨g, off, none⟩ n c xs h.len (fun j u hu => by rw [add_none]; exact h.cell hu) ad m d news hr.1 hnews (by omega) h63 hbytes
        obtain ⟨A', c', rfl, _, _, hb2, hnil, _⟩ := own_form h2
        refine ⟨A', c', w', hrun, (Row.of_own h2).rebase (fun g hg => Nat.le_trans hbase (hb2 g hg).1), ⟨h3.os, h3.tape, h3.output, h3.size, fun k hk _ => h3.block k hk (by simp)⟩, ?_⟩
        exact fun g' hg' => .inr (hb2 g' hg').1
theorem wp_append_row {o : Oper} {a : Act} {K : Act → World → Prop} {Q : Exit → Act → World → Prop} (s x : Operand) (t : TypeId)
    (ho : o.op = .call { callee := .builtin .append, args := #[s, x], argTypes := #[t, t] })
    (base : Nat) (e : TypeId) (i : TypeInfo) (z : Value) (size bytes : Nat) (ht : P.underlying t = some (.slice e)) (hi : P.info? e = some i) (hz : i.zero = some z)
    (hsize : i.size = size) (hby : i.bytes = bytes) (hzs : z.cells.size = size) (hsz : 0 < size)
    {A : Option Addr} {n c : Nat} {xs : List Value} (hs : a.eval s = .slice A n c) (hrow : Row w base e size A n c xs)
    {Z : Nat → Prop} {B : Option Addr} {m d : Nat} {news : List Value} (hx : a.eval x = .slice B m d) (hr : Rd w Z size B m news) (h1 : ∀ u ∈ news, u.oneCell' = true)
    (h63 : n + m ≤ maxLen) (hbytes : (n + m) * bytes ≤ 140737488355328) (hbase : base ≤ w.heap.size)
    (h : ∀ (A' : Option Addr) (c' : Nat) (w' : World), Row w' base e size A' (n + m) c' (xs ++ news) → w.grownBy w' (ablk A) → (∀ g, ablk A' = some g → ablk A = some g ∨ w.heap.size ≤ g) → K (a.put o.dst (.slice A' (n + m) c')) w') : o.wp P a w K Q := by
  obtain ⟨A', c', w', hrun, h2, h3, h4⟩ := run_append_row (P := P) w base t o.type e i z size bytes ht hi hz hsize hby hzs hsz hrow hr h1 h63 hbytes hbase (d := d)
  unfold Oper.wp execOp
  simp only [ho, resolve, invoke, builtin, Sem.run_bind, Sem.run_pure, Result.andThen_ok, List.map_toArray, List.map_cons, List.map_nil, hs, hx, hrun]
  exact h A' c' w' h2 h3 h4

theorem wpList_append_row {ops : Array Oper} {rest : List Oper} {o : Oper} {a : Act} {Q : Exit → Act → World → Prop} (hgd : o.guard = none) (s x : Operand) (t : TypeId)
    (ho : o.op = .call { callee := .builtin .append, args := #[s, x], argTypes := #[t, t] })
    (base : Nat) (e : TypeId) (i : TypeInfo) (z : Value) (size bytes : Nat) (ht : P.underlying t = some (.slice e)) (hi : P.info? e = some i) (hz : i.zero = some z)
    (hsize : i.size = size) (hby : i.bytes = bytes) (hzs : z.cells.size = size) (hsz : 0 < size)
    {A : Option Addr} {n c : Nat} {xs : List Value} (hs : a.eval s = .slice A n c) (hrow : Row w base e size A n c xs)
    {Z : Nat → Prop} {B : Option Addr} {m d : Nat} {news : List Value} (hx : a.eval x = .slice B m d) (hr : Rd w Z size B m news) (h1 : ∀ u ∈ news, u.oneCell' = true)
    (h63 : n + m ≤ maxLen) (hbytes : (n + m) * bytes ≤ 140737488355328) (hbase : base ≤ w.heap.size)
    (h : ∀ (A' : Option Addr) (c' : Nat) (w' : World), Row w' base e size A' (n + m) c' (xs ++ news) → w.grownBy w' (ablk A) → (∀ g, ablk A' = some g → ablk A = some g ∨ w.heap.size ≤ g) → wpList P ops Q rest (a.put o.dst (.slice A' (n + m) c')) w') : wpList P ops Q (o :: rest) a w :=
  wpList_plain hgd fun _ hK => wp_append_row w s x t ho base e i z size bytes ht hi hz hsize hby hzs hsz hs hrow hx hr h1 h63 hbytes hbase fun A' c' w' h2 h3 h4 => hK _ _ (h A' c' w' h2 h3 h4)

theorem step_append_row {ops : Array Oper} {o : Oper} {a : Act} {K : Act → World → Prop} {Q : Exit → Act → World → Prop} {E : Prop} (hgd : o.guard = none) (s x : Operand) (t : TypeId)
    (ho : o.op = .call { callee := .builtin .append, args := #[s, x], argTypes := #[t, t] })
    (base : Nat) (e : TypeId) (i : TypeInfo) (z : Value) (size bytes : Nat) (ht : P.underlying t = some (.slice e)) (hi : P.info? e = some i) (hz : i.zero = some z)
    (hsize : i.size = size) (hby : i.bytes = bytes) (hzs : z.cells.size = size) (hsz : 0 < size)
    {A : Option Addr} {n c : Nat} {xs : List Value} (hs : a.eval s = .slice A n c) (hrow : Row w base e size A n c xs)
    {Z : Nat → Prop} {B : Option Addr} {m d : Nat} {news : List Value} (hx : a.eval x = .slice B m d) (hr : Rd w Z size B m news) (h1 : ∀ u ∈ news, u.oneCell' = true)
    (h63 : n + m ≤ maxLen) (hbytes : (n + m) * bytes ≤ 140737488355328) (hbase : base ≤ w.heap.size)
    (h : ∀ (A' : Option Addr) (c' : Nat) (w' : World), Row w' base e size A' (n + m) c' (xs ++ news) → w.grownBy w' (ablk A) → (∀ g, ablk A' = some g → ablk A = some g ∨ w.heap.size ≤ g) → K (a.put o.dst (.slice A' (n + m) c')) w') :
    if Region.wanted o (yielded ops a.tmps) = true then Oper.wp P o a w K Q else E := by
  have hw : Region.wanted o (yielded ops a.tmps) = true := by simp [Region.wanted, hgd]
  rw [if_pos hw]
  exact wp_append_row w s x t ho base e i z size bytes ht hi hz hsize hby hzs hsz hs hrow hx hr h1 h63 hbytes hbase h
end
end Go.Proofs.Ytmdbfhfjaapeoaa

/- slices.Grow of nil, slices.Concat of two rows, at bytes. -/
namespace Go.Proofs.Ytmdbfhfjaapeoaa
open Go.RowKit

theorem Row.zero {w : World} {base size n c : Nat} {e : TypeId} {A : Option Addr} {xs : List Value} (h : Row w base e size A n c xs) : Row w base e size A 0 c [] :=
  ⟨by simp, Nat.zero_le _, h.cap, fun hA => ⟨rfl, (h.nil hA).2⟩, fun a ha => by
    obtain ⟨g, off, cur, e1, hb, hk, hs, _⟩ := h.at_ a ha
    exact ⟨g, off, cur, e1, hb, hk, hs, by simp⟩⟩

set_option maxHeartbeats 400000 in
theorem growNil_any (n : Nat) (w : World) (hn : n ≤ 1099511627776) :
    Calls Try.prog 44 #[.slice none 0 0, .int .i64 n] w fun e w' => ∃ A c, e = .returned (.slice A 0 c) ∧ Row w' w.heap.size 5 1 A 0 c [] ∧ Below w.heap.size w w' := by
  by_cases h0 : n = 0
  · subst h0
    go_enter Try.func44, Try.ntmps44
    go_wp2_with fail
    go_ret
    exact ⟨none, 0, rfl, Row.none_ _ _ _ _, Below.refl _ _⟩
  · have h1 : 0 < (n : Int) := by omega
    have hby : Try.t5.bytes = 1 := by kernel_rfl
    have hA : (n : Int) * (Try.t5.bytes : Int) ≤ 281474976710656 := by rw [hby]; omega
    have hB : Builtin.nextslicecap n 0 * Try.t5.bytes ≤ 281474976710656 := growslice_fits (by omega) (by rw [hby]; omega)
    have hN : ¬ n * 1 = 0 := by omega
    have hge := grownCap_ge w n 0 5
    have hcm := grownCap_le_maxLen w n 0 5 (by simp only [maxLen]; omega)
    clear hby
    go_enter Try.func44, Try.ntmps44
    go_wp2_with fail
    unfold grownCap at hge hcm
    generalize (Question.appendCap n 0 5).cut (w.tape w.drawn (Question.appendCap n 0 5)) = k at *
    go_ret
    refine ⟨some ⟨w.heap.size, 0, none⟩, k, rfl, ⟨by simp, Nat.zero_le _, hcm, fun h => (by cases h), fun a ha => ?_⟩, ((Below.refl _ _).alloc (Nat.le_refl _) _).drew⟩
    injection ha with ha
    subst ha
    refine ⟨w.heap.size, 0, _, rfl, Nat.le_refl _, (Blk.new w _ _).drew, ?_, by simp⟩
    rw [Array.size_append, size_zeroCells, size_zeroCells]
    simp
    omega
set_option maxRecDepth 100000 in
set_option maxHeartbeats 1000000 in
/-- bytes' rows of two, one behind the other -/
theorem concat2_any (q : Nat) (A1 A2 : Option Addr) (n1 c1 n2 c2 : Nat) (xs1 xs2 : List Value) (Z : Nat → Prop) (w : World) (h1 : w.cell? ⟨q, 0, none⟩ = some (.slice A1 n1 c1)) (h2 : w.cell? ⟨q, 1, none⟩ = some (.slice A2 n2 c2)) (hq : q < w.heap.size)
    (hr1 : Rd w Z 1 A1 n1 xs1) (hr2 : Rd w Z 1 A2 n2 xs2) (ho1 : ∀ u ∈ xs1, u.oneCell' = true) (ho2 : ∀ u ∈ xs2, u.oneCell' = true) (hn : n1 + n2 ≤ 1099511627776) :
    Calls Try.prog 29 #[.slice (some ⟨q, 0, none⟩) 2 2] w fun e w' => ∃ A c, e = .returned (.slice A (n1 + n2) c) ∧ Row w' w.heap.size 5 1 A (n1 + n2) c (xs1 ++ xs2) ∧ Below w.heap.size w w' := by
  obtain ⟨i0, hi0, hz0, hz1, hz2⟩ := info_parts u8_info
  go_enter Try.func29, Try.ntmps29
  go_wp2_with fail
  go_loopw [3, 11] (fun sv iv wr => w = wr ∧ ((sv = .int .i64 0 ∧ iv = .int .i64 0) ∨ (sv = .int .i64 n1 ∧ iv = .int .i64 1) ∨ (sv = .int .i64 ((n1 + n2 : Nat) : Int) ∧ iv = .int .i64 2))) (fun _ iv _ => 2 - (intOf iv).toNat)
  case atStart => exact ⟨rfl, .inl ⟨rfl, rfl⟩⟩
  case round =>
    obtain ⟨rfl, ⟨rfl, rfl⟩ | ⟨rfl, rfl⟩ | ⟨rfl, rfl⟩⟩ := hrel
    · go_wp2_with fail
      go_roundw
      case rel => exact ⟨trivial, .inr (.inl ⟨by go_num, rfl⟩)⟩
      case measure => simp [intOf]
    · go_wp2_with fail
      go_roundw
      case rel => exact ⟨trivial, .inr (.inr ⟨by go_num, rfl⟩)⟩
      case measure => simp [intOf]
    · go_wp2_with fail
      refine (growNil_any (n1 + n2) _ hn).mono ?_
      rintro e w1 ⟨A, c, rfl, hrow, hb1⟩
      have g1 := (World.cell?_of_block (w := w) (hb1.block q hq)).trans h1
      have g2 := (World.cell?_of_block (w := w) (hb1.block q hq)).trans h2
      go_wp2_with fail
      go_loopw [6, 27] (fun nv iv wr => ∃ (A : Option Addr) (n c : Nat) (xs : List Value), nv = .slice A n c ∧ Row wr w.heap.size 5 1 A n c xs ∧ Below w.heap.size w wr ∧ ((iv = .int .i64 0 ∧ n = 0 ∧ xs = []) ∨ (iv = .int .i64 1 ∧ n = n1 ∧ xs = xs1) ∨ (iv = .int .i64 2 ∧ n = n1 + n2 ∧ xs = xs1 ++ xs2))) (fun _ iv _ => 2 - (intOf iv).toNat)
      case atStart => exact ⟨A, 0, c, [], rfl, hrow, hb1, .inl ⟨rfl, rfl, rfl⟩⟩
      case round =>
      clear hrow g1 g2
      obtain ⟨A, n, c, xs, rfl, hrow, hb, ⟨rfl, rfl, rfl⟩ | ⟨rfl, rfl, rfl⟩ | ⟨rfl, rfl, rfl⟩⟩ := hrel
      · have hbw := hb.size
        have g1 := (World.cell?_of_block (w := w) (hb.block q hq)).trans h1
        have g2 := (World.cell?_of_block (w := w) (hb.block q hq)).trans h2
        go_wp2_with (at_builtin; refine wpList_append_row _ rfl (.tmp 31) (.tmp 32) 23 rfl w.heap.size 5 i0 _ 1 1 Try.underlying23 hi0 hz0 hz1 hz2 rfl (by omega) rfl hrow rfl (hr1.below hb) ho1 (by simp only [maxLen]; omega) (by omega) hbw ?_; intro A2 c2' w2 hrow2 hg2 hat2)
        have hb2 : Below w.heap.size w w2 := hb.trans ((Fr.of_grown hg2 (S := fun x => w.heap.size ≤ x) (fun k _ e => (hrow.lt k e).1)).below hbw (fun k hk e => by omega))
        go_roundw
        case rel => exact ⟨A2, n1, c2', xs1, rfl, by simpa using hrow2, hb2, .inr (.inl ⟨by go_num, rfl, rfl⟩)⟩
        case measure => simp [intOf]
      · have hbw := hb.size
        have g1 := (World.cell?_of_block (w := w) (hb.block q hq)).trans h1
        have g2 := (World.cell?_of_block (w := w) (hb.block q hq)).trans h2
        go_wp2_with (at_builtin; refine wpList_append_row _ rfl (.tmp 31) (.tmp 32) 23 rfl w.heap.size 5 i0 _ 1 1 Try.underlying23 hi0 hz0 hz1 hz2 rfl (by omega) rfl hrow rfl (hr2.below hb) ho2 (by simp only [maxLen]; omega) (by omega) hbw ?_; intro A2 c2' w2 hrow2 hg2 hat2)
        have hb2 : Below w.heap.size w w2 := hb.trans ((Fr.of_grown hg2 (S := fun x => w.heap.size ≤ x) (fun k _ e => (hrow.lt k e).1)).below hbw (fun k hk e => by omega))
        go_roundw
        case rel => exact ⟨A2, _, c2', _, rfl, hrow2, hb2, .inr (.inr ⟨by go_num, rfl, rfl⟩)⟩
        case measure => simp [intOf]
      · go_wp2_with fail
        go_ret
        exact ⟨A, c, rfl, hrow, hb⟩
end Go.Proofs.Ytmdbfhfjaapeoaa

/- disk.Disk: Sync, Drop, Append. -/
namespace Go.Proofs.Ytmdbfhfjaapeoaa
open Go.RowKit Go.Maps

theorem ask_ne {D : DP} {n : Int} (h : askS D n ≠ 0) : (askS D n == 0) = false := by simpa using h
theorem DiskAt.mem {w : World} {tb mb : Nat} {L : List (Int × FV)} {D : DP} (h : DiskAt w tb mb L D) {n : Int} (hn : n ∈ keysZ D.L) : n ∈ keysZ L := by rw [← keys_plainD, h.plain.out]; exact hn

set_option maxRecDepth 100000 in
set_option maxHeartbeats 1000000 in
theorem sync_any (tb mb : Nat) (L : List (Int × FV)) (D : DP) (k : Nat) (n : Int) (w : World) (h : DiskAt w tb mb L D) (hok : DOk D k) (hk : k ≤ 1000000) (hn : (Lit.int .i64 n).wf = true) :
    Calls Try.prog 11 #[.pointer (some ⟨tb, 0, none⟩), .int .i64 n] w fun e w' => e = .returned (.int .i64 (syncS D n).2) ∧ DiskTo w tb mb (syncS D n).1 w' := by
  have hb0 : Below w.heap.size w (w.alloc (.cells #[.int .i64 0] 28)) := (by repeat (first | exact Below.refl _ _ | refine Below.alloc ?_ (by simp) _ | refine Below.setCell ?_ (by simp) _ | refine Below.drew ?_))
  have h0 := h.below hb0
  have HAT := at_any tb mb L D n _ h0 hn
  have htl := h.blk.lt
  have hml := h.map.lt
  have hlen : L.length ≤ 1000000 := by have := hok.len; rw [← h.plain.out, plainD_len] at this; omega
  have HD := Lib.hid h
  have HO := Lib.hid hok
  have HN := Lib.hid hn
  clear h h0 hok hn
  by_cases h0 : askS D n = 0
  · obtain ⟨D', hD'⟩ : ∃ D', D' = (⟨putZ D.L n ((fileS D n).1, ((fileS D n).1.length : Int)), D.last, D.room, D.left⟩ : DP) := ⟨_, rfl⟩
    have HEQ : syncS D n = (countS D', 0) := by unfold syncS; rw [if_neg (by simpa using h0), hD']
    rw [HEQ]
    have HAS := Lib.hid (ask_some h0)
    rw [h0] at HAT
    rw [if_pos rfl] at HAT
    have HDP := Lib.hid hD'
    clear hD' h0 HEQ
    replace HAT := Lib.hid HAT
    go_enter_defers Try.func11, Try.ntmps11
    go_wp2_with fail
    refine HAT.out.mono ?_
    rintro e w1 ⟨⟨f, rfl, hp, hfx⟩, hb1⟩
    have hw1 := hb0.trans (hb1.mono hb0.size)
    have HFX := Lib.hid hfx
    have HP := Lib.hid hp
    have x1 : Blk w1 w.heap.size 28 #[.int .i64 0] := (Blk.new w 28 #[.int .i64 0]).below hb1
    have g0 := x1.cell 0
    have f0 := x1.frozen 0
    simp only [List.getElem?_toArray, List.getElem?_cons_zero] at g0
    have hs1 := x1.lt
    clear HAT hb1 hfx hp
    go_wp2_with fail
    have h1 := HD.out.below hw1
    have k5 : Fr (fun x => x = w.heap.size) w1 (w1.setCell ⟨w.heap.size, 0, none⟩ (.int .i64 0)) := (Fr.refl (fun x => x = w.heap.size) w1).setAt w.heap.size 0 rfl _
    have h5 := h1.fr k5 (fun e => by omega) (fun e => by omega) (fun x hx => x1.noBytes (h1.ok x hx).1)
    have ba : Below (w1.setCell ⟨w.heap.size, 0, none⟩ (.int .i64 0)).heap.size (w1.setCell ⟨w.heap.size, 0, none⟩ (.int .i64 0)) ((w1.setCell ⟨w.heap.size, 0, none⟩ (.int .i64 0)).alloc (.cells #[.slice f.x.A f.x.l.length f.x.c, .int .i64 (f.x.l.length : Int)] 65)) := (Below.refl _ _).alloc (Nat.le_refl _) _
    have H6 := Lib.hid (h5.below ba)
    have X6 : Hid (Blk ((w1.setCell ⟨w.heap.size, 0, none⟩ (.int .i64 0)).alloc (.cells #[.slice f.x.A f.x.l.length f.x.c, .int .i64 (f.x.l.length : Int)] 65)) w.heap.size 28 #[.int .i64 0]) := Lib.hid (by simpa using (x1.set_ 0 (.int .i64 0)).below ba)
    have FB : Blk ((w1.setCell ⟨w.heap.size, 0, none⟩ (.int .i64 0)).alloc (.cells #[.slice f.x.A f.x.l.length f.x.c, .int .i64 (f.x.l.length : Int)] 65)) w1.heap.size 65 #[.slice f.x.A f.x.l.length f.x.c, .int .i64 (f.x.l.length : Int)] := by simpa [World.setCell] using Blk.new (w1.setCell ⟨w.heap.size, 0, none⟩ (.int .i64 0)) 65 #[.slice f.x.A f.x.l.length f.x.c, .int .i64 (f.x.l.length : Int)]
    have K6 : Hid (Fr (fun g => g = tb ∨ g = mb) w ((w1.setCell ⟨w.heap.size, 0, none⟩ (.int .i64 0)).alloc (.cells #[.slice f.x.A f.x.l.length f.x.c, .int .i64 (f.x.l.length : Int)] 65))) := Lib.hid (((Fr.of_below hw1 (fun g => g = tb ∨ g = mb)).trans k5 (fun x hx e => by omega)).then_below ba)
    have B6 : Hid (f.x.ok ((w1.setCell ⟨w.heap.size, 0, none⟩ (.int .i64 0)).alloc (.cells #[.slice f.x.A f.x.l.length f.x.c, .int .i64 (f.x.l.length : Int)] 65)) (fun _ => True)) := Lib.hid (BV.ok.below (w := w1.setCell ⟨w.heap.size, 0, none⟩ (.int .i64 0)) (x := f.x) (Z := fun _ => True) ⟨((x1.noBytes HFX.out.1).fr k5 (fun _ _ hz => hz)).mono (fun _ _ _ => trivial), HFX.out.2⟩ ba)
    have b6 := H6.out.blk
    clear h1 k5 h5 ba
    generalize ((w1.setCell ⟨w.heap.size, 0, none⟩ (.int .i64 0)).alloc (.cells #[.slice f.x.A f.x.l.length f.x.c, .int .i64 (f.x.l.length : Int)] 65)) = w6 at *
    refine wp_region_b 6 (by kernel_rfl) (by kernel_rfl) ?_
    simp only [List.take_succ_cons, List.take_zero, List.drop_succ_cons, List.drop_zero]
    refine lb_move _ (by kernel_rfl) rfl ⟨_, (by ((try simp [go_sem]); (try rfl); done)), _, (by (simp only [Act.put, List.setIfInBounds_toArray, List.set_cons_zero, List.set_cons_succ]; rfl)), ?_⟩
    refine lb_val (by kernel_rfl) ⟨_, (by (intro w' hC; clear hC; (try go_simp); (try with_reducible rfl); done)), _, (by (simp only [Act.put, List.setIfInBounds_toArray, List.set_cons_zero, List.set_cons_succ]; rfl)), ?_⟩
    refine lb_val (by kernel_rfl) ⟨_, (by (intro w' hC; clear hC; (try go_simp); (try with_reducible rfl); done)), _, (by (simp only [Act.put, List.setIfInBounds_toArray, List.set_cons_zero, List.set_cons_succ]; rfl)), ?_⟩
    refine lb_val (by kernel_rfl) ⟨_, (by (intro w' hC; (have q0 := (b6.below hC).cell 0; have p0 := (FB.below hC).cell 0; have p1 := (FB.below hC).cell 1; simp only [List.getElem?_toArray, List.getElem?_cons_zero, List.getElem?_cons_succ] at q0 p0 p1); clear hC; (try go_simp); (try with_reducible rfl); done)), _, (by (simp only [Act.put, List.setIfInBounds_toArray, List.set_cons_zero, List.set_cons_succ]; rfl)), ?_⟩
    refine lb_move _ (by kernel_rfl) rfl ⟨_, (by ((try simp [go_sem]); (try rfl); done)), _, (by (simp only [Act.put, List.setIfInBounds_toArray, List.set_cons_zero, List.set_cons_succ]; rfl)), ?_⟩
    refine lb_val (by kernel_rfl) ⟨_, (by (intro w' hC; (have q0 := (b6.below hC).cell 0; have p0 := (FB.below hC).cell 0; have p1 := (FB.below hC).cell 1; simp only [List.getElem?_toArray, List.getElem?_cons_zero, List.getElem?_cons_succ] at q0 p0 p1); clear hC; (try go_simp); (try with_reducible rfl); done)), _, (by (simp only [Act.put, List.setIfInBounds_toArray, List.set_cons_zero, List.set_cons_succ]; rfl)), ?_⟩
    refine .nil ?_
    intro w7 hb7
    have h7 := H6.out.below hb7
    have hmlen : (mapD L).length < maxLen := by rw [mapD_len]; simp only [maxLen]; omega
    obtain ⟨w8, hrun, hm8, hg8, _⟩ := h7.map.store Try.underlying3 Try.underlying50 n HN.out (.agg #[.slice f.x.A f.x.l.length f.x.c, .int .i64 (f.x.l.length : Int)]) hmlen
    have h8 : DiskAt w8 tb mb (putZ L n ⟨f.x, (f.x.l.length : Int)⟩) D' := h7.stored hg8 (by rw [mapD_put]; exact hm8) (fun x hx => by
      rcases putZ_mem hx with rfl | hx
      · exact B6.out.below hb7
      · exact h7.ok x hx) (by show _ = _; rw [plainD_put, HD.out.plain.out, HDP.out]; have h3 : f.x.l = (fileS D n).1 := congrArg Prod.fst HP.out.out; show putZ D.L n (f.x.l, (f.x.l.length : Int)) = _; rw [h3]) (by rw [HDP.out]) (by rw [HDP.out]) (by rw [HDP.out])
    have x8 := (X6.out.below hb7).grown hg8 (fun e => by injection e with e; omega)
    have fe := x8.frozen 0
    have ce0 := x8.cell 0
    simp only [List.getElem?_toArray, List.getElem?_cons_zero] at ce0
    have hne : w.heap.size ≠ tb := by omega
    have k8 : Fr (fun g => g = tb ∨ g = mb) w (w8.setCell ⟨w.heap.size, 0, none⟩ (.int .i64 0)) := ((K6.out.then_below hb7).trans (Fr.of_grown hg8 (S := fun g => g = mb) (fun _ _ e => by injection e with e; exact e.symm)) (fun _ _ e => .inr e)).trans ((Fr.refl (fun g => g = w.heap.size) w8).setAt w.heap.size 0 rfl _) (fun x hx e => by omega)
    have h9 : DiskAt (w8.setCell ⟨w.heap.size, 0, none⟩ (.int .i64 0)) tb mb (putZ L n ⟨f.x, (f.x.l.length : Int)⟩) D' := h8.fr ((Fr.refl (fun g => g = w.heap.size) w8).setAt w.heap.size 0 rfl _) (fun e => hne e.symm) (fun e => by omega) (fun x hx => (x8.noBytes (h8.ok x hx).1))
    have ce := (x8.set_ 0 (.int .i64 0)).cell 0
    simp only [List.setIfInBounds_toArray, List.set_cons_zero, List.getElem?_toArray, List.getElem?_cons_zero] at ce
    have H9 := Lib.hid h9
    have K9 := Lib.hid k8
    have hlf := HO.out.left.2
    clear h7 h8 hm8 hg8 x8 k8 h9 hmlen K6 X6 H6 b6
    go_wp2_with fail
    refine leaves_cons (f := 26) (args := #[.pointer (some ⟨tb, 0, none⟩), .pointer (some ⟨w.heap.size, 0, none⟩)]) (by simp) (by simp [go_sem]) ?_
    refine (count_any tb mb w.heap.size _ D' .returning _ H9.out ce (by rw [HDP.out]; exact hlf)).mono ?_
    rintro e u' w9 ⟨rfl, rfl, hd, hfr, hc⟩
    have hc9 := hc hne
    refine ⟨.int .i64 0, ?_, rfl, ⟨⟨_, hd⟩, K9.out.trans hfr (fun _ _ e => .inl e)⟩⟩
    simp [results, Try.results11, go_sem, hc9]
  · have HEQ : syncS D n = (D, askS D n) := by unfold syncS; rw [if_pos h0]
    rw [HEQ]
    obtain ⟨E, hE⟩ : ∃ E, E = askS D n := ⟨_, rfl⟩
    rw [← hE] at h0 HAT ⊢
    have h0b : (E == 0) = false := by simpa using h0
    have h0c : (E != 0) = true := by simpa using h0
    clear hE HEQ h0
    replace HAT := Lib.hid HAT
    go_enter_defers Try.func11, Try.ntmps11
    go_wp2_with fail
    refine HAT.out.mono ?_
    rintro e w1 ⟨⟨f, rfl, hp, hfx⟩, hb1⟩
    have hw1 := hb0.trans (hb1.mono hb0.size)
    have HFX := Lib.hid hfx
    have HP := Lib.hid hp
    have x1 : Blk w1 w.heap.size 28 #[.int .i64 0] := (Blk.new w 28 #[.int .i64 0]).below hb1
    have g0 := x1.cell 0
    have f0 := x1.frozen 0
    simp only [List.getElem?_toArray, List.getElem?_cons_zero] at g0
    have hs1 := x1.lt
    clear HAT hb1 hfx hp
    go_wp2_with fail
    have kE : Fr (fun x => x = w.heap.size) w1 (((w1.setCell ⟨w.heap.size, 0, none⟩ (.int .i64 E)).setCell ⟨w.heap.size, 0, none⟩ (.int .i64 E)).alloc (.cells #[.slice f.x.A f.x.l.length f.x.c, .int .i64 f.s] 65)) := (((Fr.refl (fun x => x = w.heap.size) w1).setAt w.heap.size 0 rfl _).setAt w.heap.size 0 rfl _).alloc _
    have xE : Blk (((w1.setCell ⟨w.heap.size, 0, none⟩ (.int .i64 E)).setCell ⟨w.heap.size, 0, none⟩ (.int .i64 E)).alloc (.cells #[.slice f.x.A f.x.l.length f.x.c, .int .i64 f.s] 65)) w.heap.size 28 #[.int .i64 E] := by simpa using ((x1.set_ 0 (.int .i64 E)).set_ 0 (.int .i64 E)).alloc (.cells #[.slice f.x.A f.x.l.length f.x.c, .int .i64 f.s] 65)
    have h1 := HD.out.below hw1
    have hE := h1.fr kE (fun e => by omega) (fun e => by omega) (fun x hx => x1.noBytes (h1.ok x hx).1)
    have ce := xE.cell 0
    simp only [List.getElem?_toArray, List.getElem?_cons_zero] at ce
    have hto : DiskTo w tb mb D (((w1.setCell ⟨w.heap.size, 0, none⟩ (.int .i64 E)).setCell ⟨w.heap.size, 0, none⟩ (.int .i64 E)).alloc (.cells #[.slice f.x.A f.x.l.length f.x.c, .int .i64 f.s] 65)) := ⟨⟨L, hE⟩, (Fr.of_below hw1 (fun g => g = tb ∨ g = mb)).trans kE (fun x hx e => by omega)⟩
    refine leaves_cons (f := 26) (args := #[.pointer (some ⟨tb, 0, none⟩), .pointer (some ⟨w.heap.size, 0, none⟩)]) (by simp) (by simp [go_sem]) ?_
    refine (count_err _ w.heap.size E .returning _ ce (by first | exact h0b | rfl)).mono ?_
    rintro e u' w9 ⟨rfl, rfl, rfl⟩
    refine ⟨.int .i64 E, ?_, rfl, hto⟩
    simp [results, Try.results11, go_sem, ce]


set_option maxRecDepth 100000 in
set_option maxHeartbeats 1000000 in
theorem drop_any (tb mb : Nat) (L : List (Int × FV)) (D : DP) (k : Nat) (n : Int) (w : World) (h : DiskAt w tb mb L D) (hok : DOk D k) (hk : k ≤ 1000000) (hn : (Lit.int .i64 n).wf = true) :
    Calls Try.prog 20 #[.pointer (some ⟨tb, 0, none⟩), .int .i64 n] w fun e w' => e = .returned (.int .i64 (dropD D n).2) ∧ DiskTo w tb mb (dropD D n).1 w' := by
  have hb0 : Below w.heap.size w (w.alloc (.cells #[.int .i64 0] 28)) := (by repeat (first | exact Below.refl _ _ | refine Below.alloc ?_ (by simp) _ | refine Below.setCell ?_ (by simp) _ | refine Below.drew ?_))
  have h0 := h.below hb0
  have HAT := at_any tb mb L D n _ h0 hn
  have htl := h.blk.lt
  have hml := h.map.lt
  have hlen : L.length ≤ 1000000 := by have := hok.len; rw [← h.plain.out, plainD_len] at this; omega
  have HD := Lib.hid h
  have HO := Lib.hid hok
  have HN := Lib.hid hn
  clear h h0 hok hn
  by_cases h0 : askS D n = 0
  · obtain ⟨D', hD'⟩ : ∃ D', D' = (⟨withoutZ D.L n, D.last, D.room, D.left⟩ : DP) := ⟨_, rfl⟩
    have HEQ : dropD D n = (countS D', 0) := by unfold dropD; rw [if_neg (by simpa using h0), hD']
    rw [HEQ]
    have HAS := Lib.hid (ask_some h0)
    rw [h0] at HAT
    rw [if_pos rfl] at HAT
    have HDP := Lib.hid hD'
    clear hD' h0 HEQ
    replace HAT := Lib.hid HAT
    go_enter_defers Try.func20, Try.ntmps20
    go_wp2_with fail
    refine HAT.out.mono ?_
    rintro e w1 ⟨⟨f, rfl, hp, hfx⟩, hb1⟩
    have hw1 := hb0.trans (hb1.mono hb0.size)
    have HFX := Lib.hid hfx
    have HP := Lib.hid hp
    have x1 : Blk w1 w.heap.size 28 #[.int .i64 0] := (Blk.new w 28 #[.int .i64 0]).below hb1
    have g0 := x1.cell 0
    have f0 := x1.frozen 0
    simp only [List.getElem?_toArray, List.getElem?_cons_zero] at g0
    have hs1 := x1.lt
    clear HAT hb1 hfx hp
    have h1 := HD.out.below hw1
    have k5 : Fr (fun x => x = w.heap.size) w1 (w1.setCell ⟨w.heap.size, 0, none⟩ (.int .i64 0)) := (Fr.refl (fun x => x = w.heap.size) w1).setAt w.heap.size 0 rfl _
    have h5 := h1.fr k5 (fun e => by omega) (fun e => by omega) (fun x hx => x1.noBytes (h1.ok x hx).1)
    have x5 := x1.set_ 0 (.int .i64 0)
    obtain ⟨d0, _⟩ := h5.cells
    obtain ⟨w8, hrun, hm8, hg8, _⟩ := h5.map.drop Try.underlying3 Try.underlying50 n HN.out 0
    have h8 : DiskAt w8 tb mb (withoutZ L n) D' := h5.stored hg8 (by rw [mapD_without]; exact hm8) (fun x hx => h5.ok x (List.mem_filter.1 hx).1) (by show _ = _; rw [plainD_without, HD.out.plain.out, HDP.out]) (by rw [HDP.out]) (by rw [HDP.out]) (by rw [HDP.out])
    have x8 := x5.grown hg8 (fun e => by injection e with e; omega)
    simp only [List.setIfInBounds_toArray, List.set_cons_zero] at x8
    have fe := x8.frozen 0
    have ce0 := x8.cell 0
    simp only [List.getElem?_toArray, List.getElem?_cons_zero] at ce0
    have hne : w.heap.size ≠ tb := by omega
    have k8 : Fr (fun g => g = tb ∨ g = mb) w (w8.setCell ⟨w.heap.size, 0, none⟩ (.int .i64 0)) := ((((Fr.of_below hw1 (fun g => g = tb ∨ g = mb)).trans k5 (fun x hx e => by omega))).trans (Fr.of_grown hg8 (S := fun g => g = mb) (fun _ _ e => by injection e with e; exact e.symm)) (fun _ _ e => .inr e)).trans ((Fr.refl (fun g => g = w.heap.size) w8).setAt w.heap.size 0 rfl _) (fun x hx e => by omega)
    have h9 : DiskAt (w8.setCell ⟨w.heap.size, 0, none⟩ (.int .i64 0)) tb mb (withoutZ L n) D' := h8.fr ((Fr.refl (fun g => g = w.heap.size) w8).setAt w.heap.size 0 rfl _) (fun e => hne e.symm) (fun e => by omega) (fun x hx => (x8.noBytes (h8.ok x hx).1))
    have ce := (x8.set_ 0 (.int .i64 0)).cell 0
    simp only [List.setIfInBounds_toArray, List.set_cons_zero, List.getElem?_toArray, List.getElem?_cons_zero] at ce
    have H9 := Lib.hid h9
    have K9 := Lib.hid k8
    have hlf := HO.out.left.2
    clear h1 k5 h5 hm8 hg8 x8 x5 k8 h9 h8 x1
    go_wp2_with fail
    refine leaves_cons (f := 26) (args := #[.pointer (some ⟨tb, 0, none⟩), .pointer (some ⟨w.heap.size, 0, none⟩)]) (by simp) (by simp [go_sem]) ?_
    refine (count_any tb mb w.heap.size _ D' .returning _ H9.out ce (by rw [HDP.out]; exact hlf)).mono ?_
    rintro e u' w9 ⟨rfl, rfl, hd, hfr, hc⟩
    have hc9 := hc hne
    refine ⟨.int .i64 0, ?_, rfl, ⟨⟨_, hd⟩, K9.out.trans hfr (fun _ _ e => .inl e)⟩⟩
    simp [results, Try.results20, go_sem, hc9]
  · have HEQ : dropD D n = (D, askS D n) := by unfold dropD; rw [if_pos h0]
    rw [HEQ]
    obtain ⟨E, hE⟩ : ∃ E, E = askS D n := ⟨_, rfl⟩
    rw [← hE] at h0 HAT ⊢
    have h0b : (E == 0) = false := by simpa using h0
    have h0c : (E != 0) = true := by simpa using h0
    clear hE HEQ h0
    replace HAT := Lib.hid HAT
    go_enter_defers Try.func20, Try.ntmps20
    go_wp2_with fail
    refine HAT.out.mono ?_
    rintro e w1 ⟨⟨f, rfl, hp, hfx⟩, hb1⟩
    have hw1 := hb0.trans (hb1.mono hb0.size)
    have HFX := Lib.hid hfx
    have HP := Lib.hid hp
    have x1 : Blk w1 w.heap.size 28 #[.int .i64 0] := (Blk.new w 28 #[.int .i64 0]).below hb1
    have g0 := x1.cell 0
    have f0 := x1.frozen 0
    simp only [List.getElem?_toArray, List.getElem?_cons_zero] at g0
    have hs1 := x1.lt
    clear HAT hb1 hfx hp
    go_wp2_with fail
    have kE : Fr (fun x => x = w.heap.size) w1 ((w1.setCell ⟨w.heap.size, 0, none⟩ (.int .i64 E)).setCell ⟨w.heap.size, 0, none⟩ (.int .i64 E)) := ((Fr.refl (fun x => x = w.heap.size) w1).setAt w.heap.size 0 rfl _).setAt w.heap.size 0 rfl _
    have xE : Blk ((w1.setCell ⟨w.heap.size, 0, none⟩ (.int .i64 E)).setCell ⟨w.heap.size, 0, none⟩ (.int .i64 E)) w.heap.size 28 #[.int .i64 E] := by simpa using ((x1.set_ 0 (.int .i64 E)).set_ 0 (.int .i64 E))
    have h1 := HD.out.below hw1
    have hE := h1.fr kE (fun e => by omega) (fun e => by omega) (fun x hx => x1.noBytes (h1.ok x hx).1)
    have ce := xE.cell 0
    simp only [List.getElem?_toArray, List.getElem?_cons_zero] at ce
    have hto : DiskTo w tb mb D ((w1.setCell ⟨w.heap.size, 0, none⟩ (.int .i64 E)).setCell ⟨w.heap.size, 0, none⟩ (.int .i64 E)) := ⟨⟨L, hE⟩, (Fr.of_below hw1 (fun g => g = tb ∨ g = mb)).trans kE (fun x hx e => by omega)⟩
    refine leaves_cons (f := 26) (args := #[.pointer (some ⟨tb, 0, none⟩), .pointer (some ⟨w.heap.size, 0, none⟩)]) (by simp) (by simp [go_sem]) ?_
    refine (count_err _ w.heap.size E .returning _ ce (by first | exact h0b | rfl)).mono ?_
    rintro e u' w9 ⟨rfl, rfl, rfl⟩
    refine ⟨.int .i64 E, ?_, rfl, hto⟩
    simp [results, Try.results20, go_sem, ce]

end Go.Proofs.Ytmdbfhfjaapeoaa

/- disk.Disk: Append. -/
namespace Go.Proofs.Ytmdbfhfjaapeoaa
open Go.RowKit Go.Maps

/-- bytes do not lie where other things lie -/
theorem Blk.noBytes2 {w : World} {g : Nat} {t : TypeId} {cs : Array Value} {Z : Nat → Prop} {A : Option Addr} {l : List UInt8} (h : Blk w g t cs) (hn : ∀ (i : Nat) (x : UInt8), cs[i]? ≠ some (bv x)) (hy : By w Z A l) : By w (fun b => ¬ (b = g)) A l := by
  refine ⟨hy.1, fun hp => ?_⟩
  obtain ⟨b, off, e, hz, hlt, hc⟩ := hy.2 hp
  refine ⟨b, off, e, fun eb => ?_, hlt, hc⟩
  subst eb
  rcases l with _ | ⟨x, l⟩
  · simp at hp
  · have h1 := hc 0 (bv x) rfl
    rw [h.cell] at h1
    exact hn _ _ h1
theorem file_noB (A : Option Addr) (n c : Nat) (s : Int) (i : Nat) (x : UInt8) : (#[.slice A n c, .int .i64 s] : Array Value)[i]? ≠ some (bv x) := by
  rcases i with _ | _ | i
  · simp [bv]
  · simp [bv]
  · simp
theorem Row.bvok {w : World} {base : Nat} {A : Option Addr} {c : Nat} {l : List UInt8} (h : Row w base 5 1 A l.length c (l.map bv)) : BV.ok w (fun _ => True) ⟨A, c, l⟩ := by
  refine ⟨⟨by simp, fun hn => ?_⟩, h.room, h.cap⟩
  rcases A with _ | a
  · have := (h.nil rfl).1
    dsimp only at hn
    omega
  · obtain ⟨g, off, cur, e1, hb, hk, hsz, hc⟩ := h.at_ a rfl
    subst e1
    exact ⟨g, off, rfl, trivial, hk.lt, fun j u hu => (hk.cell _).trans (hc j u hu)⟩

set_option maxRecDepth 100000 in
set_option maxHeartbeats 2000000 in
theorem append_any (tb mb : Nat) (L : List (Int × FV)) (D : DP) (k : Nat) (n : Int) (y : BV) (w : World) (h : DiskAt w tb mb L D) (hok : DOk D k) (hk : k ≤ 1000000) (hn : (Lit.int .i64 n).wf = true) (hy : y.ok w (fun _ => True)) (hyl : y.l.length ≤ 1048576) :
    Calls Try.prog 10 #[.pointer (some ⟨tb, 0, none⟩), .int .i64 n, .slice y.A y.l.length y.c] w fun e w' => e = .returned (.int .i64 (appendS D n y.l).2) ∧ DiskTo w tb mb (appendS D n y.l).1 w' := by
  have HY := Lib.hid hy
  clear hy
  have hb0 : Below w.heap.size w (w.alloc (.cells #[.int .i64 0] 28)) := (by repeat (first | exact Below.refl _ _ | refine Below.alloc ?_ (by simp) _ | refine Below.setCell ?_ (by simp) _ | refine Below.drew ?_))
  have h0 := h.below hb0
  have HAT := at_any tb mb L D n _ h0 hn
  have htl := h.blk.lt
  have hml := h.map.lt
  have hlen : L.length ≤ 1000000 := by have := hok.len; rw [← h.plain.out, plainD_len] at this; omega
  have HD := Lib.hid h
  have HO := Lib.hid hok
  have HN := Lib.hid hn
  clear h h0 hok hn
  by_cases h0 : askS D n = 0
  · by_cases h2 : D.room < (usedS D.L : Int) + (y.l.length : Int)
    · have HEQ : appendS D n y.l = (D, 24) := by unfold appendS; rw [if_neg (by simpa using h0), if_pos h2]
      rw [HEQ]
      rw [h0] at HAT
      rw [if_pos rfl] at HAT
      clear h0 HEQ
      replace HAT := Lib.hid HAT
      go_enter_defers Try.func10, Try.ntmps10
      go_wp2_with fail
      refine HAT.out.mono ?_
      rintro e w1 ⟨⟨f, rfl, hp, hfx⟩, hb1⟩
      have hw1 := hb0.trans (hb1.mono hb0.size)
      have HFX := Lib.hid hfx
      have HP := Lib.hid hp
      have x1 : Blk w1 w.heap.size 28 #[.int .i64 0] := (Blk.new w 28 #[.int .i64 0]).below hb1
      have g0 := x1.cell 0
      have f0 := x1.frozen 0
      simp only [List.getElem?_toArray, List.getElem?_cons_zero] at g0
      have hs1 := x1.lt
      clear HAT hb1 hfx hp
      go_wp2_with fail
      have HY1 := Lib.hid (HY.out.below hw1)
      have h1 := HD.out.below hw1
      have k5 : Fr (fun x => x = w.heap.size) w1 (w1.setCell ⟨w.heap.size, 0, none⟩ (.int .i64 0)) := (Fr.refl (fun x => x = w.heap.size) w1).setAt w.heap.size 0 rfl _
      have h5 := h1.fr k5 (fun e => by omega) (fun e => by omega) (fun x hx => x1.noBytes (h1.ok x hx).1)
      have ba : Below (w1.setCell ⟨w.heap.size, 0, none⟩ (.int .i64 0)).heap.size (w1.setCell ⟨w.heap.size, 0, none⟩ (.int .i64 0)) ((w1.setCell ⟨w.heap.size, 0, none⟩ (.int .i64 0)).alloc (.cells #[.slice f.x.A f.x.l.length f.x.c, .int .i64 f.s] 65)) := (Below.refl _ _).alloc (Nat.le_refl _) _
      have H6 := Lib.hid (h5.below ba)
      have X6 : Hid (Blk ((w1.setCell ⟨w.heap.size, 0, none⟩ (.int .i64 0)).alloc (.cells #[.slice f.x.A f.x.l.length f.x.c, .int .i64 f.s] 65)) w.heap.size 28 #[.int .i64 0]) := Lib.hid (by simpa using (x1.set_ 0 (.int .i64 0)).below ba)
      have FB : Blk ((w1.setCell ⟨w.heap.size, 0, none⟩ (.int .i64 0)).alloc (.cells #[.slice f.x.A f.x.l.length f.x.c, .int .i64 f.s] 65)) w1.heap.size 65 #[.slice f.x.A f.x.l.length f.x.c, .int .i64 f.s] := by simpa [World.setCell] using Blk.new (w1.setCell ⟨w.heap.size, 0, none⟩ (.int .i64 0)) 65 #[.slice f.x.A f.x.l.length f.x.c, .int .i64 f.s]
      have K6 : Hid (Fr (fun g => g = tb ∨ g = mb) w ((w1.setCell ⟨w.heap.size, 0, none⟩ (.int .i64 0)).alloc (.cells #[.slice f.x.A f.x.l.length f.x.c, .int .i64 f.s] 65))) := Lib.hid (((Fr.of_below hw1 (fun g => g = tb ∨ g = mb)).trans k5 (fun x hx e => by omega)).then_below ba)
      have B6 : Hid (f.x.ok ((w1.setCell ⟨w.heap.size, 0, none⟩ (.int .i64 0)).alloc (.cells #[.slice f.x.A f.x.l.length f.x.c, .int .i64 f.s] 65)) (fun _ => True)) := Lib.hid (BV.ok.below (w := w1.setCell ⟨w.heap.size, 0, none⟩ (.int .i64 0)) (x := f.x) (Z := fun _ => True) ⟨((x1.noBytes HFX.out.1).fr k5 (fun _ _ hz => hz)).mono (fun _ _ _ => trivial), HFX.out.2⟩ ba)
      have b6 := H6.out.blk
      clear h1 k5 h5 ba
      have HYB6 : Hid (y.ok ((w1.setCell ⟨w.heap.size, 0, none⟩ (.int .i64 0)).alloc (.cells #[.slice f.x.A f.x.l.length f.x.c, .int .i64 f.s] 65)) (fun _ => True)) := Lib.hid (BV.ok.below (w := w1.setCell ⟨w.heap.size, 0, none⟩ (.int .i64 0)) (x := y) (Z := fun _ => True) ⟨((x1.noBytes HY1.out.1).fr ((Fr.refl (fun x => x = w.heap.size) w1).setAt w.heap.size 0 rfl _) (fun _ _ hz => hz)).mono (fun _ _ _ => trivial), HY1.out.2⟩ ((Below.refl _ _).alloc (Nat.le_refl _) _))
      have s6 : w1.heap.size < ((w1.setCell ⟨w.heap.size, 0, none⟩ (.int .i64 0)).alloc (.cells #[.slice f.x.A f.x.l.length f.x.c, .int .i64 f.s] 65)).heap.size := by simp [World.setCell]
      generalize ((w1.setCell ⟨w.heap.size, 0, none⟩ (.int .i64 0)).alloc (.cells #[.slice f.x.A f.x.l.length f.x.c, .int .i64 f.s] 65)) = w6 at *
      have HU := Lib.hid (fun W (hC : Below w6.heap.size w6 W) => used_any tb mb L D k W (H6.out.below hC) HO.out hk)
      have hus := HO.out.room
      have hsub : IntKind.i64.wrap (D.room - (usedS D.L : Int)) = D.room - (usedS D.L : Int) := IntWalk.i64_in _ (by omega)
      have hgt : decide (D.room - (usedS D.L : Int) < (y.l.length : Int)) = true := decide_eq_true (by omega)
      generalize hu : (usedS D.L : Int) = us at *
      refine wp_region_b 11 (by kernel_rfl) (by kernel_rfl) ?_
      simp only [List.take_succ_cons, List.take_zero, List.drop_succ_cons, List.drop_zero]
      refine lb_move _ (by kernel_rfl) rfl ⟨_, (by ((try simp [go_sem]); (try rfl); done)), _, (by (simp only [Act.put, List.setIfInBounds_toArray, List.set_cons_zero, List.set_cons_succ]; rfl)), ?_⟩
      refine lb_val (by kernel_rfl) ⟨_, (by (intro w' hC; clear hC; (try go_simp); (try with_reducible rfl); done)), _, (by (simp only [Act.put, List.setIfInBounds_toArray, List.set_cons_zero, List.set_cons_succ]; rfl)), ?_⟩
      refine lb_move _ (by kernel_rfl) rfl ⟨_, (by ((try simp [go_sem]); (try rfl); done)), _, (by (simp only [Act.put, List.setIfInBounds_toArray, List.set_cons_zero, List.set_cons_succ]; rfl)), ?_⟩
      refine lb_val (by kernel_rfl) ⟨_, (by (intro w' hC; clear hC; (try go_simp); (try with_reducible rfl); done)), _, (by (simp only [Act.put, List.setIfInBounds_toArray, List.set_cons_zero, List.set_cons_succ]; rfl)), ?_⟩
      refine lb_val (by kernel_rfl) ⟨_, (by (intro w' hC; clear hC; (try go_simp); (try with_reducible rfl); done)), _, (by (simp only [Act.put, List.setIfInBounds_toArray, List.set_cons_zero, List.set_cons_succ]; rfl)), ?_⟩
      refine lb_val (by kernel_rfl) ⟨_, (by (intro w' hC; (have q2 := (b6.below hC).cell 2; simp only [List.getElem?_toArray, List.getElem?_cons_zero, List.getElem?_cons_succ] at q2); clear hC; (try go_simp); (try with_reducible rfl); done)), _, (by (simp only [Act.put, List.setIfInBounds_toArray, List.set_cons_zero, List.set_cons_succ]; rfl)), ?_⟩
      refine lb_move _ (by kernel_rfl) rfl ⟨_, (by ((try simp [go_sem]); (try rfl); done)), _, (by (simp only [Act.put, List.setIfInBounds_toArray, List.set_cons_zero, List.set_cons_succ]; rfl)), ?_⟩
      refine lb_call (by kernel_rfl) (fun w' hC => HU.out w' hC) (by (intro w'; go_simp; done)) ⟨_, (by (simp only [Act.put, List.setIfInBounds_toArray, List.set_cons_zero, List.set_cons_succ]; rfl)), ?_⟩
      refine lb_val (by kernel_rfl) ⟨_, (by (intro w' hC; clear hC; (try go_simp); (try with_reducible rfl); done)), _, (by (simp only [Act.put, List.setIfInBounds_toArray, List.set_cons_zero, List.set_cons_succ]; rfl)), ?_⟩
      refine lb_val (by kernel_rfl) ⟨_, (by (intro w' hC; clear hC; (try go_simp); (try with_reducible rfl); done)), _, (by (simp only [Act.put, List.setIfInBounds_toArray, List.set_cons_zero, List.set_cons_succ]; rfl)), ?_⟩
      refine lb_assign _ (by kernel_rfl) rfl ⟨_, (by ((try simp [go_sem]); (try rfl); done)), _, (by (simp only [Act.put, List.setIfInBounds_toArray, List.set_cons_zero, List.set_cons_succ]; rfl)), ?_⟩
      refine .nil ?_
      intro w7 hb7
      have x7 := X6.out.below hb7
      have h7 := H6.out.below hb7
      have f7 := x7.frozen 0
      have e7 := x7.cell 0
      simp only [List.getElem?_toArray, List.getElem?_cons_zero] at e7
      clear b6 HU
      go_wp2_with fail
      have k7 : Fr (fun x => x = w.heap.size) w7 (w7.setCell ⟨w.heap.size, 0, none⟩ (.int .i64 24)) := (Fr.refl (fun x => x = w.heap.size) w7).setAt w.heap.size 0 rfl _
      have h8 := h7.fr k7 (fun e => by omega) (fun e => by omega) (fun x hx => x7.noBytes (h7.ok x hx).1)
      have ce := (x7.set_ 0 (.int .i64 24)).cell 0
      simp only [List.setIfInBounds_toArray, List.set_cons_zero, List.getElem?_toArray, List.getElem?_cons_zero] at ce
      have hto : DiskTo w tb mb D (w7.setCell ⟨w.heap.size, 0, none⟩ (.int .i64 24)) := ⟨⟨L, h8⟩, (K6.out.then_below hb7).trans k7 (fun x hx e => by omega)⟩
      refine leaves_cons (f := 26) (args := #[.pointer (some ⟨tb, 0, none⟩), .pointer (some ⟨w.heap.size, 0, none⟩)]) (by simp) (by simp [go_sem]) ?_
      refine (count_err _ w.heap.size 24 .returning _ ce rfl).mono ?_
      rintro e u' w9 ⟨rfl, rfl, rfl⟩
      refine ⟨.int .i64 24, ?_, rfl, hto⟩
      simp [results, Try.results10, go_sem, ce]
    · obtain ⟨D', hD'⟩ : ∃ D', D' = (⟨putZ D.L n ((fileS D n).1 ++ y.l, (fileS D n).2), D.last, D.room, D.left⟩ : DP) := ⟨_, rfl⟩
      have HEQ : appendS D n y.l = (countS D', 0) := by unfold appendS; rw [if_neg (by simpa using h0), if_neg h2, hD']
      rw [HEQ]
      have hfu := file_used D n
      rw [h0] at HAT
      rw [if_pos rfl] at HAT
      have HDP := Lib.hid hD'
      clear hD' h0 HEQ
      replace HAT := Lib.hid HAT
      go_enter_defers Try.func10, Try.ntmps10
      go_wp2_with fail
      refine HAT.out.mono ?_
      rintro e w1 ⟨⟨f, rfl, hp, hfx⟩, hb1⟩
      have hw1 := hb0.trans (hb1.mono hb0.size)
      have HFX := Lib.hid hfx
      have HP := Lib.hid hp
      have x1 : Blk w1 w.heap.size 28 #[.int .i64 0] := (Blk.new w 28 #[.int .i64 0]).below hb1
      have g0 := x1.cell 0
      have f0 := x1.frozen 0
      simp only [List.getElem?_toArray, List.getElem?_cons_zero] at g0
      have hs1 := x1.lt
      clear HAT hb1 hfx hp
      go_wp2_with fail
      have HY1 := Lib.hid (HY.out.below hw1)
      have h1 := HD.out.below hw1
      have k5 : Fr (fun x => x = w.heap.size) w1 (w1.setCell ⟨w.heap.size, 0, none⟩ (.int .i64 0)) := (Fr.refl (fun x => x = w.heap.size) w1).setAt w.heap.size 0 rfl _
      have h5 := h1.fr k5 (fun e => by omega) (fun e => by omega) (fun x hx => x1.noBytes (h1.ok x hx).1)
      have ba : Below (w1.setCell ⟨w.heap.size, 0, none⟩ (.int .i64 0)).heap.size (w1.setCell ⟨w.heap.size, 0, none⟩ (.int .i64 0)) ((w1.setCell ⟨w.heap.size, 0, none⟩ (.int .i64 0)).alloc (.cells #[.slice f.x.A f.x.l.length f.x.c, .int .i64 f.s] 65)) := (Below.refl _ _).alloc (Nat.le_refl _) _
      have H6 := Lib.hid (h5.below ba)
      have X6 : Hid (Blk ((w1.setCell ⟨w.heap.size, 0, none⟩ (.int .i64 0)).alloc (.cells #[.slice f.x.A f.x.l.length f.x.c, .int .i64 f.s] 65)) w.heap.size 28 #[.int .i64 0]) := Lib.hid (by simpa using (x1.set_ 0 (.int .i64 0)).below ba)
      have FB : Blk ((w1.setCell ⟨w.heap.size, 0, none⟩ (.int .i64 0)).alloc (.cells #[.slice f.x.A f.x.l.length f.x.c, .int .i64 f.s] 65)) w1.heap.size 65 #[.slice f.x.A f.x.l.length f.x.c, .int .i64 f.s] := by simpa [World.setCell] using Blk.new (w1.setCell ⟨w.heap.size, 0, none⟩ (.int .i64 0)) 65 #[.slice f.x.A f.x.l.length f.x.c, .int .i64 f.s]
      have K6 : Hid (Fr (fun g => g = tb ∨ g = mb) w ((w1.setCell ⟨w.heap.size, 0, none⟩ (.int .i64 0)).alloc (.cells #[.slice f.x.A f.x.l.length f.x.c, .int .i64 f.s] 65))) := Lib.hid (((Fr.of_below hw1 (fun g => g = tb ∨ g = mb)).trans k5 (fun x hx e => by omega)).then_below ba)
      have B6 : Hid (f.x.ok ((w1.setCell ⟨w.heap.size, 0, none⟩ (.int .i64 0)).alloc (.cells #[.slice f.x.A f.x.l.length f.x.c, .int .i64 f.s] 65)) (fun _ => True)) := Lib.hid (BV.ok.below (w := w1.setCell ⟨w.heap.size, 0, none⟩ (.int .i64 0)) (x := f.x) (Z := fun _ => True) ⟨((x1.noBytes HFX.out.1).fr k5 (fun _ _ hz => hz)).mono (fun _ _ _ => trivial), HFX.out.2⟩ ba)
      have b6 := H6.out.blk
      clear h1 k5 h5 ba
      have HYB6 : Hid (y.ok ((w1.setCell ⟨w.heap.size, 0, none⟩ (.int .i64 0)).alloc (.cells #[.slice f.x.A f.x.l.length f.x.c, .int .i64 f.s] 65)) (fun _ => True)) := Lib.hid (BV.ok.below (w := w1.setCell ⟨w.heap.size, 0, none⟩ (.int .i64 0)) (x := y) (Z := fun _ => True) ⟨((x1.noBytes HY1.out.1).fr ((Fr.refl (fun x => x = w.heap.size) w1).setAt w.heap.size 0 rfl _) (fun _ _ hz => hz)).mono (fun _ _ _ => trivial), HY1.out.2⟩ ((Below.refl _ _).alloc (Nat.le_refl _) _))
      have s6 : w1.heap.size < ((w1.setCell ⟨w.heap.size, 0, none⟩ (.int .i64 0)).alloc (.cells #[.slice f.x.A f.x.l.length f.x.c, .int .i64 f.s] 65)).heap.size := by simp [World.setCell]
      generalize ((w1.setCell ⟨w.heap.size, 0, none⟩ (.int .i64 0)).alloc (.cells #[.slice f.x.A f.x.l.length f.x.c, .int .i64 f.s] 65)) = w6 at *
      have HU := Lib.hid (fun W (hC : Below w6.heap.size w6 W) => used_any tb mb L D k W (H6.out.below hC) HO.out hk)
      have hus := HO.out.room
      have hsub : IntKind.i64.wrap (D.room - (usedS D.L : Int)) = D.room - (usedS D.L : Int) := IntWalk.i64_in _ (by omega)
      have hfl : f.x.l.length = (fileS D n).1.length := by rw [← HP.out.out]; rfl
      have hsum : f.x.l.length + y.l.length ≤ 1048576 := by omega
      have hgt : decide (D.room - (usedS D.L : Int) < (y.l.length : Int)) = false := decide_eq_false (by omega)
      clear h2 hfu hfl hus
      generalize hu : (usedS D.L : Int) = us at *
      refine wp_region_b 11 (by kernel_rfl) (by kernel_rfl) ?_
      simp only [List.take_succ_cons, List.take_zero, List.drop_succ_cons, List.drop_zero]
      refine lb_move _ (by kernel_rfl) rfl ⟨_, (by ((try simp [go_sem]); (try rfl); done)), _, (by (simp only [Act.put, List.setIfInBounds_toArray, List.set_cons_zero, List.set_cons_succ]; rfl)), ?_⟩
      refine lb_val (by kernel_rfl) ⟨_, (by (intro w' hC; clear hC; (try go_simp); (try with_reducible rfl); done)), _, (by (simp only [Act.put, List.setIfInBounds_toArray, List.set_cons_zero, List.set_cons_succ]; rfl)), ?_⟩
      refine lb_move _ (by kernel_rfl) rfl ⟨_, (by ((try simp [go_sem]); (try rfl); done)), _, (by (simp only [Act.put, List.setIfInBounds_toArray, List.set_cons_zero, List.set_cons_succ]; rfl)), ?_⟩
      refine lb_val (by kernel_rfl) ⟨_, (by (intro w' hC; clear hC; (try go_simp); (try with_reducible rfl); done)), _, (by (simp only [Act.put, List.setIfInBounds_toArray, List.set_cons_zero, List.set_cons_succ]; rfl)), ?_⟩
      refine lb_val (by kernel_rfl) ⟨_, (by (intro w' hC; clear hC; (try go_simp); (try with_reducible rfl); done)), _, (by (simp only [Act.put, List.setIfInBounds_toArray, List.set_cons_zero, List.set_cons_succ]; rfl)), ?_⟩
      refine lb_val (by kernel_rfl) ⟨_, (by (intro w' hC; (have q2 := (b6.below hC).cell 2; simp only [List.getElem?_toArray, List.getElem?_cons_zero, List.getElem?_cons_succ] at q2); clear hC; (try go_simp); (try with_reducible rfl); done)), _, (by (simp only [Act.put, List.setIfInBounds_toArray, List.set_cons_zero, List.set_cons_succ]; rfl)), ?_⟩
      refine lb_move _ (by kernel_rfl) rfl ⟨_, (by ((try simp [go_sem]); (try rfl); done)), _, (by (simp only [Act.put, List.setIfInBounds_toArray, List.set_cons_zero, List.set_cons_succ]; rfl)), ?_⟩
      refine lb_call (by kernel_rfl) (fun w' hC => HU.out w' hC) (by (intro w'; go_simp; done)) ⟨_, (by (simp only [Act.put, List.setIfInBounds_toArray, List.set_cons_zero, List.set_cons_succ]; rfl)), ?_⟩
      refine lb_val (by kernel_rfl) ⟨_, (by (intro w' hC; clear hC; (try go_simp); (try with_reducible rfl); done)), _, (by (simp only [Act.put, List.setIfInBounds_toArray, List.set_cons_zero, List.set_cons_succ]; rfl)), ?_⟩
      refine lb_val (by kernel_rfl) ⟨_, (by (intro w' hC; clear hC; (try go_simp); (try with_reducible rfl); done)), _, (by (simp only [Act.put, List.setIfInBounds_toArray, List.set_cons_zero, List.set_cons_succ]; rfl)), ?_⟩
      refine lb_assign _ (by kernel_rfl) rfl ⟨_, (by ((try simp [go_sem]); (try rfl); done)), _, (by (simp only [Act.put, List.setIfInBounds_toArray, List.set_cons_zero, List.set_cons_succ]; rfl)), ?_⟩
      refine .nil ?_
      intro w7 hb7
      have g0 := (FB.below hb7).cell 0
      simp only [List.getElem?_toArray, List.getElem?_cons_zero] at g0
      have hba : Below w7.heap.size w7 (w7.alloc (.cells #[.slice f.x.A f.x.l.length f.x.c, .slice y.A y.l.length y.c] 23)) := (Below.refl _ _).alloc (Nat.le_refl _) _
      have xq := Blk.new w7 23 #[.slice f.x.A f.x.l.length f.x.c, .slice y.A y.l.length y.c]
      have HC := Lib.hid (concat2_any w7.heap.size f.x.A y.A f.x.l.length f.x.c y.l.length y.c (f.x.l.map bv) (y.l.map bv) (fun _ => True) _ (xq.cell 0) (xq.cell 1) xq.lt ((B6.out.below hb7).below hba).1 ((HYB6.out.below hb7).below hba).1 (bv_one _) (bv_one _) (by omega))
      clear b6 HU xq
      go_wp2_with fail
      refine HC.out.mono ?_
      rintro e w8 ⟨A8, c8, rfl, hr8, hb8⟩
      have hb68 : Below w6.heap.size w6 w8 := hb7.trans ((hba.trans (hb8.mono hba.size)).mono hb7.size)
      have x8 := FB.below hb68
      have f8 := x8.frozen 0
      have e8 := x8.cell 0
      simp only [List.getElem?_toArray, List.getElem?_cons_zero] at e8
      have e9 := x8.cell 1
      simp only [List.getElem?_toArray, List.getElem?_cons_zero, List.getElem?_cons_succ] at e9
      rw [← List.map_append] at hr8
      have hlen9 : f.x.l.length + y.l.length = (f.x.l ++ y.l).length := by simp
      rw [hlen9] at hr8
      obtain ⟨nl, hnl⟩ : ∃ nl, nl = f.x.l ++ y.l := ⟨_, rfl⟩
      rw [← hnl] at hr8
      have hlen8 : f.x.l.length + y.l.length = nl.length := by rw [hlen9, hnl]
      rw [hlen8]
      have HNL := Lib.hid hnl
      have k9 : Fr (fun x => x = w1.heap.size) w8 (w8.setCell ⟨w1.heap.size, 0, none⟩ (.slice A8 nl.length c8)) := (Fr.refl (fun x => x = w1.heap.size) w8).setAt w1.heap.size 0 rfl _
      have h8 := H6.out.below hb68
      have hne1 : w1.heap.size ≠ w.heap.size := by omega
      have H9 := Lib.hid (h8.fr k9 (fun e => by omega) (fun e => by omega) (fun x hx => x8.noBytes2 (file_noB _ _ _ _) (h8.ok x hx).1))
      have X9 := Lib.hid ((X6.out.below hb68).fr k9 (fun e => hne1 e.symm))
      have fb9 := x8.set_ 0 (.slice A8 nl.length c8)
      simp only [List.setIfInBounds_toArray, List.set_cons_zero] at fb9
      have hbv := hr8.bvok
      have B9 : Hid (BV.ok (w8.setCell ⟨w1.heap.size, 0, none⟩ (.slice A8 nl.length c8)) (fun _ => True) ⟨A8, c8, nl⟩) := Lib.hid ⟨((x8.noBytes2 (file_noB _ _ _ _) hbv.1).fr k9 (fun _ _ hz => hz)).mono (fun _ _ _ => trivial), hbv.2⟩
      have K9 : Hid (Fr (fun g => g = tb ∨ g = mb) w (w8.setCell ⟨w1.heap.size, 0, none⟩ (.slice A8 nl.length c8))) := Lib.hid ((K6.out.then_below hb68).trans k9 (fun x hx e => by omega))
      clear H6 X6 FB B6 K6 HC hba hb8 hb68 hr8 hbv h8 k9 hnl hlen9 hb7 HYB6
      go_wp2_with fail
      have FB := fb9
      have H6 := H9
      have X6 := X9
      have K6 := K9
      have b6 := H6.out.blk
      clear H9 X9 K9 fb9 x8 e8 e9 f8
      generalize w8.setCell ⟨w1.heap.size, 0, none⟩ (.slice A8 nl.length c8) = w6 at *
      refine wp_region_b 6 (by kernel_rfl) (by kernel_rfl) ?_
      simp only [List.take_succ_cons, List.take_zero, List.drop_succ_cons, List.drop_zero]
      refine lb_move _ (by kernel_rfl) rfl ⟨_, (by ((try simp [go_sem]); (try rfl); done)), _, (by (simp only [Act.put, List.setIfInBounds_toArray, List.set_cons_zero, List.set_cons_succ]; rfl)), ?_⟩
      refine lb_val (by kernel_rfl) ⟨_, (by (intro w' hC; clear hC; (try go_simp); (try with_reducible rfl); done)), _, (by (simp only [Act.put, List.setIfInBounds_toArray, List.set_cons_zero, List.set_cons_succ]; rfl)), ?_⟩
      refine lb_val (by kernel_rfl) ⟨_, (by (intro w' hC; clear hC; (try go_simp); (try with_reducible rfl); done)), _, (by (simp only [Act.put, List.setIfInBounds_toArray, List.set_cons_zero, List.set_cons_succ]; rfl)), ?_⟩
      refine lb_val (by kernel_rfl) ⟨_, (by (intro w' hC; (have q0 := (b6.below hC).cell 0; have p0 := (FB.below hC).cell 0; have p1 := (FB.below hC).cell 1; simp only [List.getElem?_toArray, List.getElem?_cons_zero, List.getElem?_cons_succ] at q0 p0 p1); clear hC; (try go_simp); (try with_reducible rfl); done)), _, (by (simp only [Act.put, List.setIfInBounds_toArray, List.set_cons_zero, List.set_cons_succ]; rfl)), ?_⟩
      refine lb_move _ (by kernel_rfl) rfl ⟨_, (by ((try simp [go_sem]); (try rfl); done)), _, (by (simp only [Act.put, List.setIfInBounds_toArray, List.set_cons_zero, List.set_cons_succ]; rfl)), ?_⟩
      refine lb_val (by kernel_rfl) ⟨_, (by (intro w' hC; (have q0 := (b6.below hC).cell 0; have p0 := (FB.below hC).cell 0; have p1 := (FB.below hC).cell 1; simp only [List.getElem?_toArray, List.getElem?_cons_zero, List.getElem?_cons_succ] at q0 p0 p1); clear hC; (try go_simp); (try with_reducible rfl); done)), _, (by (simp only [Act.put, List.setIfInBounds_toArray, List.set_cons_zero, List.set_cons_succ]; rfl)), ?_⟩
      refine .nil ?_
      intro w7 hb7
      have h7 := H6.out.below hb7
      have hmlen : (mapD L).length < maxLen := by rw [mapD_len]; simp only [maxLen]; omega
      obtain ⟨w8, hrun, hm8, hg8, _⟩ := h7.map.store Try.underlying3 Try.underlying50 n HN.out (.agg #[.slice A8 nl.length c8, .int .i64 f.s]) hmlen
      have h8 : DiskAt w8 tb mb (putZ L n ⟨⟨A8, c8, nl⟩, f.s⟩) D' := h7.stored hg8 (by rw [mapD_put]; exact hm8) (fun x hx => by
        rcases putZ_mem hx with rfl | hx
        · exact B9.out.below hb7
        · exact h7.ok x hx) (by show _ = _; rw [plainD_put, HD.out.plain.out, HDP.out]; have h3 : f.p = fileS D n := HP.out.out; rw [← h3]; show putZ D.L n (nl, f.s) = _; rw [HNL.out]; rfl) (by rw [HDP.out]) (by rw [HDP.out]) (by rw [HDP.out])
      have x8 := (X6.out.below hb7).grown hg8 (fun e => by injection e with e; omega)
      have fe := x8.frozen 0
      have ce0 := x8.cell 0
      simp only [List.getElem?_toArray, List.getElem?_cons_zero] at ce0
      have hne : w.heap.size ≠ tb := by omega
      have k8 : Fr (fun g => g = tb ∨ g = mb) w (w8.setCell ⟨w.heap.size, 0, none⟩ (.int .i64 0)) := ((K6.out.then_below hb7).trans (Fr.of_grown hg8 (S := fun g => g = mb) (fun _ _ e => by injection e with e; exact e.symm)) (fun _ _ e => .inr e)).trans ((Fr.refl (fun g => g = w.heap.size) w8).setAt w.heap.size 0 rfl _) (fun x hx e => by omega)
      have h9 : DiskAt (w8.setCell ⟨w.heap.size, 0, none⟩ (.int .i64 0)) tb mb (putZ L n ⟨⟨A8, c8, nl⟩, f.s⟩) D' := h8.fr ((Fr.refl (fun g => g = w.heap.size) w8).setAt w.heap.size 0 rfl _) (fun e => hne e.symm) (fun e => by omega) (fun x hx => (x8.noBytes (h8.ok x hx).1))
      have ce := (x8.set_ 0 (.int .i64 0)).cell 0
      simp only [List.setIfInBounds_toArray, List.set_cons_zero, List.getElem?_toArray, List.getElem?_cons_zero] at ce
      have H9 := Lib.hid h9
      have K9 := Lib.hid k8
      have hlf := HO.out.left.2
      clear h7 h8 hm8 hg8 x8 k8 h9 hmlen K6 X6 H6 b6
      go_wp2_with fail
      refine leaves_cons (f := 26) (args := #[.pointer (some ⟨tb, 0, none⟩), .pointer (some ⟨w.heap.size, 0, none⟩)]) (by simp) (by simp [go_sem]) ?_
      refine (count_any tb mb w.heap.size _ D' .returning _ H9.out ce (by rw [HDP.out]; exact hlf)).mono ?_
      rintro e u' w9 ⟨rfl, rfl, hd, hfr, hc⟩
      have hc9 := hc hne
      refine ⟨.int .i64 0, ?_, rfl, ⟨⟨_, hd⟩, K9.out.trans hfr (fun _ _ e => .inl e)⟩⟩
      simp [results, Try.results10, go_sem, hc9]
  · have HEQ : appendS D n y.l = (D, askS D n) := by unfold appendS; rw [if_pos h0]
    rw [HEQ]
    obtain ⟨E, hE⟩ : ∃ E, E = askS D n := ⟨_, rfl⟩
    rw [← hE] at h0 HAT ⊢
    have h0b : (E == 0) = false := by simpa using h0
    have h0c : (E != 0) = true := by simpa using h0
    clear hE HEQ h0
    replace HAT := Lib.hid HAT
    go_enter_defers Try.func10, Try.ntmps10
    go_wp2_with fail
    refine HAT.out.mono ?_
    rintro e w1 ⟨⟨f, rfl, hp, hfx⟩, hb1⟩
    have hw1 := hb0.trans (hb1.mono hb0.size)
    have HFX := Lib.hid hfx
    have HP := Lib.hid hp
    have x1 : Blk w1 w.heap.size 28 #[.int .i64 0] := (Blk.new w 28 #[.int .i64 0]).below hb1
    have g0 := x1.cell 0
    have f0 := x1.frozen 0
    simp only [List.getElem?_toArray, List.getElem?_cons_zero] at g0
    have hs1 := x1.lt
    clear HAT hb1 hfx hp
    go_wp2_with fail
    have kE : Fr (fun x => x = w.heap.size) w1 (((w1.setCell ⟨w.heap.size, 0, none⟩ (.int .i64 E)).setCell ⟨w.heap.size, 0, none⟩ (.int .i64 E)).alloc (.cells #[.slice f.x.A f.x.l.length f.x.c, .int .i64 f.s] 65)) := (((Fr.refl (fun x => x = w.heap.size) w1).setAt w.heap.size 0 rfl _).setAt w.heap.size 0 rfl _).alloc _
    have xE : Blk (((w1.setCell ⟨w.heap.size, 0, none⟩ (.int .i64 E)).setCell ⟨w.heap.size, 0, none⟩ (.int .i64 E)).alloc (.cells #[.slice f.x.A f.x.l.length f.x.c, .int .i64 f.s] 65)) w.heap.size 28 #[.int .i64 E] := by simpa using ((x1.set_ 0 (.int .i64 E)).set_ 0 (.int .i64 E)).alloc (.cells #[.slice f.x.A f.x.l.length f.x.c, .int .i64 f.s] 65)
    have h1 := HD.out.below hw1
    have hE := h1.fr kE (fun e => by omega) (fun e => by omega) (fun x hx => x1.noBytes (h1.ok x hx).1)
    have ce := xE.cell 0
    simp only [List.getElem?_toArray, List.getElem?_cons_zero] at ce
    have hto : DiskTo w tb mb D (((w1.setCell ⟨w.heap.size, 0, none⟩ (.int .i64 E)).setCell ⟨w.heap.size, 0, none⟩ (.int .i64 E)).alloc (.cells #[.slice f.x.A f.x.l.length f.x.c, .int .i64 f.s] 65)) := ⟨⟨L, hE⟩, (Fr.of_below hw1 (fun g => g = tb ∨ g = mb)).trans kE (fun x hx e => by omega)⟩
    refine leaves_cons (f := 26) (args := #[.pointer (some ⟨tb, 0, none⟩), .pointer (some ⟨w.heap.size, 0, none⟩)]) (by simp) (by simp [go_sem]) ?_
    refine (count_err _ w.heap.size E .returning _ ce (by first | exact h0b | rfl)).mono ?_
    rintro e u' w9 ⟨rfl, rfl, rfl⟩
    refine ⟨.int .i64 E, ?_, rfl, hto⟩
    simp [results, Try.results10, go_sem, ce]

end Go.Proofs.Ytmdbfhfjaapeoaa

/- bytes.Clone. -/
namespace Go.Proofs.Ytmdbfhfjaapeoaa
open Go.RowKit

theorem clone_any (A : Option Addr) (c : Nat) (l : List UInt8) (Z : Nat → Prop) (w : World) (h : By w Z A l) (hlen : l.length ≤ 140737488355328) :
    Calls Try.prog 39 #[.slice A l.length c] w fun e w' => ∃ (A' : Option Addr) (c' : Nat) (l' : List UInt8), e = .returned (.slice A' l'.length c') ∧ Hid (l' = l) ∧ OwB w' w.heap.size (.slice A' l'.length c') l' ∧ Below w.heap.size w w' := by
  rcases A with _ | a
  · have hl : l = [] := by
      rcases l with _ | ⟨x, l⟩
      · rfl
      · obtain ⟨b, off, e, _⟩ := h.2 (by simp); cases e
    subst hl
    refine (Try.bytes_Clone_nil 0 c w).mono ?_
    rintro e w' ⟨rfl, rfl⟩
    exact ⟨none, 0, [], rfl, rfl, OwB.nil _ _, Below.refl _ _⟩
  · refine (Try.bytes_Clone_at a l.length c (l.map fun x => (x.toNat : Int)) w (by simp) hlen ?_).mono ?_
    · intro i hi
      have hg : (l.map bv)[i]? = some (bv l[i]) := by rw [List.getElem?_map, List.getElem?_eq_getElem hi]; rfl
      obtain ⟨b, off, e, _, _, hc⟩ := Rd.atj h hg
      injection e with e
      subst e
      rw [add_none, hc, List.getD_eq_getElem?_getD, List.getElem?_map, List.getElem?_eq_getElem hi]
      rfl
    · rintro e w' ⟨v, rfl, h1, _, hb⟩
      have ho : OwB w' w.heap.size v l := by
        unfold OwB
        have e2 : (l.map fun x => (x.toNat : Int)).map (Value.int .u8) = l.map bv := by simp [bv, Function.comp_def]
        rw [← e2]
        exact h1
      obtain ⟨A', c', rfl, _⟩ := ho.form
      exact ⟨A', c', l, rfl, rfl, ho, hb⟩

theorem own_ablk {w : World} {base : Nat} {A : Option Addr} {n c : Nat} {l : List UInt8} (h : OwB w base (.slice A n c) l) : ∀ b, ablk A = some b → base ≤ b ∧ b < w.heap.size := by
  intro b hb
  rcases A with _ | a
  · cases hb
  · exact h.lt b (by simpa [ablk, Value.ownBlock] using hb)

end Go.Proofs.Ytmdbfhfjaapeoaa

/- disk.Disk: Read, Stop, New, Clone. -/
namespace Go.Proofs.Ytmdbfhfjaapeoaa
open Go.RowKit Go.Maps Go.Shelf

set_option maxRecDepth 100000 in
set_option maxHeartbeats 1000000 in
theorem read_any (tb mb : Nat) (L : List (Int × FV)) (D : DP) (k : Nat) (n : Int) (w : World) (h : DiskAt w tb mb L D) (hok : DOk D k) (hn : (Lit.int .i64 n).wf = true) :
    Calls Try.prog 15 #[.pointer (some ⟨tb, 0, none⟩), .int .i64 n] w fun e w' => ∃ (A : Option Addr) (c : Nat) (l : List UInt8), e = .returned (.tuple #[.slice A l.length c, .int .i64 (readS D n).2]) ∧ Hid (l = (readS D n).1) ∧ OwB w' w.heap.size (.slice A l.length c) l ∧ Below w.heap.size w w' := by
  have HAT := Lib.hid (at_any tb mb L D n w h hn)
  have hfu := file_used D n
  have hrm := hok.room
  have hr2 : (readS D n).2 = askS D n := by
    unfold readS
    split
    · rfl
    · rename_i h1; exact (by simpa using h1 : askS D n = 0).symm
  have hr1 : (readS D n).1 = (if askS D n = 0 then fileS D n else ([], 0)).1 := by
    unfold readS
    by_cases h1 : askS D n = 0
    · rw [if_neg (by simpa using h1), if_pos h1]
    · rw [if_pos h1, if_neg h1]
  obtain ⟨R, hR⟩ : ∃ R, R = readS D n := ⟨_, rfl⟩
  rw [← hR] at hr1 hr2 ⊢
  have hlen : ∀ f : FV, f.p = (if askS D n = 0 then fileS D n else ([], 0)) → f.x.l.length ≤ 140737488355328 ∧ f.x.l = R.1 := fun f hf => by
    have h2 : f.x.l = (if askS D n = 0 then fileS D n else ([], 0)).1 := congrArg Prod.fst hf
    refine ⟨?_, h2.trans hr1.symm⟩
    rw [h2]
    split
    · omega
    · simp
  have HL := Lib.hid hlen
  rw [← hr2] at HAT HL
  clear h hok hn hfu hrm hr2 hr1 hR hlen
  generalize R.2 = r2 at *
  go_enter Try.func15, Try.ntmps15
  go_wp2_with fail
  refine HAT.out.mono ?_
  rintro e w1 ⟨⟨f, rfl, hp, hfx⟩, hb1⟩
  obtain ⟨hfl, hf1⟩ := HL.out f hp.out
  have hba : Below w1.heap.size w1 (w1.alloc (.cells #[.slice f.x.A f.x.l.length f.x.c, .int .i64 f.s] 65)) := (Below.refl _ _).alloc (Nat.le_refl _) _
  have hw1 := hb1.trans (hba.mono hb1.size)
  have hcl := clone_any f.x.A f.x.c f.x.l _ _ (hfx.below hba).1 hfl
  have HCL := Lib.hid hcl
  have HF1 := Lib.hid hf1
  clear HL HAT hp hcl hf1 hfx hba
  go_wp2_with fail
  refine HCL.out.mono ?_
  rintro e w2 ⟨A, c, l, rfl, hl, ho, hb2⟩
  go_wp2_with fail
  go_ret2
  exact ⟨A, c, l, rfl, by show _ = _; rw [hl.out, HF1.out], own_base ho (fun g hg => by have := (ho.lt g hg).1; have := hw1.size; omega), hw1.trans (hb2.mono hw1.size)⟩
set_option maxRecDepth 100000 in
set_option maxHeartbeats 1000000 in
theorem stop_any (tb mb : Nat) (L : List (Int × FV)) (D : DP) (n : Int) (w : World) (h : DiskAt w tb mb L D) :
    Calls Try.prog 19 #[.pointer (some ⟨tb, 0, none⟩), .int .i64 n] w fun e w' => e = .returned (.tuple #[]) ∧ DiskTo w tb mb (stopS D n) w' := by
  have HOF := off_any tb mb L D w h
  obtain ⟨_, _, _, c3⟩ := h.cells
  have f3 := h.blk.frozen 3
  by_cases hl : D.left = 0
  · have hs : stopS D n = D := by unfold stopS; rw [if_pos hl]
    rw [hs]
    rw [show (D.left == 0) = true by simpa using hl] at HOF
    replace HOF := Lib.hid HOF
    have HD := Lib.hid h
    clear h hl hs
    go_enter Try.func19, Try.ntmps19
    go_wp2_with fail
    refine HOF.out.mono ?_
    rintro e w1 ⟨rfl, rfl⟩
    go_wp2_with fail
    go_end0
    exact ⟨rfl, DiskTo.of HD.out (Below.refl _ _)⟩
  · have hs : stopS D n = { D with left := max n (-1) } := by unfold stopS; rw [if_neg hl]
    rw [hs]
    rw [show (D.left == 0) = false by simpa using hl] at HOF
    replace HOF := Lib.hid HOF
    have k1 : Fr (fun x => x = tb) w (w.setCell ⟨tb, 3, none⟩ (.int .i64 (max n (-1)))) := (Fr.refl (fun x => x = tb) w).setAt tb 3 rfl _
    have h1 : DiskAt (w.setCell ⟨tb, 3, none⟩ (.int .i64 (max n (-1)))) tb mb L { D with left := max n (-1) } := h.set k1 (by simpa using h.blk.set_ 3 (.int .i64 (max n (-1)))) rfl
    have H1 := Lib.hid h1
    have K1 := Lib.hid (k1.mono (S' := fun g => g = tb ∨ g = mb) (fun _ _ e => .inl e))
    clear h hl hs h1 k1
    go_enter Try.func19, Try.ntmps19
    go_wp2_with fail
    refine HOF.out.mono ?_
    rintro e w1 ⟨rfl, rfl⟩
    go_wp2_with fail
    go_end0
    exact ⟨rfl, ⟨_, H1.out⟩, K1.out⟩
set_option maxRecDepth 100000 in
set_option maxHeartbeats 1000000 in
theorem diskNew_any (room : Int) (w : World) :
    Calls Try.prog 8 #[.int .i64 room] w fun e w' => ∃ tb mb, e = .returned (.pointer (some ⟨tb, 0, none⟩)) ∧ DiskAt w' tb mb [] (newD room) ∧ w.heap.size ≤ tb ∧ w.heap.size ≤ mb ∧ Below w.heap.size w w' := by
  have hmm := @run_makeMap Try.prog
  obtain ⟨r, hr⟩ : ∃ r, r = min (max room 0) 1048576 := ⟨_, rfl⟩
  have hnd : newD room = ⟨[], 0, r, -1⟩ := by unfold newD; rw [hr]
  rw [hnd]
  go_enter Try.func8, Try.ntmps8
  go_wp2_with fail
  go_ret
  have x1 := Blk.new (w.alloc (.map #[] 0)) 52 #[.map (some w.heap.size), .int .i64 0, .int .i64 (min (max room 0) 1048576), .int .i64 (-1)]
  rw [show (w.alloc (.map #[] 0)).heap.size = w.heap.size + 1 by simp] at x1
  have hba : Below (w.alloc (.map #[] 0)).heap.size (w.alloc (.map #[] 0)) ((w.alloc (.map #[] 0)).alloc (.cells #[.map (some w.heap.size), .int .i64 0, .int .i64 (min (max room 0) 1048576), .int .i64 (-1)] 52)) := (Below.refl _ _).alloc (Nat.le_refl _) _
  have hm := (MapZ.made w Try.prog 3)
  have hm1 := hm.block (hba.block w.heap.size hm.lt)
  refine ⟨w.heap.size + 1, w.heap.size, rfl, ⟨by rw [hr]; exact x1, hm1, by simp, rfl⟩, by omega, Nat.le_refl _, (by repeat (first | exact Below.refl _ _ | refine Below.alloc ?_ (by simp) _ | refine Below.setCell ?_ (by simp) _ | refine Below.drew ?_))⟩
theorem MapZ.clone {b : Nat} {L : List (Int × Value)} {w : World} (h : MapZ w Try.prog 3 b L) :
    Calls Try.prog 40 #[.map (some b)] w fun e w' => e = .returned (.map (some w.heap.size)) ∧ MapZ w' Try.prog 3 w.heap.size L ∧ Below w.heap.size w w' := by
  obtain ⟨D, h1, h2⟩ := h.own
  have := AnyW.maps_Clone_owns Try.cloneM 3 heldZ b L.length D w h1
  change Calls Try.prog 40 _ _ _ at this
  refine this.mono ?_
  rintro e w' ⟨rfl, k1, k2, k3⟩
  exact ⟨rfl, ⟨h.sort, ⟨D, k1, h2⟩, h.wf⟩, k3⟩
set_option maxRecDepth 100000 in
set_option maxHeartbeats 1000000 in
theorem diskClone_any (tb mb : Nat) (L : List (Int × FV)) (D : DP) (w : World) (h : DiskAt w tb mb L D) :
    Calls Try.prog 17 #[.pointer (some ⟨tb, 0, none⟩)] w fun e w' => ∃ cb cm, e = .returned (.pointer (some ⟨cb, 0, none⟩)) ∧ DiskAt w' cb cm L D ∧ w.heap.size ≤ cb ∧ w.heap.size ≤ cm ∧ Below w.heap.size w w' := by
  obtain ⟨c0, c1, c2, c3⟩ := h.cells
  have hb0 : Below w.heap.size w (w.alloc (.cells #[.map (some mb), .int .i64 D.last, .int .i64 D.room, .int .i64 D.left] 52)) := (by repeat (first | exact Below.refl _ _ | refine Below.alloc ?_ (by simp) _ | refine Below.setCell ?_ (by simp) _ | refine Below.drew ?_))
  have h0 := h.below hb0
  have HC := Lib.hid h0.map.clone
  have x0 := Blk.new w 52 #[.map (some mb), .int .i64 D.last, .int .i64 D.room, .int .i64 D.left]
  obtain ⟨d0, _⟩ := h0.cells
  have HD := Lib.hid h
  have htl := h.blk.lt
  clear h h0
  go_enter Try.func17, Try.ntmps17
  go_wp2_with fail
  refine HC.out.mono ?_
  rintro e w1 ⟨rfl, hm1, hb1⟩
  have hw1 := hb0.trans (hb1.mono hb0.size)
  have x1 := x0.below hb1
  have f1 := x1.frozen 0
  have g1 := x1.cell 0
  simp only [List.getElem?_toArray, List.getElem?_cons_zero] at g1
  have k2 : Fr (fun x => x = w.heap.size) w1 (w1.setCell ⟨w.heap.size, 0, none⟩ (.map (some (w.alloc (.cells #[.map (some mb), .int .i64 D.last, .int .i64 D.room, .int .i64 D.left] 52)).heap.size))) := (Fr.refl (fun x => x = w.heap.size) w1).setAt w.heap.size 0 rfl _
  have hcm : w.heap.size < (w.alloc (.cells #[.map (some mb), .int .i64 D.last, .int .i64 D.room, .int .i64 D.left] 52)).heap.size := by simp
  generalize (w.alloc (.cells #[.map (some mb), .int .i64 D.last, .int .i64 D.room, .int .i64 D.left] 52)).heap.size = cm at *
  have hx2 : Blk (w1.setCell ⟨w.heap.size, 0, none⟩ (.map (some cm))) w.heap.size 52 #[.map (some cm), .int .i64 D.last, .int .i64 D.room, .int .i64 D.left] := by simpa using x1.set_ 0 (.map (some cm))
  have hm2 := hm1.block (k2.block cm hm1.lt (by omega))
  have hbb : Below w.heap.size w (w1.setCell ⟨w.heap.size, 0, none⟩ (.map (some cm))) := hw1.setCell (p := ⟨w.heap.size, 0, none⟩) (Nat.le_refl _) _
  have HN : Hid (DiskAt (w1.setCell ⟨w.heap.size, 0, none⟩ (.map (some cm))) w.heap.size cm L D) := Lib.hid ⟨hx2, hm2, fun x hx => (HD.out.ok x hx).below hbb, HD.out.plain⟩
  clear hm1 hm2 hx2 k2 x1 x0 hb1
  go_wp2_with fail
  go_ret
  exact ⟨_, cm, rfl, HN.out, Nat.le_refl _, by omega, hbb⟩
end Go.Proofs.Ytmdbfhfjaapeoaa

/- Flat lists of cells. -/
namespace Go.Proofs.Ytmdbfhfjaapeoaa
open Go.RowKit

theorem flat_get {α : Type} {f : α → List Value} {k : Nat} (hk : ∀ x, (f x).length = k) : ∀ (l : List α) (i j : Nat) (hi : i < l.length), j < k → (l.flatMap f)[i * k + j]? = (f l[i])[j]?
  | x :: l, 0, j, _, hj => by
    rw [List.flatMap_cons, List.getElem?_append_left (by rw [hk]; omega)]
    simp
  | x :: l, i + 1, j, hi, hj => by
    have e : (i + 1) * k + j - (f x).length = i * k + j := by rw [hk, Nat.add_mul]; omega
    rw [List.flatMap_cons, List.getElem?_append_right (by rw [hk, Nat.add_mul]; omega), e, flat_get hk l i j (by simpa using hi) hj]
    simp
theorem flat_len {α : Type} {f : α → List Value} {k : Nat} (hk : ∀ x, (f x).length = k) : ∀ (l : List α), (l.flatMap f).length = l.length * k
  | [] => by simp
  | x :: l => by rw [List.flatMap_cons, List.length_append, hk, flat_len hk l, List.length_cons, Nat.add_mul]; omega

end Go.Proofs.Ytmdbfhfjaapeoaa
