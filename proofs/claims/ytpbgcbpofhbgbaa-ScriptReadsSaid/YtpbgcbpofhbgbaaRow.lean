/- A row of a call's own at any offset: cells, stores, tails, append. No function of the program. -/
import Derived.Test.YtpbgcbpofhbgbaaOpen2
import Derived.ArgAppend
namespace Go.Proofs.Ytpbgcbpofhbgbaa
open Go.RowKit

/-- A is n elements of so many cells, with room for c, in a block of its own (element type e) at or beyond base. -/
structure Row (w : World) (base : Nat) (e : TypeId) (size : Nat) (A : Option Addr) (n c : Nat) (xs : List Value) : Prop where
  len : xs.length = n * size
  room : n ≤ c
  cap : c ≤ maxLen
  nil : A = none → n = 0 ∧ c = 0
  at_ : ∀ a, A = some a → ∃ g off cur, a = ⟨g, off, none⟩ ∧ base ≤ g ∧ Blk w g e cur ∧ off + c * size ≤ cur.size ∧ ∀ j u, xs[j]? = some u → cur[off + j]? = some u

namespace Row
variable {w w' : World} {base size n c : Nat} {e : TypeId} {A : Option Addr} {xs : List Value}
theorem none_ (w : World) (base : Nat) (e : TypeId) (size : Nat) : Row w base e size none 0 0 [] := ⟨by simp, Nat.le_refl _, by simp [maxLen], fun _ => ⟨rfl, rfl⟩, fun a h => by cases h⟩
theorem fr {S : Nat → Prop} (h : Row w base e size A n c xs) (k : Fr S w w') (hs : ∀ g, ablk A = some g → ¬ S g) : Row w' base e size A n c xs :=
  ⟨h.len, h.room, h.cap, h.nil, fun a ha => by
    obtain ⟨g, off, cur, e1, hb, hk, hsz, hc⟩ := h.at_ a ha
    exact ⟨g, off, cur, e1, hb, hk.fr k (hs g (by rw [ha, e1]; rfl)), hsz, hc⟩⟩
theorem below (h : Row w base e size A n c xs) (k : Below w.heap.size w w') : Row w' base e size A n c xs := h.fr (Fr.of_below k (fun _ => False)) (fun _ _ h => h)
theorem alloc (h : Row w base e size A n c xs) (o : Obj) : Row (w.alloc o) base e size A n c xs := h.below ((Below.refl _ _).alloc (Nat.le_refl _) o)
theorem drew (h : Row w base e size A n c xs) : Row w.drew base e size A n c xs := h.below (Below.refl _ _).drew
theorem lt (h : Row w base e size A n c xs) : ∀ g, ablk A = some g → base ≤ g ∧ g < w.heap.size := by
  intro g hg
  rcases A with _ | a
  · cases hg
  · obtain ⟨g', off, cur, e1, hb, hk, _⟩ := h.at_ a rfl
    subst e1
    injection hg with hg
    exact hg ▸ ⟨hb, hk.lt⟩
theorem rebase {base' : Nat} (h : Row w base e size A n c xs) (hb : ∀ g, ablk A = some g → base' ≤ g) : Row w base' e size A n c xs :=
  ⟨h.len, h.room, h.cap, h.nil, fun a ha => by
    obtain ⟨g, off, cur, e1, _, r⟩ := h.at_ a ha
    exact ⟨g, off, cur, e1, hb g (by rw [ha, e1]; rfl), r⟩⟩
theorem ne_blk {g : Nat} {t : TypeId} {cs : Array Value} (h : Row w base e size A n c xs) (hb : Blk w g t cs) (hne : e ≠ t) : ablk A ≠ some g := by
  intro hg
  rcases A with _ | a
  · cases hg
  · obtain ⟨g', off, cur, e1, _, hk, _⟩ := h.at_ a rfl
    subst e1
    injection hg with hg
    have hg' : g' = g := hg
    subst hg'
    exact Blk.ne_ hk hb hne rfl
theorem of_own (h : w.ownsRow base e size (.slice A n c) n xs) : Row w base e size A n c xs := by
  rcases h.2 with ⟨hv, hn⟩ | ⟨g, cap, cur, hv, hb, hg, hn, hm, hs, ht⟩
  · injection hv with h1 h2 h3
    subst h1 h2 h3
    exact ⟨h.1, Nat.le_refl _, by simp [maxLen], fun _ => ⟨rfl, rfl⟩, fun a ha => by cases ha⟩
  · injection hv with h1 h2 h3
    subst h1 h3
    refine ⟨h.1, hn, hm, fun h => (by cases h), fun a ha => ?_⟩
    injection ha with ha
    subst ha
    refine ⟨g, 0, cur, rfl, hb, hg, by omega, fun j u hu => ?_⟩
    rw [← ht, List.getElem?_take] at hu
    split at hu
    · simpa using hu
    · cases hu
theorem cell {g off : Nat} (h : Row w base e size (some ⟨g, off, none⟩) n c xs) {j : Nat} {u : Value} (hu : xs[j]? = some u) : w.cell? ⟨g, off + j, none⟩ = some u := by
  obtain ⟨g', off', cur, e1, _, hk, _, hc⟩ := h.at_ _ rfl
  injection e1 with h1 h2
  subst h1 h2
  rw [hk.cell, hc j u hu]
theorem frozen {g off : Nat} (h : Row w base e size (some ⟨g, off, none⟩) n c xs) (i : Nat) : w.frozen? ⟨g, i, none⟩ = false := by
  obtain ⟨g', off', cur, e1, _, hk, _, _⟩ := h.at_ _ rfl
  injection e1 with h1 h2
  subst h1 h2
  exact hk.frozen i
theorem addr (h : Row w base e size A n c xs) (hn : 0 < n) : ∃ g off, A = some ⟨g, off, none⟩ ∧ base ≤ g ∧ g < w.heap.size := by
  rcases A with _ | a
  · have := (h.nil rfl).1; omega
  · obtain ⟨g, off, cur, e1, hb, hk, _⟩ := h.at_ a rfl
    exact ⟨g, off, by rw [e1], hb, hk.lt⟩
theorem rd (h : Row w base e size A n c xs) : Rd w (fun b => ablk A = some b) size A n xs := by
  refine ⟨h.len, fun hn => ?_⟩
  have hn' : 0 < n := Nat.pos_of_mul_pos_right hn
  obtain ⟨g, off, rfl, hb, hlt⟩ := h.addr hn'
  exact ⟨g, off, rfl, rfl, hlt, fun j u hu => h.cell hu⟩
theorem put {g off : Nat} (h : Row w base e size (some ⟨g, off, none⟩) n c xs) (j : Nat) (u : Value) : Row (w.setCell ⟨g, off + j, none⟩ u) base e size (some ⟨g, off, none⟩) n c (xs.set j u) := by
  obtain ⟨g', off', cur, e1, hb, hk, hs, hc⟩ := h.at_ _ rfl
  injection e1 with h1 h2
  subst h1 h2
  refine ⟨by rw [List.length_set]; exact h.len, h.room, h.cap, fun h => (by cases h), fun a ha => ?_⟩
  injection ha with ha
  subst ha
  refine ⟨g, off, _, rfl, hb, hk.set_ (off + j) u, by simpa using hs, fun i v hv => ?_⟩
  rw [List.getElem?_set] at hv
  split at hv
  · rename_i hij
    subst hij
    split at hv
    · rename_i hjl
      have hlt : off + j < cur.size := by
        have := hc j _ (List.getElem?_eq_getElem hjl)
        exact (Array.getElem?_eq_some_iff.1 this).1
      rw [Array.getElem?_setIfInBounds_self_of_lt hlt]
      exact hv
    · cases hv
  · rename_i hij
    rw [Array.getElem?_setIfInBounds_ne (by omega)]
    exact hc i v hv
/-- s[k:] -/
theorem tail (h : Row w base e size A n c xs) {k : Nat} (hk : k ≤ n) : Row w base e size (if c = k then A else A.map (·.add (k * size))) (n - k) (c - k) (xs.drop (k * size)) := by
  have hr := h.room
  refine ⟨by rw [List.length_drop, h.len, Nat.sub_mul], by omega, by have := h.cap; omega, ?_, ?_⟩
  · intro hA
    split at hA
    · rename_i hck
      have := h.nil hA
      omega
    · rcases A with _ | a
      · have := h.nil rfl; omega
      · cases hA
  · intro a ha
    split at ha
    · rename_i hck
      obtain ⟨g, off, cur, e1, hb, hbk, hs, hc⟩ := h.at_ a ha
      refine ⟨g, off, cur, e1, hb, hbk, by rw [show c - k = 0 by omega]; omega, fun j u hu => ?_⟩
      have hn : n = k := by omega
      rw [List.drop_of_length_le (by rw [h.len, hn]; exact Nat.le_refl _)] at hu
      simp at hu
    · rcases A with _ | a0
      · cases ha
      · obtain ⟨g, off, cur, e1, hb, hbk, hs, hc⟩ := h.at_ a0 rfl
        subst e1
        injection ha with ha
        replace ha : (⟨g, off, none⟩ : Addr).add (k * size) = a := ha
        rw [add_none] at ha
        subst ha
        have hmul : (c - k) * size = c * size - k * size := Nat.sub_mul _ _ _
        have hle : k * size ≤ c * size := Nat.mul_le_mul_right _ (by omega)
        refine ⟨g, off + k * size, cur, rfl, hb, hbk, by omega, fun j u hu => ?_⟩
        rw [Nat.add_assoc]
        exact hc _ u (by rw [← hu, List.getElem?_drop])
/-- s[:k:k] -/
theorem head (h : Row w base e size A n c xs) {k : Nat} (hk : k ≤ n) : Row w base e size A k k (xs.take (k * size)) := by
  have hr := h.room
  have hle : k * size ≤ n * size := Nat.mul_le_mul_right _ hk
  refine ⟨by rw [List.length_take, h.len]; omega, Nat.le_refl _, by have := h.cap; omega, fun hA => by have := h.nil hA; omega, fun a ha => ?_⟩
  obtain ⟨g, off, cur, e1, hb, hbk, hs, hc⟩ := h.at_ a ha
  have : k * size ≤ c * size := Nat.mul_le_mul_right _ (by omega)
  refine ⟨g, off, cur, e1, hb, hbk, by omega, fun j u hu => ?_⟩
  rw [List.getElem?_take] at hu
  split at hu
  · exact hc j u hu
  · cases hu
end Row

theorem blk_setCells {g : Nat} {t : TypeId} : ∀ (vs : List Value) (o : Nat) {w : World} {cs : Array Value}, Blk w g t cs → ∃ cs', Blk (w.setCells g o vs) g t cs' ∧ cs'.size = cs.size
  | [], o, w, cs, h => ⟨cs, h, rfl⟩
  | v :: vs, o, w, cs, h => by
    obtain ⟨cs', h1, h2⟩ := blk_setCells vs (o + 1) (h.set_ o v)
    exact ⟨cs', h1, by rw [h2]; simp⟩
theorem grown_setCells (g : Nat) : ∀ (vs : List Value) (o : Nat) (w : World), w.grownBy (w.setCells g o vs) (some g)
  | [], o, w => World.grownBy.refl w _
  | v :: vs, o, w => by
    have h1 : w.grownBy (w.setCell ⟨g, o, none⟩ v) (some g) := ⟨rfl, rfl, rfl, by simp [World.setCell], fun k _ hk => Below.heap_setCell w ⟨g, o, none⟩ v k (fun e => hk (by rw [e]))⟩
    have h2 := grown_setCells g vs (o + 1) (w.setCell ⟨g, o, none⟩ v)
    exact h1.trans h2

section
variable {P : Program} (w : World)
theorem run_append_row (base : Nat) (t ty e : TypeId) (i : TypeInfo) (z : Value) (size bytes : Nat) (ht : P.underlying t = some (.slice e)) (hi : P.info? e = some i) (hz : i.zero = some z)
    (hsize : i.size = size) (hby : i.bytes = bytes) (hzs : z.cells.size = size) (hsz : 0 < size)
    {A : Option Addr} {n c : Nat} {xs : List Value} (h : Row w base e size A n c xs)
    {Z : Nat → Prop} {B : Option Addr} {m d : Nat} {news : List Value} (hr : Rd w Z size B m news) (h1 : ∀ u ∈ news, u.oneCell' = true)
    (h63 : n + m ≤ maxLen) (hbytes : (n + m) * bytes ≤ 140737488355328) (hbase : base ≤ w.heap.size) :
    ∃ A' c' w', (Builtin.append_ #[t, t] ty #[.slice A n c, .slice B m d]).run P w = .ok (.slice A' (n + m) c') w' ∧ Row w' base e size A' (n + m) c' (xs ++ news) ∧ w.grownBy w' (ablk A) ∧ (∀ g, ablk A' = some g → ablk A = some g ∨ w.heap.size ≤ g) := by
  rcases B with _ | ad
  · have hm : m = 0 := by
      rcases Nat.eq_zero_or_pos m with h0 | h0
      · exact h0
      · obtain ⟨b, off, hh, _⟩ := hr.2 (Nat.mul_pos h0 hsz)
        cases hh
    subst hm
    have hn : news = [] := List.eq_nil_of_length_eq_zero (by simpa using hr.1)
    subst hn
    refine ⟨A, c, w, ?_, by simpa using h, World.grownBy.refl w _, fun g hg => .inl hg⟩
    rcases A with _ | a
    · obtain ⟨rfl, rfl⟩ := h.nil rfl
      simp [Builtin.append_, run_underlying ht, sizeOf, typeInfo, hi, Builtin.lenOf, Builtin.firstCells]
    · have := h.room
      simp [Builtin.append_, run_underlying ht, sizeOf, typeInfo, hi, Builtin.lenOf, Builtin.firstCells, this, storeCells]
  · have hnews : ∀ j u, news[j]? = some u → w.cell? (ad.add j) = some u := by
      intro j u hu
      obtain ⟨b, off, hh, _, _, hc⟩ := hr.atj hu
      injection hh with hh
      subst hh
      rw [add_none]
      exact hc
    rcases A with _ | a
    · obtain ⟨rfl, rfl⟩ := h.nil rfl
      have hx : xs = [] := List.eq_nil_of_length_eq_zero (by simpa using h.len)
      subst hx
      obtain ⟨v', w', hrun, h2, h3, _, h5⟩ := run_append_own_at (P := P) w base t ty e i z size bytes ht hi hz hsize hby hzs hsz (.slice none 0 0) 0 [] (World.ownsRow_nil _ _ _ _) ad m d news hr.1 hnews h1 h63 hbytes hbase
      obtain ⟨A', c', rfl, _, _, hb⟩ := own_form h2
      refine ⟨A', c', w', hrun, Row.of_own h2, h3, ?_⟩
      intro g hg
      rcases A' with _ | a'
      · cases hg
      · injection hg with hg
        rcases h5 with h5 | h5
        · simp [Value.ownBlock] at h5
        · simp [Value.ownBlock] at h5
          exact .inr (by omega)
    · obtain ⟨g, off, cur, e1, hb, hk, hs, hc⟩ := h.at_ a rfl
      subst e1
      by_cases hroom : n + m ≤ c
      · subst hsize
        have hnl : news.length = m * i.size := hr.1
        have hfit : n * i.size + m * i.size ≤ c * i.size := by rw [← Nat.add_mul]; exact Nat.mul_le_mul_right _ hroom
        have hin : ∀ j, j < news.length → (w.cell? ⟨g, off + n * i.size + j, none⟩).isSome = true := by
          intro j hj
          rw [hk.cell, Array.getElem?_eq_getElem (by omega)]
          rfl
        have hrun := run_append_room_cells (P := P) w t ty e i ht hi g off n c ad m d news hnl hnews h1 hroom hin (fun j _ => hk.frozen _)
        refine ⟨_, _, _, hrun, ?_, grown_setCells g news _ w, fun g hg => .inl hg⟩
        obtain ⟨cs', hk', hs'⟩ := blk_setCells news (off + n * i.size) hk
        refine ⟨by rw [List.length_append, h.len, hnl, Nat.add_mul], hroom, h.cap, fun hh => (by cases hh), fun a ha => ?_⟩
        injection ha with ha
        subst ha
        refine ⟨g, off, cs', rfl, hb, hk', by omega, fun j u hu => ?_⟩
        rw [← hk'.cell]
        by_cases hj : j < xs.length
        · rw [List.getElem?_append_left hj] at hu
          rw [World.cell?_setCells_out g news _ w ⟨g, off + j, none⟩ (fun _ _ => .inl (by have := h.len; simp only; omega)), hk.cell]
          exact hc j u hu
        · rw [List.getElem?_append_right (by omega)] at hu
          have hjl := (List.getElem?_eq_some_iff.1 hu)
          obtain ⟨hjl, hju⟩ := hjl
          have hx := World.cell?_setCells_in g news (off + n * i.size) w hin (j - xs.length) hjl
          have hl := h.len
          rw [show off + n * i.size + (j - xs.length) = off + j by omega] at hx
          rw [hx, hju]
      · obtain ⟨v', w', hrun, h2, h3⟩ := run_append_arg_grows (P := P) w t ty e i z size bytes ht hi hz hsize hby hzs hsz ⟨g, off, none⟩ n c xs h.len (fun j u hu => by rw [add_none]; exact h.cell hu) ad m d news hr.1 hnews (by omega) h63 hbytes
        obtain ⟨A', c', rfl, _, _, hb2, hnil, _⟩ := own_form h2
        refine ⟨A', c', w', hrun, (Row.of_own h2).rebase (fun g hg => Nat.le_trans hbase (hb2 g hg).1), ⟨h3.os, h3.tape, h3.output, h3.size, fun k hk _ => h3.block k hk (by simp)⟩, ?_⟩
        exact fun g' hg' => .inr (hb2 g' hg').1
theorem wp_append_row {o : Oper} {a : Act} {K : Act → World → Prop} {Q : Exit → Act → World → Prop} (s x : Operand) (t : TypeId)
    (ho : o.op = .call { callee := .builtin .append, args := #[s, x], argTypes := #[t, t] })
    (base : Nat) (e : TypeId) (i : TypeInfo) (z : Value) (size bytes : Nat) (ht : P.underlying t = some (.slice e)) (hi : P.info? e = some i) (hz : i.zero = some z)
    (hsize : i.size = size) (hby : i.bytes = bytes) (hzs : z.cells.size = size) (hsz : 0 < size)
    {A : Option Addr} {n c : Nat} {xs : List Value} (hs : a.eval s = .slice A n c) (hrow : Row w base e size A n c xs)
    {Z : Nat → Prop} {B : Option Addr} {m d : Nat} {news : List Value} (hx : a.eval x = .slice B m d) (hr : Rd w Z size B m news) (h1 : ∀ u ∈ news, u.oneCell' = true)
    (h63 : n + m ≤ maxLen) (hbytes : (n + m) * bytes ≤ 140737488355328) (hbase : base ≤ w.heap.size)
    (h : ∀ (A' : Option Addr) (c' : Nat) (w' : World), Row w' base e size A' (n + m) c' (xs ++ news) → w.grownBy w' (ablk A) → (∀ g, ablk A' = some g → ablk A = some g ∨ w.heap.size ≤ g) → K (a.put o.dst (.slice A' (n + m) c')) w') : o.wp P a w K Q := by
  obtain ⟨A', c', w', hrun, h2, h3, h4⟩ := run_append_row (P := P) w base t o.type e i z size bytes ht hi hz hsize hby hzs hsz hrow hr h1 h63 hbytes hbase (d := d)
  unfold Oper.wp execOp
  simp only [ho, resolve, invoke, builtin, Sem.run_bind, Sem.run_pure, Result.andThen_ok, List.map_toArray, List.map_cons, List.map_nil, hs, hx, hrun]
  exact h A' c' w' h2 h3 h4

theorem wpList_append_row {ops : Array Oper} {rest : List Oper} {o : Oper} {a : Act} {Q : Exit → Act → World → Prop} (hgd : o.guard = none) (s x : Operand) (t : TypeId)
    (ho : o.op = .call { callee := .builtin .append, args := #[s, x], argTypes := #[t, t] })
    (base : Nat) (e : TypeId) (i : TypeInfo) (z : Value) (size bytes : Nat) (ht : P.underlying t = some (.slice e)) (hi : P.info? e = some i) (hz : i.zero = some z)
    (hsize : i.size = size) (hby : i.bytes = bytes) (hzs : z.cells.size = size) (hsz : 0 < size)
    {A : Option Addr} {n c : Nat} {xs : List Value} (hs : a.eval s = .slice A n c) (hrow : Row w base e size A n c xs)
    {Z : Nat → Prop} {B : Option Addr} {m d : Nat} {news : List Value} (hx : a.eval x = .slice B m d) (hr : Rd w Z size B m news) (h1 : ∀ u ∈ news, u.oneCell' = true)
    (h63 : n + m ≤ maxLen) (hbytes : (n + m) * bytes ≤ 140737488355328) (hbase : base ≤ w.heap.size)
    (h : ∀ (A' : Option Addr) (c' : Nat) (w' : World), Row w' base e size A' (n + m) c' (xs ++ news) → w.grownBy w' (ablk A) → (∀ g, ablk A' = some g → ablk A = some g ∨ w.heap.size ≤ g) → wpList P ops Q rest (a.put o.dst (.slice A' (n + m) c')) w') : wpList P ops Q (o :: rest) a w :=
  wpList_plain hgd fun _ hK => wp_append_row w s x t ho base e i z size bytes ht hi hz hsize hby hzs hsz hs hrow hx hr h1 h63 hbytes hbase fun A' c' w' h2 h3 h4 => hK _ _ (h A' c' w' h2 h3 h4)

theorem step_append_row {ops : Array Oper} {o : Oper} {a : Act} {K : Act → World → Prop} {Q : Exit → Act → World → Prop} {E : Prop} (hgd : o.guard = none) (s x : Operand) (t : TypeId)
    (ho : o.op = .call { callee := .builtin .append, args := #[s, x], argTypes := #[t, t] })
    (base : Nat) (e : TypeId) (i : TypeInfo) (z : Value) (size bytes : Nat) (ht : P.underlying t = some (.slice e)) (hi : P.info? e = some i) (hz : i.zero = some z)
    (hsize : i.size = size) (hby : i.bytes = bytes) (hzs : z.cells.size = size) (hsz : 0 < size)
    {A : Option Addr} {n c : Nat} {xs : List Value} (hs : a.eval s = .slice A n c) (hrow : Row w base e size A n c xs)
    {Z : Nat → Prop} {B : Option Addr} {m d : Nat} {news : List Value} (hx : a.eval x = .slice B m d) (hr : Rd w Z size B m news) (h1 : ∀ u ∈ news, u.oneCell' = true)
    (h63 : n + m ≤ maxLen) (hbytes : (n + m) * bytes ≤ 140737488355328) (hbase : base ≤ w.heap.size)
    (h : ∀ (A' : Option Addr) (c' : Nat) (w' : World), Row w' base e size A' (n + m) c' (xs ++ news) → w.grownBy w' (ablk A) → (∀ g, ablk A' = some g → ablk A = some g ∨ w.heap.size ≤ g) → K (a.put o.dst (.slice A' (n + m) c')) w') :
    if Region.wanted o (yielded ops a.tmps) = true then Oper.wp P o a w K Q else E := by
  have hw : Region.wanted o (yielded ops a.tmps) = true := by simp [Region.wanted, hgd]
  rw [if_pos hw]
  exact wp_append_row w s x t ho base e i z size bytes ht hi hz hsize hby hzs hsz hs hrow hx hr h1 h63 hbytes hbase h
end
end Go.Proofs.Ytpbgcbpofhbgbaa
