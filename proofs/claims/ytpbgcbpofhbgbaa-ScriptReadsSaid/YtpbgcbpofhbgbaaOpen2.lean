/- Arguments opened: slices of whatever, structs, with the form's own reach. -/
import Derived.Test.YtpbgcbpofhbgbaaMem
import Derived.Deep.Slices
namespace Go.Proofs.Ytpbgcbpofhbgbaa
open Go.RowKit Go.WideShapes Go.ChangeShapes Go.ChangeAt Go.Deep

theorem bv_of {m : Nat} (h : m < 256) : bv (UInt8.ofNat m) = .int .u8 (m : Int) := by
  unfold bv
  rw [UInt8.toNat_ofNat', Nat.mod_eq_of_lt h]

section
variable {H : Type} {enc : TypeId × Value → H} {w : World} {spare : Nat → Bool} {held : Bool}

/-- a reading within the form's reach -/
def Within (t : TypeId) (x : DataW H × List MemPlace) : Prop := ∀ k ∈ x.1.weights Try.prog t, k ≤ reachBytes

theorem weightsAll_mem {P : Program} {e : TypeId} {d : DataW H} {k : Nat} (hk : k ∈ d.weights P e) : ∀ {l : List (DataW H)}, d ∈ l → k ∈ DataW.weightsAll P e l
  | x :: l, h => by
    rw [DataW.weightsAll, List.mem_append]
    rcases List.mem_cons.1 h with rfl | h
    · exact .inl hk
    · exact .inr (weightsAll_mem hk h)

theorem pick_list {α : Type} {p : Nat → α → Prop} : ∀ n, (∀ i, i < n → ∃ a, p i a) → ∃ l : List α, l.length = n ∧ ∀ i (hi : i < l.length), p i l[i]
  | 0, _ => ⟨[], rfl, by simp⟩
  | k + 1, h => by
    obtain ⟨l, h1, h2⟩ := pick_list k (fun i hi => h i (by omega))
    obtain ⟨al, hal⟩ := h k (by omega)
    refine ⟨l ++ [al], by simp [h1], fun i hi => ?_⟩
    rcases Nat.lt_or_ge i l.length with hlt | hge
    · rw [List.getElem_append_left hlt]; exact h2 i hlt
    · have : i = k := by simp at hi; omega
      subst this
      rw [List.getElem_append_right (by omega)]
      simpa [h1] using hal

theorem flat_at {α : Type} (f : α → List Value) (k : Nat) : ∀ (l : List α), (∀ x ∈ l, (f x).length = k) → ∀ (i j : Nat) (hi : i < l.length), j < k → (l.flatMap f)[i * k + j]? = (f l[i])[j]?
  | x :: l, h, 0, j, _, hj => by
    rw [List.flatMap_cons, List.getElem?_append_left (by rw [h x (by simp)]; omega)]
    simp
  | x :: l, h, i + 1, j, hi, hj => by
    have hx := h x (by simp)
    have e : (i + 1) * k + j - (f x).length = i * k + j := by rw [hx, Nat.add_mul]; omega
    rw [List.flatMap_cons, List.getElem?_append_right (by rw [hx, Nat.add_mul]; omega), e, flat_at f k l (fun y hy => h y (by simp [hy])) i j (by simpa using hi) hj]
    simp

theorem open_sl {α : Type} (f : α → List Value) (ok : α → Prop) (sz by_ : Nat) {t e : TypeId} (ht : Try.prog.underlying t = some (.slice e)) (hC : Try.prog.cellsOf e = sz) (hB : Try.prog.bytesOf e = by_) (hsz : 0 < sz)
    (hel : ∀ (n : Nat) (cs : List Value) (x : DataW H × List MemPlace), DataW.trod enc Try.prog w 0 spare held n e cs = some x → Within e x → ∃ a, cs = f a ∧ ok a)
    {n : Nat} {v : Value} {x : DataW H × List MemPlace} (h : DataW.trod enc Try.prog w 0 spare held n t [v] = some x) (hw : Within t x) :
    ∃ (A : Option Addr) (c : Nat) (l : List α), v = .slice A l.length c ∧ l.length ≤ c ∧ c ≤ maxLen ∧ Rd w (fun b => b < w.heap.size) sz A l.length (l.flatMap f) ∧ (∀ a ∈ l, ok a) ∧ l.length * by_ ≤ reachBytes := by
  rcases open_slice ht h with ⟨hcs, _⟩ | ⟨a, len, cap, m, n', D, Pl, hcs, _, hl, hm, hmm, hx, hi⟩
  · obtain rfl := List.singleton_inj.1 hcs
    exact ⟨none, 0, [], rfl, Nat.le_refl _, by simp [maxLen], Rd.nil, by simp, by simp⟩
  · obtain rfl := List.singleton_inj.1 hcs
    have hlm : len ≤ m := by rw [hmm]; split <;> omega
    have hwt : ∀ k, k ∈ (len + (m - len)) * by_ :: (DataW.weightsAll Try.prog e ((List.range len).map D) ++ DataW.weightsAll Try.prog e ((List.range (m - len)).map fun j => D (len + j))) → k ≤ reachBytes := by
      intro k hk
      refine hw k ?_
      rw [hx]
      simp only [DataW.weights, ht, List.length_map, List.length_range, hB]
      exact hk
    have hch : ∀ i, i < len → ∃ al : α, ok al ∧ w.cells? 0 (a.add (i * sz)) sz = some (f al) := by
      intro i hil
      obtain ⟨cs', h1, h2⟩ := hi i (by omega)
      obtain ⟨al, rfl, hok⟩ := hel n' cs' _ h2 (fun k hk => hwt k (by
        refine List.mem_cons_of_mem _ (List.mem_append.2 (.inl (weightsAll_mem hk ?_)))
        exact List.mem_map.2 ⟨i, List.mem_range.2 hil, rfl⟩))
      rw [hC] at h1
      exact ⟨al, hok, h1⟩
    obtain ⟨l, rfl, hpl⟩ := pick_list len hch
    have hok : ∀ al ∈ l, ok al := by
      intro al hal
      obtain ⟨i, hil, rfl⟩ := List.getElem_of_mem hal
      exact (hpl i hil).1
    have hcells : ∀ i (hi : i < l.length), w.cells? 0 (a.add (i * sz)) sz = some (f l[i]) := fun i hil => (hpl i hil).2
    have hfl : ∀ i (hi : i < l.length), (f l[i]).length = sz ∧ ∀ j u, (f l[i])[j]? = some u → w.cell? ((a.add (i * sz)).add j) = some u := by
      intro i hi
      obtain ⟨_, hcl, hat⟩ := World.cells?_some (hcells i hi)
      refine ⟨hcl, fun j u hu => ?_⟩
      have hj : j < (f l[i]).length := (List.getElem?_eq_some_iff.1 hu).1
      rw [hat j (by omega), hu]
    refine ⟨some a, cap, l, rfl, by omega, hm, ?_, hok, ?_⟩
    · have hget : ∀ (l' : List α), (∀ x ∈ l', (f x).length = sz) → (l'.flatMap f).length = l'.length * sz := by
        intro l' h'
        induction l' with
        | nil => simp
        | cons x l' ih => rw [List.flatMap_cons, List.length_append, h' x (by simp), ih (fun y hy => h' y (by simp [hy])), List.length_cons, Nat.add_mul]; omega
      have hall : ∀ x ∈ l, (f x).length = sz := by
        intro x hx
        obtain ⟨i, hi, rfl⟩ := List.getElem_of_mem hx
        exact (hfl i hi).1
      refine ⟨hget l hall, fun hpos => ?_⟩
      have hl0 : 0 < l.length := Nat.pos_of_mul_pos_right hpos
      obtain ⟨u0, hu0⟩ : ∃ u, (f l[0])[0]? = some u := ⟨_, List.getElem?_eq_getElem (by rw [(hfl 0 hl0).1]; exact hsz)⟩
      have h0 := (hfl 0 hl0).2 0 u0 hu0
      have ha0 : (a.add (0 * sz)).add 0 = a := by simp [Addr.add]
      rw [ha0] at h0
      have hspot : a = ⟨a.block, a.off, none⟩ := by
        obtain ⟨b, o, s⟩ := a
        rcases s with _ | s
        · rfl
        · exfalso
          unfold World.cell? at h0
          split at h0 <;> simp at h0
      refine ⟨a.block, a.off, by rw [← hspot], World.block_lt_of_cell? w a h0, World.block_lt_of_cell? w a h0, fun j u hu => ?_⟩
      have hj := (List.getElem?_eq_some_iff.1 hu).1
      rw [hget l hall] at hj
      have hi : j / sz < l.length := by rw [Nat.div_lt_iff_lt_mul hsz]; exact hj
      have hjm : j = j / sz * sz + j % sz := by rw [Nat.mul_comm]; exact (Nat.div_add_mod j sz).symm
      have hg := flat_at f sz l hall (j / sz) (j % sz) hi (Nat.mod_lt _ hsz)
      rw [← hjm, hu] at hg
      have := (hfl _ hi).2 (j % sz) u hg.symm
      rw [hspot, add_none, add_none, Nat.add_assoc, ← hjm] at this
      exact this
    · have := hwt _ (List.mem_cons_self)
      refine Nat.le_trans (Nat.mul_le_mul_right _ ?_) this
      omega

theorem flat_single {α : Type} (g : α → Value) : ∀ l : List α, (l.flatMap fun a => [g a]) = l.map g
  | [] => rfl
  | x :: l => by rw [List.flatMap_cons, flat_single g l]; rfl

/-- a []byte -/
theorem open_bv {n : Nat} {v : Value} {x : DataW H × List MemPlace} (h : DataW.trod enc Try.prog w 0 spare held n 23 [v] = some x) (hw : Within 23 x) :
    ∃ b : BV, v = b.v ∧ b.ok w (fun b => b < w.heap.size) ∧ b.l.length ≤ 140737488355328 := by
  obtain ⟨A, c, l, rfl, h1, h2, h3, _, h5⟩ := open_sl (w := w) (enc := enc) (spare := spare) (held := held) (fun x : UInt8 => [bv x]) (fun _ => True) 1 1 (t := 23) (e := 5) Try.underlying23 (by kernel_rfl) (by kernel_rfl) (by omega)
    (fun n cs x hx _ => by
      obtain ⟨m, rfl, _, hwf⟩ := DataW.trod_int Try.underlying5 hx
      have hb := u8_bd hwf
      refine ⟨UInt8.ofNat m.toNat, ?_, trivial⟩
      rw [bv_of (by omega)]
      congr 2
      omega) h hw
  refine ⟨⟨A, c, l⟩, rfl, ⟨?_, h1, h2⟩, ?_⟩
  · rw [flat_single] at h3; exact h3
  · have := reachBytes_lt
    simp only at *
    omega

/-- a struct of one-cell fields, as an element or a parameter -/
theorem open_st {t : TypeId} {fs : Array Field} (hs : Try.prog.underlying t = some (.struct fs)) (hone : oneCellFields Try.prog fs = true)
    {n : Nat} {cs : List Value} {x : DataW H × List MemPlace} (h : DataW.trod enc Try.prog w 0 spare held n t cs = some x) (hC : Try.prog.cellsOf t = fs.size) (hw : Within t x) :
    ∃ (ys : List (DataW H × List MemPlace)) (n' : Nat), cs.length = fs.size ∧ ys.length = fs.size ∧
      ∀ (j : Nat) (f : Field) (c : Value) (y : DataW H × List MemPlace), fs[j]? = some f → cs[j]? = some c → ys[j]? = some y → DataW.trod enc Try.prog w 0 spare held n' f.type [c] = some y ∧ Within f.type y := by
  obtain ⟨xs, n', _, hx, hl, hlen, hg⟩ := DataW.trod_struct hs h
  rw [hC] at hl
  refine ⟨xs, n', hl, hlen, fun j f c y hj hc hy => ⟨?_, ?_⟩⟩
  · obtain ⟨ho, hk⟩ := hone_of hone j f hj
    have h1 := hg j f hj
    rw [ho, hk] at h1
    have hjl : j < cs.length := by have := (Array.getElem?_eq_some_iff.1 hj).1; omega
    have e : (cs.drop j).take 1 = [c] := by
      rw [List.drop_eq_getElem_cons hjl, List.take_succ_cons, List.take_zero]
      rw [List.getElem?_eq_getElem hjl] at hc
      simpa using hc
    rw [e] at h1
    rw [h1, hy]
  · intro k hk
    refine hw k ?_
    rw [hx]
    simp only [DataW.weights, hs]
    refine DataW.weights_mem_each (j := j) (t := f.type) (d := y.1) ?_ ?_ k hk
    · rw [List.getElem?_map]
      have : fs.toList[j]? = some f := by simpa using hj
      rw [this]; rfl
    · rw [List.getElem?_map, hy]; rfl

theorem list4 {α : Type} {l : List α} (h : l.length = 4) : ∃ a0 a1 a2 a3, l = [a0, a1, a2, a3] := by
  match l, h with
  | [a0, a1, a2, a3], _ => exact ⟨_, _, _, _, rfl⟩
theorem within_of {ts : List TypeId} {ds : List (DataW H)} {p : List MemPlace} (h : (DataW.weightsEach Try.prog ts ds).all (· ≤ reachBytes) = true) {j : Nat} {t : TypeId} {d : DataW H} (ht : ts[j]? = some t) (hd : ds[j]? = some d) : Within t (d, p) := by
  intro k hk
  have := List.all_eq_true.1 h _ (DataW.weights_mem_each ht hd k hk)
  simpa using this
end
end Go.Proofs.Ytpbgcbpofhbgbaa