/- A pen that stands in a variable: Num and Text of values just laid; an act's bytes. -/
import Derived.Test.YtpbgcbpofhbgbaaPenNew
import Derived.Test.YtpbgcbpofhbgbaaConvStr
import Derived.Test.YtpbgcbpofhbgbaaScriptCheck2
namespace Go.Proofs.Ytpbgcbpofhbgbaa
open Go.RowKit

/-- the pen at pb, made last of W1's blocks, has the bytes P; of W1's blocks nothing else has turned -/
structure PW (W1 : World) (pb : Nat) (P : List UInt8) (w : World) : Prop where
  pen : ∃ v, Pen w pb pb v P
  fr : Fr (fun k => k = pb) W1 w
theorem PW.below {W1 : World} {pb : Nat} {P : List UInt8} {w w' : World} (h : PW W1 pb P w) (k : Below w.heap.size w w') : PW W1 pb P w' := by
  obtain ⟨v, hv⟩ := h.pen
  exact ⟨⟨v, hv.below k⟩, h.fr.then_below k⟩
theorem PW.side {W1 : World} {pb bx : Nat} {t : TypeId} {cs : Array Value} {P : List UInt8} {w w' : World} (h : PW W1 pb P w) (hb : Blk w bx t cs) (ht : 5 ≠ t) (k : Fr (fun x => x = bx) w w') (h1 : W1.heap.size ≤ bx) (h2 : bx ≠ pb) : PW W1 pb P w' := by
  obtain ⟨v, hv⟩ := h.pen
  exact ⟨⟨v, hv.blk.fr k (fun e => h2 e.symm), hv.own.fr k (fun g hg e => hb.own_ne hv.own ht (by rw [hg, e]))⟩, h.fr.trans k (fun x hx e => by omega)⟩
/-- blocks that are no bytes stay as they are -/
def Keeps (pb : Nat) (w w' : World) : Prop := ∀ (g : Nat) (t : TypeId) (cs : Array Value), Blk w g t cs → 5 ≠ t → g ≠ pb → Blk w' g t cs
theorem pw_num {W1 w : World} {pb n g : Nat} {P : List UInt8} {t : TypeId} {cs : Array Value} (h : PW W1 pb P w) (hW : W1.heap.size = pb + 1) (hg : g = w.heap.size) (ns : List Nat) (hcs : cs.toList = ns.map u64v) (hl : n = ns.length) (hn : ∀ n ∈ ns, n < 18446744073709551616) (hlen : P.length + 9 * ns.length ≤ 140737488355328) :
    Calls Try.prog 71 #[.pointer (some ⟨pb, 0, none⟩), .slice (some ⟨g, 0, none⟩) n n] (w.alloc (.cells cs t)) fun e w' => e = .returned (.tuple #[]) ∧ PW W1 pb (P ++ ns.flatMap numB) w' ∧ Keeps pb w w' := by
  subst hl hg
  obtain ⟨v, hv⟩ := h.pen
  have hs := h.fr.size
  refine (Num_any pb pb v P _ _ ns (fun b => w.heap.size ≤ b) _ (hv.alloc _) (Rd.lit hcs (by simp) rfl) ?_ hn (by simp; omega) hlen).mono ?_
  · rintro b _ hb (rfl | e)
    · omega
    · have := (hv.own.lt _ e).2; omega
  · rintro e w' ⟨he, v', hp⟩
    have hk : Below w.heap.size w (w.alloc (.cells cs t)) := (by repeat (first | exact Below.refl _ _ | refine Below.alloc ?_ (by simp) _ | refine Below.setCell ?_ (by simp) _ | refine Below.drew ?_))
    refine ⟨he, ⟨⟨v', hp.pen⟩, (h.fr.then_below hk).trans hp.fr (fun x hx e => ?_)⟩, fun g t' cs' hg ht hne => (hg.below hk).fr hp.fr ?_⟩
    · rcases e with e | e
      · exact e
      · have := (hv.own.lt _ e).1; omega
    · rintro (e | e)
      · exact hne e
      · exact hg.own_ne hv.own ht e
theorem pw_text {W1 w V : World} {pb n g : Nat} {P : List UInt8} {t : TypeId} {cs : Array Value} (h : PW W1 pb P w) (hW : W1.heap.size = pb + 1) (k : Below w.heap.size w V) (hg : g = V.heap.size) (bs : List BV) (hcs : cs.toList = bs.map BV.v) (hl : n = bs.length) (hok : ∀ x ∈ bs, x.ok V (fun b => b < pb ∨ w.heap.size ≤ b)) (hlen : P.length + wide bs ≤ 140737488355328) :
    Calls Try.prog 72 #[.pointer (some ⟨pb, 0, none⟩), .slice (some ⟨g, 0, none⟩) n n] (V.alloc (.cells cs t)) fun e w' => e = .returned (.tuple #[]) ∧ PW W1 pb (P ++ bs.flatMap fun x => textB x.l) w' ∧ Keeps pb w w' := by
  subst hl hg
  obtain ⟨v, hv⟩ := h.pen
  have hs := h.fr.size
  have hs2 := k.size
  have hk : Below w.heap.size w (V.alloc (.cells cs t)) := k.trans ((Below.refl _ _).alloc hs2 _)
  refine (Text_any pb pb v P _ _ bs (fun b => b < pb ∨ w.heap.size ≤ b) _ (hv.below hk) ((Rd.lit hcs (by simp) rfl).mono (fun b _ hb => .inr (by omega))) (fun x hx => (hok x hx).below ((Below.refl _ _).alloc (Nat.le_refl _) _)) ?_ (by have := hk.size; omega) hlen).mono ?_
  · rintro b _ hb (rfl | e)
    · rcases hb with hb | hb <;> omega
    · have h1 := (hv.own.lt _ e)
      rcases hb with hb | hb <;> omega
  · rintro e w' ⟨he, v', hp⟩
    refine ⟨he, ⟨⟨v', hp.pen⟩, (h.fr.then_below hk).trans hp.fr (fun x hx e => ?_)⟩, fun g t' cs' hg ht hne => (hg.below hk).fr hp.fr ?_⟩
    · rcases e with e | e
      · exact e
      · have := (hv.own.lt _ e).1; omega
    · rintro (e | e)
      · exact hne e
      · exact hg.own_ne hv.own ht e
/-- the bytes of what a crash keeps, of a choice, of an act -/
def keepB (x : KV) : List UInt8 := numB x.f.toNat ++ numB x.b.toNat
def choB (x : HW) : List UInt8 := textB x.p.data.toList ++ numB x.w.toNat
def actB (a : AS) : List UInt8 :=
  [a.k.toNat, a.s.toNat, (a.n + 1).toNat, (a.b + 1).toNat, a.m.toNat, a.ek.toNat].flatMap numB ++ (textB a.p.data.toList ++ (textB a.t.data.toList ++ (textB a.x ++ (numB a.kl.length ++ (a.kl.flatMap keepB ++ (numB a.cl.length ++ a.cl.flatMap choB))))))
theorem keepB_len (x : KV) : (keepB x).length ≤ 18 := by
  have h1 := numB_len x.f.toNat
  have h2 := numB_len x.b.toNat
  unfold keepB
  simp only [List.length_append]
  omega
theorem flat_le {α : Type} {f : α → List UInt8} {K : Nat} : ∀ (l : List α), (∀ a ∈ l, (f a).length ≤ K) → (l.flatMap f).length ≤ l.length * K
  | [], _ => by simp
  | a :: l, h => by
    have h1 := h a (by simp)
    have h2 := flat_le l (fun b hb => h b (by simp [hb]))
    simp only [List.flatMap_cons, List.length_append, List.length_cons, Nat.add_mul]
    omega
end Go.Proofs.Ytpbgcbpofhbgbaa
