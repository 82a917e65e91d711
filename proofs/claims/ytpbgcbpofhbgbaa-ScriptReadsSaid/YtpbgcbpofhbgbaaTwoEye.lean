/- Two eyes on the same bytes: grain's and the document's. -/
import Derived.Test.YtpbgcbpofhbgbaaEyeText
namespace Go.Proofs.Ytpbgcbpofhbgbaa
open Go.RowKit

/-- two eyes on old bytes, apart; below all is as in w0 -/
structure TwoE (w0 w : World) (e1 e2 : Nat) (L1 : List UInt8) (f1 : Int) (L2 : List UInt8) (f2 : Int) : Prop where
  a : ∃ A c, EyeAt w 132 e1 (fun b => b < w0.heap.size) A c L1 f1
  b : ∃ A c, EyeAt w 109 e2 (fun b => b < w0.heap.size) A c L2 f2
  low : Below w0.heap.size w0 w
  h1 : w0.heap.size ≤ e1
  h2 : w0.heap.size ≤ e2
  ne : e1 ≠ e2
  bs : w0.heap.size ≤ w.heap.size

theorem TwoE.mem {w0 w w' : World} {e1 e2 : Nat} {L1 L2 : List UInt8} {f1 f2 : Int} (h : TwoE w0 w e1 e2 L1 f1 L2 f2) (k : Below w.heap.size w w') : TwoE w0 w' e1 e2 L1 f1 L2 f2 := by
  obtain ⟨A, c, ha⟩ := h.a
  obtain ⟨B, d, hb⟩ := h.b
  exact ⟨⟨A, c, ha.below k⟩, ⟨B, d, hb.below k⟩, h.low.trans (k.mono h.bs), h.h1, h.h2, h.ne, Nat.le_trans h.bs k.size⟩
theorem TwoE.left {w0 w w' : World} {e1 e2 : Nat} {L1 L2 L : List UInt8} {f1 f2 f : Int} (h : TwoE w0 w e1 e2 L1 f1 L2 f2) (k : EyeTo w 132 e1 (fun b => b < w0.heap.size) L f w') : TwoE w0 w' e1 e2 L f L2 f2 := by
  obtain ⟨B, d, hb⟩ := h.b
  exact ⟨k.at_, ⟨B, d, hb.fr k.fr (fun e => h.ne e.symm) (fun b _ hz e => by have := h.h1; omega)⟩, h.low.trans (k.fr.below h.bs (fun x hx e => by have := h.h1; omega)), h.h1, h.h2, h.ne, Nat.le_trans h.bs k.fr.size⟩
theorem TwoE.right {w0 w w' : World} {e1 e2 : Nat} {L1 L2 L : List UInt8} {f1 f2 f : Int} (h : TwoE w0 w e1 e2 L1 f1 L2 f2) (k : EyeTo w 109 e2 (fun b => b < w0.heap.size) L f w') : TwoE w0 w' e1 e2 L1 f1 L f := by
  obtain ⟨B, d, hb⟩ := h.a
  exact ⟨⟨B, d, hb.fr k.fr h.ne (fun b _ hz e => by have := h.h2; omega)⟩, k.at_, h.low.trans (k.fr.below h.bs (fun x hx e => by have := h.h2; omega)), h.h1, h.h2, h.ne, Nat.le_trans h.bs k.fr.size⟩
theorem TwoE.z1 {w0 w : World} {e1 e2 : Nat} {L1 L2 : List UInt8} {f1 f2 : Int} (h : TwoE w0 w e1 e2 L1 f1 L2 f2) : ¬ (fun b => b < w0.heap.size) e1 := by have := h.h1; simp; omega
theorem TwoE.z2 {w0 w : World} {e1 e2 : Nat} {L1 L2 : List UInt8} {f1 f2 : Int} (h : TwoE w0 w e1 e2 L1 f1 L2 f2) : ¬ (fun b => b < w0.heap.size) e2 := by have := h.h2; simp; omega
theorem TwoE.drew {w0 w : World} {e1 e2 : Nat} {L1 L2 : List UInt8} {f1 f2 : Int} (h : TwoE w0 w e1 e2 L1 f1 L2 f2) : TwoE w0 w.drew e1 e2 L1 f1 L2 f2 := h.mem (Below.refl _ _).drew

theorem keep1 {w' w3 : World} {T eb bx o : Nat} {Z : Nat → Prop} {l : List UInt8} {f : Int} {u : Value} (hS : w'.cell? ⟨bx, o, none⟩ = some u) (h : EyeTo w' T eb Z l f w3) (hne : bx ≠ eb) : w3.cell? ⟨bx, o, none⟩ = some u :=
  (h.fr.cell (p := ⟨bx, o, none⟩) (World.block_lt_of_cell? w' ⟨bx, o, none⟩ hS) hne).trans hS

theorem sameN_any (A B : Option Addr) (c d : Nat) (l m : List UInt8) (n : Nat) (Z Z' : Nat → Prop) (w : World) (hl : By w Z A l) (hm : Rd w Z' 1 B n (m.map bv)) (hn : n = m.length) :
    Calls Try.prog 14 #[.slice A l.length c, .slice B n d] w fun e w' => e = .returned (.bool (l == m)) ∧ w = w' := by
  subst hn
  exact refSame_any A B c d l m Z Z' w hl hm
theorem textS_len (l : List UInt8) (f most : Int) : (textS l f most).2.1.length ≤ l.length := by
  have h := intS_len l f most
  unfold textS
  dsimp only
  split
  · exact h
  · split
    · exact Nat.zero_le _
    · simp; omega

theorem hB2 {W w' : World} {a : Addr} {u : Value} (hS : w'.cell? a = some u ∧ Below W.heap.size W w') : Below W.heap.size W w' := hS.2

theorem EyeAt.mono {w : World} {T eb : Nat} {Z Z' : Nat → Prop} {A : Option Addr} {c : Nat} {l : List UInt8} {f : Int} (h : EyeAt w T eb Z A c l f) (hz : ∀ b, b < w.heap.size → Z b → Z' b) : EyeAt w T eb Z' A c l f := ⟨h.1, h.2.1.mono hz, h.2.2⟩
theorem EyeTo.mono {w w' : World} {T eb : Nat} {Z Z' : Nat → Prop} {l : List UInt8} {f : Int} (h : EyeTo w T eb Z l f w') (hz : ∀ b, Z b → Z' b) : EyeTo w T eb Z' l f w' := by
  obtain ⟨A, c, ha⟩ := h.at_
  exact ⟨⟨A, c, ha.mono (fun b _ hb => hz b hb)⟩, h.fr⟩
/-- a store into a new block beside an eye -/
theorem EyeTo.side {a b c : World} {T eb bx : Nat} {Z : Nat → Prop} {l : List UInt8} {f : Int} (h : EyeTo a T eb Z l f b) (k : Fr (fun x => x = bx) b c) (hb : a.heap.size ≤ bx) (h1 : bx ≠ eb) (hz : ∀ x, Z x → x ≠ bx) : EyeTo a T eb Z l f c := by
  obtain ⟨A, c', ha⟩ := h.at_
  exact ⟨⟨A, c', ha.fr k (fun e => h1 e.symm) (fun x _ hx => hz x hx)⟩, h.fr.trans k (fun x hx e => by omega)⟩
/-- new memory ahead of an eye's method -/
theorem EyeTo.after {a b c : World} {T eb : Nat} {Z : Nat → Prop} {l : List UInt8} {f : Int} (k : Below a.heap.size a b) (h : EyeTo b T eb Z l f c) : EyeTo a T eb Z l f c :=
  ⟨h.at_, (Fr.of_below k _).trans h.fr (fun _ _ h => h)⟩
end Go.Proofs.Ytpbgcbpofhbgbaa
