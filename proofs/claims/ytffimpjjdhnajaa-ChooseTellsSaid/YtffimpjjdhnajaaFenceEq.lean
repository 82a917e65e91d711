/- == and != of changes. -/
import Derived.Test.YtffimpjjdhnajaaFenceMath
import Derived.Laws.StructEq
namespace Go.Proofs.Ytffimpjjdhnajaa
open Go.RowKit

def sameC (x y : CV) : Bool := x.p.toList == y.p.toList && x.b == y.b && x.m == y.m && x.t == y.t && x.k == y.k && x.o == y.o && x.s == y.s && x.l == y.l && x.v == y.v
theorem sameC_iff (x y : CV) : sameC x y = true ↔ x = y := by
  obtain ⟨p, b, m, t, k, o, s, l, v⟩ := x
  obtain ⟨p', b', m', t', k', o', s', l', v'⟩ := y
  unfold sameC
  have hp : (p.toList == p'.toList) = true ↔ p = p' := by
    rw [beq_iff_eq, ByteArray.toList_eq, ByteArray.toList_eq]
    obtain ⟨⟨x⟩⟩ := p
    obtain ⟨⟨y⟩⟩ := p'
    simp
  simp only [Bool.and_eq_true, hp, beq_iff_eq, CV.mk.injEq]
  constructor
  · rintro ⟨⟨⟨⟨⟨⟨⟨⟨h1, h2⟩, h3⟩, h4⟩, h5⟩, h6⟩, h7⟩, h8⟩, h9⟩; exact ⟨h1, h2, h3, h4, h5, h6, h7, h8, h9⟩
  · rintro ⟨h1, h2, h3, h4, h5, h6, h7, h8, h9⟩; exact ⟨⟨⟨⟨⟨⟨⟨⟨h1, h2⟩, h3⟩, h4⟩, h5⟩, h6⟩, h7⟩, h8⟩, h9⟩
set_option maxRecDepth 100000 in
theorem eqAt_chg (x y : CV) (w : World) : (Op.equalIn 10000 44 x.val y.val).run Try.prog w = .ok (sameC x y) w := by
  unfold sameC CV.val chV
  have hs : Try.prog.stoodInHeld 44 = false := by kernel_rfl
  have hu : Try.prog.underlying 44 = some (.struct (Try.prog.fieldsOf 44)) := by kernel_rfl
  rw [run_equalIn_struct w 9999 44 _ _ hu hs]
  simp [go_sem]
  repeat' split
  all_goals simp [*]
theorem neq_chg (x y : CV) (w : World) : (binOp .neq 44 x.val y.val).run Try.prog w = .ok (.bool (!sameC x y)) w := by
  show (binOp .neq 44 (.agg _) (.agg _)).run Try.prog w = _
  rw [run_neq_struct]
  have h := eqAt_chg x y w
  unfold CV.val chV at h
  rw [h]
  rfl
/-- what is told of two rows -/
def sameCs (l m : List CV) : Bool := l.length == m.length && (l.zip m).all fun x => sameC x.1 x.2
theorem sameCs_iff : ∀ (l m : List CV), sameCs l m = true ↔ l = m
  | [], [] => by simp [sameCs]
  | [], b :: m => by simp [sameCs]
  | a :: l, [] => by simp [sameCs]
  | a :: l, b :: m => by
    have ih := sameCs_iff l m
    unfold sameCs at ih ⊢
    simp only [List.length_cons, List.zip_cons_cons, List.all_cons, Bool.and_eq_true, beq_iff_eq, Nat.add_right_cancel_iff, List.cons.injEq, sameC_iff] at ih ⊢
    rw [← ih]
    constructor
    · rintro ⟨h1, h2, h3⟩; exact ⟨h2, h1, h3⟩
    · rintro ⟨h2, h1, h3⟩; exact ⟨h1, h2, h3⟩
end Go.Proofs.Ytffimpjjdhnajaa
