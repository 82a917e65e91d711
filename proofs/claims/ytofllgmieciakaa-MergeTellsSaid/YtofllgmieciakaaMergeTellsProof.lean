/- MergeTells is true for every input: the verdict of any change, what will stand at both sides, and the verdict's name, are the document's. No condition beyond the row's own. -/
import Derived.Test.YtofllgmieciakaaMergeTells
import Derived.Test.YtofllgmieciakaaOpen
namespace Go.Proofs.Ytofllgmieciakaa
open Go.RowKit Go.WideShapes Go.ChangeShapes Go.ChangeAt

set_option maxRecDepth 100000 in
theorem mergeTells_lifted (os : Os) (started : os.Started) (H : Type) (enc : TypeId × Value → H) :
    ReturnsInHanded {} Try.checked os 4 .any (Rows.mergeTellsSpec.pre6 enc Try.prog Try.f4 Rows.mergeTellsRow.domain false) (Rows.mergeTellsSpec.post enc Try.prog Try.f4 false true false false) := by
  refine law_lift started (by kernel_rfl) Try.func4 (by kernel_rfl) rfl ?_ ?_
    (ChangeSpec.witness6 (enc := enc) (C := Try.checked) false ⟨#[], #[.agg #[.string ⟨#[]⟩, .int .i64 0, .bool false, .bool false, .int .i64 0, .int .i64 0, .int .i64 0, .int .i64 0, .int .i64 0], .int .i64 0], []⟩ 8 (by kernel_rfl) (by kernel_rfl) (by kernel_rfl) (by kernel_rfl)) ?_
  · rw [Try.params4]
    intro t ht
    exact law_reads (by kernel_rfl) t ht
  · rw [Try.params4]
    intro ds hds
    match ds, hds with
    | [d1, d2], _ => rfl
  · intro W base args ds ps hval hA hlt hsz
    rw [Try.params4] at hA hval hsz
    obtain ⟨v0, v1, d0, d1, p0, p1, rfl, rfl, rfl, h0, h1⟩ := trodAll_two hA
    obtain ⟨n, rfl, rfl, rfl, wn⟩ := open_int Try.underlying3 (hval 1 3 v1 rfl rfl) h1
    obtain ⟨cs, ys, m, rfl, hcl, hyl, _, _, hf⟩ := open_aggN Try.underlying32 (by kernel_rfl) (by kernel_rfl) (hval 0 32 v0 rfl rfl) h0
    obtain ⟨a0, a1, a2, a3, a4, a5, a6, a7, a8, rfl⟩ := list9 hcl
    obtain ⟨y0, y1, y2, y3, y4, y5, y6, y7, y8, rfl⟩ := list9 hyl
    obtain ⟨p, e, _⟩ := DataW.trod_string Try.underlying9 (hf 0 _ _ _ rfl rfl rfl); obtain rfl := List.singleton_inj.1 e
    obtain ⟨b, e, _⟩ := DataW.trod_int Try.underlying3 (hf 1 _ _ _ rfl rfl rfl); obtain rfl := List.singleton_inj.1 e
    obtain ⟨mi, e, _⟩ := DataW.trod_bool Try.underlying4 (hf 2 _ _ _ rfl rfl rfl); obtain rfl := List.singleton_inj.1 e
    obtain ⟨th, e, _⟩ := DataW.trod_bool Try.underlying4 (hf 3 _ _ _ rfl rfl rfl); obtain rfl := List.singleton_inj.1 e
    obtain ⟨k, e, _⟩ := DataW.trod_int Try.underlying3 (hf 4 _ _ _ rfl rfl rfl); obtain rfl := List.singleton_inj.1 e
    obtain ⟨o, e, _⟩ := DataW.trod_int Try.underlying3 (hf 5 _ _ _ rfl rfl rfl); obtain rfl := List.singleton_inj.1 e
    obtain ⟨s, e, _⟩ := DataW.trod_int Try.underlying3 (hf 6 _ _ _ rfl rfl rfl); obtain rfl := List.singleton_inj.1 e
    obtain ⟨l, e, _⟩ := DataW.trod_int Try.underlying3 (hf 7 _ _ _ rfl rfl rfl); obtain rfl := List.singleton_inj.1 e
    obtain ⟨v, e, _⟩ := DataW.trod_int Try.underlying3 (hf 8 _ _ _ rfl rfl rfl); obtain rfl := List.singleton_inj.1 e
    clear hf h0 h1 hA hval hsz
    by_cases hp : p.size ≤ 200
    · exact mergeTells_near p b mi th k o s l v n W hp
    · exact mergeTells_far p b mi th k o s l v n W (by omega)


theorem mergeTells_holds : Rows.MergeTellsSaid :=
  OpenClaim.holds_of_wide 4 Try.f4 rfl rfl rfl rfl rfl rfl rfl ⟨rfl, rfl, rfl, rfl, rfl⟩ rfl rfl rfl rfl rfl (by kernel_rfl) Try.func4 (by kernel_rfl)
    (of_decide_eq_true (by kernel_rfl)) (by unfold Func.isWrapper; rw [if_neg (of_decide_eq_false (by kernel_rfl))]; exact ⟨rfl, rfl⟩)
    (fun os started H enc _ => mergeTells_lifted os started H enc)
end Go.Proofs.Ytofllgmieciakaa
