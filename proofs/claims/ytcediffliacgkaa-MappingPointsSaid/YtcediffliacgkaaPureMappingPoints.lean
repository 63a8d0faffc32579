/- The answers of mapping's Point, Back and Check are those of the reference, for every edit and place. No condition. -/
import Derived.Test.YtcediffliacgkaaSayMappingPoints
import Derived.Test.YtcediffliacgkaaRefMapping
namespace Go.Proofs.Ytcediffliacgkaa.Pure
open Go.RowKit Go.Proofs.Ytcediffliacgkaa.P Go.Proofs.YtcediffliacgkaaW.PrintWords Go.Proofs.YtcediffliacgkaaW.PrintLast Go.Proofs.YtcediffliacgkaaW.PrintMore

theorem ref_back3 (a d : Int) (s : ByteArray) (t : Int) (hs : s.size ≤ 140737488351232) :
    taffrailref02_Back.f 3 a d s t = some (backOf (tk a d s).1 (tk a d s).2.1 (tk a d s).2.2 t) := taffrailref02_Back.mono _ _ _ _ 2 _ (ref_back a d s t hs)

theorem MappingPoints : taffraillaw02_MappingPoints.Pure := by
  intro x t after h ht
  obtain ⟨h0, h1, h2⟩ := h
  refine ⟨3, ?_⟩
  obtain ⟨r, hr⟩ := check_some x.f0 x.f1 x.f2 t
  have hs : x.f2.size ≤ 9223372036854775807 - 4398046511104 := by omega
  have eB : mapping_Back.f x.f0 x.f1 x.f2 t = some (backOf (tk x.f0 x.f1 x.f2).1 (tk x.f0 x.f1 x.f2).2.1 (tk x.f0 x.f1 x.f2).2.2 t) := if_pos hs
  have eP : mapping_Point.f x.f0 x.f1 x.f2 t after = some (pointOf (tk x.f0 x.f1 x.f2).1 (tk x.f0 x.f1 x.f2).2.1 (tk x.f0 x.f1 x.f2).2.2 t after) := if_pos hs
  unfold taffraillaw02_MappingPoints.f
  rw [eB, eP, ref_back3 _ _ _ _ h2, ref_point _ _ _ _ _ h2, ref_check, hr, awake_true]
  simp
end Go.Proofs.Ytcediffliacgkaa.Pure
