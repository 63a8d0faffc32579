/- The reference's tokenizer: told, of one character. -/
import Derived.Test.YtdciombpffkcjaaTok3
namespace Go.Proofs.Ytdciombpffkcjaa.P
open Go.RowKit Go.Proofs.YtdciombpffkcjaaW.PrintWords Go.Proofs.YtdciombpffkcjaaW.PrintLast Go.Proofs.YtdciombpffkcjaaW.PrintMore Go.Proofs.Ytdciombpffkcjaa.Blk
set_option linter.unusedVariables false
set_option linter.unusedSimpArgs false
theorem inf39 : (Try.prog.info? 39).map (fun i => (i.zero, i.size, i.bytes)) = some (some (.agg #[.int .i64 0, .int .i64 0, .string ⟨#[]⟩, .string ⟨#[]⟩, .slice none 0 0, .bool false, .int .i64 0, .int .i64 0]), 8, 96) := by kernel_rfl
/-- a token without attributes, as cells -/
def Tcs (x : S39) (cs : List Value) : Prop := x.f4 = [] ∧ cs = [.int .i64 x.f0, .int .i64 x.f1, .string x.f2, .string x.f3, .slice none 0 0, .bool x.f5, .int .i64 x.f6.f0, .int .i64 x.f6.f1]
theorem Tcs.mkM {w : World} {base : Nat} {ok : Nat → Prop} {x : S39} {cs : List Value} (h : Tcs x cs) : k39.M w base ok x cs := by
  obtain ⟨h4, rfl⟩ := h
  exact k39_mkM w base ok x (by rw [h4]; exact Kd.R_nil _ _ _ _ _)
/-- tokens without attributes, as a kind -/
def kT : Kd S39 where
  sz := 8
  E := []
  K := fun _ x cs => Tcs x cs
  M := fun _ _ _ x cs => Tcs x cs
  K_len := fun h => by rw [h.2]; rfl
  K_one := fun h u hu => by
    rw [h.2] at hu
    simp only [List.mem_cons, List.not_mem_nil, or_false] at hu
    rcases hu with rfl | rfl | rfl | rfl | rfl | rfl | rfl | rfl <;> rfl
  K_below := fun _ h => h
  K_of_M := fun h => h
  M_mono := fun _ h => h
  M_bound := fun h => h
  M_move := fun _ h => h
  M_lower := fun _ h => h
theorem kT_S {w : World} {base : Nat} {ok : Nat → Prop} {v : Value} {xs : List S39} (h : Kd.R kT 39 w base ok v xs) : Kd.S k39 39 w base ok v xs := by
  obtain ⟨h0, inner, ho, hr⟩ := h
  refine ⟨fun _ => 0, h0, inner, by rw [List.length_zipIdx]; exact ho, by rw [List.length_zipIdx]; exact hr.1, fun j p hj => ?_⟩
  obtain ⟨x, i⟩ := p
  have hx : xs[j]? = some x := by
    rw [List.getElem?_zipIdx] at hj
    cases h : xs[j]? with
    | none => rw [h] at hj; cases hj
    | some y =>
      rw [h] at hj
      simp at hj
      rw [hj.1]
  exact Tcs.mkM (hr.2 j x hx)
theorem kT_C {w : World} {A : Option Addr} {n : Nat} {xs : List S39} (h : Kd.C kT w A n xs) : Kd.C k39 w A n xs :=
  ReadsRow.imp_ h (Below.refl _ _) (fun x cs h => k39.K_of_M (Tcs.mkM (w := w) (base := 0) (ok := fun _ => True) h))
theorem tok_row {W : World} {b : Nat} {x : S39} {cs : List Value} (h : Tcs x cs) (hb : Blk W b 39 cs.toArray) : ReadsRow Tcs kT.sz W (some ⟨b, 0, none⟩) 1 [x] := by
  refine ⟨rfl, by omega, fun _ => ⟨_, rfl, fun j p hj => ?_⟩⟩
  match j, hj with
  | 0, hj =>
    simp at hj
    subst hj
    refine ⟨cs, by rw [h.2]; rfl, h, fun i u' hi => ?_⟩
    have := hb.cell i
    show W.cell? ((⟨b, 0, none⟩ : Addr).add (0 * kT.sz + i)) = some u'
    have he : (⟨b, 0, none⟩ : Addr).add (0 * kT.sz + i) = ⟨b, i, none⟩ := by
      rw [Nat.zero_mul, Nat.zero_add]
      unfold Addr.add
      split
      · rename_i h0; rw [h0]
      · simp
    rw [he]
    rw [this, List.getElem?_toArray]
    exact hi
end Go.Proofs.Ytdciombpffkcjaa.P
