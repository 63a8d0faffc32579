/- api.Refs: the names, as they lie. -/
import Derived.Test.YtkidfbapnkegmaaTr2
namespace Go.Proofs.Ytkidfbapnkegmaa.P
open Go.RowKit Go.Proofs.YtkidfbapnkegmaaW.PrintWords Go.Proofs.YtkidfbapnkegmaaW.PrintLast Go.Proofs.YtkidfbapnkegmaaW.PrintMore Go.Proofs.Ytkidfbapnkegmaa.Blk
set_option linter.unusedVariables false

def refsL : List S28 := [(⟨(⟨#[65, 77, 80]⟩ : ByteArray), 38⟩ : S28), (⟨(⟨#[65, 77, 80, 59]⟩ : ByteArray), 38⟩ : S28), (⟨(⟨#[71, 84]⟩ : ByteArray), 62⟩ : S28), (⟨(⟨#[71, 84, 59]⟩ : ByteArray), 62⟩ : S28), (⟨(⟨#[76, 84]⟩ : ByteArray), 60⟩ : S28), (⟨(⟨#[76, 84, 59]⟩ : ByteArray), 60⟩ : S28), (⟨(⟨#[81, 85, 79, 84]⟩ : ByteArray), 34⟩ : S28), (⟨(⟨#[81, 85, 79, 84, 59]⟩ : ByteArray), 34⟩ : S28), (⟨(⟨#[97, 108, 112, 104, 97, 59]⟩ : ByteArray), 945⟩ : S28), (⟨(⟨#[97, 109, 112]⟩ : ByteArray), 38⟩ : S28), (⟨(⟨#[97, 109, 112, 59]⟩ : ByteArray), 38⟩ : S28), (⟨(⟨#[97, 110, 100, 59]⟩ : ByteArray), 8743⟩ : S28), (⟨(⟨#[97, 110, 103, 59]⟩ : ByteArray), 8736⟩ : S28), (⟨(⟨#[97, 112, 111, 115, 59]⟩ : ByteArray), 39⟩ : S28), (⟨(⟨#[98, 101, 116, 97, 59]⟩ : ByteArray), 946⟩ : S28), (⟨(⟨#[98, 117, 108, 108, 59]⟩ : ByteArray), 8226⟩ : S28), (⟨(⟨#[99, 97, 112, 59]⟩ : ByteArray), 8745⟩ : S28), (⟨(⟨#[99, 101, 110, 116]⟩ : ByteArray), 162⟩ : S28), (⟨(⟨#[99, 101, 110, 116, 59]⟩ : ByteArray), 162⟩ : S28), (⟨(⟨#[99, 111, 112, 121]⟩ : ByteArray), 169⟩ : S28), (⟨(⟨#[99, 111, 112, 121, 59]⟩ : ByteArray), 169⟩ : S28), (⟨(⟨#[99, 117, 112, 59]⟩ : ByteArray), 8746⟩ : S28), (⟨(⟨#[100, 101, 103]⟩ : ByteArray), 176⟩ : S28), (⟨(⟨#[100, 101, 103, 59]⟩ : ByteArray), 176⟩ : S28), (⟨(⟨#[100, 105, 118, 105, 100, 101]⟩ : ByteArray), 247⟩ : S28), (⟨(⟨#[100, 105, 118, 105, 100, 101, 59]⟩ : ByteArray), 247⟩ : S28), (⟨(⟨#[101, 97, 99, 117, 116, 101]⟩ : ByteArray), 233⟩ : S28), (⟨(⟨#[101, 97, 99, 117, 116, 101, 59]⟩ : ByteArray), 233⟩ : S28), (⟨(⟨#[101, 109, 115, 112, 59]⟩ : ByteArray), 8195⟩ : S28), (⟨(⟨#[101, 116, 97, 59]⟩ : ByteArray), 951⟩ : S28), (⟨(⟨#[101, 116, 104]⟩ : ByteArray), 240⟩ : S28), (⟨(⟨#[101, 116, 104, 59]⟩ : ByteArray), 240⟩ : S28), (⟨(⟨#[101, 117, 114, 111, 59]⟩ : ByteArray), 8364⟩ : S28), (⟨(⟨#[103, 101, 59]⟩ : ByteArray), 8805⟩ : S28), (⟨(⟨#[103, 116]⟩ : ByteArray), 62⟩ : S28), (⟨(⟨#[103, 116, 59]⟩ : ByteArray), 62⟩ : S28), (⟨(⟨#[104, 101, 108, 108, 105, 112, 59]⟩ : ByteArray), 8230⟩ : S28), (⟨(⟨#[105, 110, 59]⟩ : ByteArray), 8712⟩ : S28), (⟨(⟨#[105, 110, 116, 59]⟩ : ByteArray), 8747⟩ : S28), (⟨(⟨#[108, 97, 113, 117, 111]⟩ : ByteArray), 171⟩ : S28), (⟨(⟨#[108, 97, 113, 117, 111, 59]⟩ : ByteArray), 171⟩ : S28), (⟨(⟨#[108, 101, 59]⟩ : ByteArray), 8804⟩ : S28), (⟨(⟨#[108, 116]⟩ : ByteArray), 60⟩ : S28), (⟨(⟨#[108, 116, 59]⟩ : ByteArray), 60⟩ : S28), (⟨(⟨#[109, 100, 97, 115, 104, 59]⟩ : ByteArray), 8212⟩ : S28), (⟨(⟨#[109, 105, 99, 114, 111]⟩ : ByteArray), 181⟩ : S28), (⟨(⟨#[109, 105, 99, 114, 111, 59]⟩ : ByteArray), 181⟩ : S28), (⟨(⟨#[110, 98, 115, 112]⟩ : ByteArray), 160⟩ : S28), (⟨(⟨#[110, 98, 115, 112, 59]⟩ : ByteArray), 160⟩ : S28), (⟨(⟨#[110, 101, 59]⟩ : ByteArray), 8800⟩ : S28), (⟨(⟨#[110, 111, 116]⟩ : ByteArray), 172⟩ : S28), (⟨(⟨#[110, 111, 116, 59]⟩ : ByteArray), 172⟩ : S28), (⟨(⟨#[110, 111, 116, 105, 110, 59]⟩ : ByteArray), 8713⟩ : S28), (⟨(⟨#[111, 117, 109, 108]⟩ : ByteArray), 246⟩ : S28), (⟨(⟨#[111, 117, 109, 108, 59]⟩ : ByteArray), 246⟩ : S28), (⟨(⟨#[112, 97, 114, 97]⟩ : ByteArray), 182⟩ : S28), (⟨(⟨#[112, 97, 114, 97, 59]⟩ : ByteArray), 182⟩ : S28), (⟨(⟨#[112, 105, 59]⟩ : ByteArray), 960⟩ : S28), (⟨(⟨#[112, 105, 118, 59]⟩ : ByteArray), 982⟩ : S28), (⟨(⟨#[113, 117, 111, 116]⟩ : ByteArray), 34⟩ : S28), (⟨(⟨#[113, 117, 111, 116, 59]⟩ : ByteArray), 34⟩ : S28), (⟨(⟨#[114, 97, 113, 117, 111]⟩ : ByteArray), 187⟩ : S28), (⟨(⟨#[114, 97, 113, 117, 111, 59]⟩ : ByteArray), 187⟩ : S28), (⟨(⟨#[114, 101, 103]⟩ : ByteArray), 174⟩ : S28), (⟨(⟨#[114, 101, 103, 59]⟩ : ByteArray), 174⟩ : S28), (⟨(⟨#[115, 101, 99, 116]⟩ : ByteArray), 167⟩ : S28), (⟨(⟨#[115, 101, 99, 116, 59]⟩ : ByteArray), 167⟩ : S28), (⟨(⟨#[115, 104, 121]⟩ : ByteArray), 173⟩ : S28), (⟨(⟨#[115, 104, 121, 59]⟩ : ByteArray), 173⟩ : S28), (⟨(⟨#[115, 117, 98, 59]⟩ : ByteArray), 8834⟩ : S28), (⟨(⟨#[115, 117, 109, 59]⟩ : ByteArray), 8721⟩ : S28), (⟨(⟨#[116, 105, 109, 101, 115]⟩ : ByteArray), 215⟩ : S28), (⟨(⟨#[116, 105, 109, 101, 115, 59]⟩ : ByteArray), 215⟩ : S28), (⟨(⟨#[117, 109, 108]⟩ : ByteArray), 168⟩ : S28), (⟨(⟨#[117, 109, 108, 59]⟩ : ByteArray), 168⟩ : S28), (⟨(⟨#[121, 101, 110]⟩ : ByteArray), 165⟩ : S28), (⟨(⟨#[121, 101, 110, 59]⟩ : ByteArray), 165⟩ : S28), (⟨(⟨#[122, 119, 106, 59]⟩ : ByteArray), 8205⟩ : S28)]
/-- a struct of constants that is built -/
def bOk (o : Oper) : Bool :=
  o.guard.isNone && match o.op with
    | .build t parts => t == 28 && (match parts.toList with
      | [(0, .const (.string _)), (1, .const (.int .i64 _))] => true
      | _ => false)
    | _ => false
def bVal (o : Oper) : Value :=
  match o.op with
  | .build _ parts => match parts.toList with
    | [(0, .const v), (1, .const u)] => .agg #[v, u]
    | _ => undef
  | _ => undef
theorem build28 (s : ByteArray) (n : Int) (w : World) : (Instr.build 28 #[(0, .string s), (1, .int .i64 n)]).run Try.prog w = .ok (.agg #[.string s, .int .i64 n]) w := by
  kernel_rfl
theorem wpList_build1 {Q : Exit → Act → World → Prop} {ops : Array Oper} {w : World} {rest : List Oper} {a : Act} {o : Oper} (ho : bOk o = true)
    (h : wpList Try.prog ops Q rest (a.put o.dst (bVal o)) w) : wpList Try.prog ops Q (o :: rest) a w := by
  obtain ⟨d, op, t, p, af, g⟩ := o
  unfold bOk at ho
  rw [Bool.and_eq_true] at ho
  obtain ⟨hg, ho⟩ := ho
  have hg' : g = none := by simpa using hg
  subst hg'
  refine wpList_plain rfl fun K' hK' => ?_
  cases op with
  | build t' parts =>
    obtain ⟨pl⟩ := parts
    simp only [Bool.and_eq_true, beq_iff_eq] at ho
    obtain ⟨rfl, ho⟩ := ho
    split at ho
    · rename_i _ s n
      unfold Oper.wp
      have e : (execOp a.eval ⟨d, .build 28 #[(0, .const (.string s)), (1, .const (.int .i64 n))], t, p, af, none⟩).run Try.prog w = .ok (.value (.agg #[.string s, .int .i64 n])) w := by
        simp [execOp, Act.eval, build28, Result.andThen]
      rw [e]
      exact hK' _ _ h
    · cases ho
  | _ => cases ho
theorem wpList_val {P : Program} {Q : Exit → Act → World → Prop} {ops : Array Oper} {w w' : World} {rest : List Oper} {a : Act} {o : Oper} {v : Value} (hg : o.guard = none)
    (hr : (execOp a.eval o).run P w = .ok (.value v) w') (h : wpList P ops Q rest (a.put o.dst v) w') : wpList P ops Q (o :: rest) a w := by
  refine wpList_plain hg fun K' hK' => ?_
  unfold Oper.wp
  rw [hr]
  exact hK' _ _ h
def refCells (l : List S28) : List Value := l.flatMap fun x => [.string x.f0, .int .i64 x.f1]
theorem refCells_at : ∀ (l : List S28) (j : Nat) (x : S28), l[j]? = some x → (refCells l)[j * 2]? = some (.string x.f0) ∧ (refCells l)[j * 2 + 1]? = some (.int .i64 x.f1)
  | [], j, x, h => by simp at h
  | y :: l, 0, x, h => by
    simp at h
    subst h
    exact ⟨rfl, rfl⟩
  | y :: l, j + 1, x, h => by
    have := refCells_at l j x (by simpa using h)
    have e : refCells (y :: l) = .string y.f0 :: .int .i64 y.f1 :: refCells l := rfl
    rw [e, show (j + 1) * 2 = j * 2 + 1 + 1 by omega]
    simpa using this
theorem C_refs {w : World} {g : Nat} {l : List S28} (hb : Blk w g 28 (refCells l).toArray) (hl : l.length ≤ 1000) : Kd.C k28 w (some ⟨g, 0, none⟩) l.length l := by
  refine ⟨rfl, by omega, fun _ => ⟨_, rfl, fun j p hj => ⟨_, rfl, k28_mk w p, fun i u hu => ?_⟩⟩⟩
  obtain ⟨h1, h2⟩ := refCells_at l j p hj
  have hs : k28.sz = 2 := rfl
  match i, hu with
  | 0, hu =>
    simp at hu
    subst hu
    have := hb.cell (j * 2)
    simp only [List.getElem?_toArray, h1] at this
    rw [hs, add_plain, Nat.add_zero]
    exact this
  | 1, hu =>
    simp at hu
    subst hu
    have := hb.cell (j * 2 + 1)
    simp only [List.getElem?_toArray, h2] at this
    rw [hs, add_plain]
    exact this

set_option maxRecDepth 100000 in
set_option maxHeartbeats 1000000 in
theorem refs_calls (w : World) : Calls Try.prog 8 #[] w fun e w' => e = .returned (.slice (some ⟨w.heap.size, 0, none⟩) refsL.length refsL.length) ∧ Kd.C k28 w' (some ⟨w.heap.size, 0, none⟩) refsL.length refsL ∧ Below w.heap.size w w' := by
  go_enter Try.func8, Try.ntmps8
  go_upto_region 1 with (fail)
  refine wp_region_lit ?_
  iterate 78 (refine wpList_build1 rfl ?_)
  refine wpList_val (v := .slice (some ⟨w.heap.size, 0, none⟩) 78 78) (w' := w.alloc (.cells (refCells refsL).toArray 28)) rfl (by kernel_rfl) ?_
  refine wpList_val (v := .slice (some ⟨w.heap.size, 0, none⟩) 78 78) (w' := w.alloc (.cells (refCells refsL).toArray 28)) rfl (by kernel_rfl) ?_
  refine wpList_nil ?_
  rename_i hK0
  refine hK0 _ _ (wp_ret ?_)
  refine bodyPost_ret (v := .slice (some ⟨w.heap.size, 0, none⟩) 78 78) (by kernel_rfl) (by kernel_rfl) ?_
  exact ⟨rfl, C_refs (Blk.new w 28 (refCells refsL).toArray) (by decide), (Below.refl _ _).alloc (Nat.le_refl _) _⟩
end Go.Proofs.Ytkidfbapnkegmaa.P
