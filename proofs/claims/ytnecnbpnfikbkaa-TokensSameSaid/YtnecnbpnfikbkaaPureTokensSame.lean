/- Whether any two tokens, any two rows of them, are the same, and a row's text: as the reference tells it. No condition. -/
import Derived.Test.YtnecnbpnfikbkaaTok
namespace Go.Proofs.Ytnecnbpnfikbkaa.Pure
open Go.RowKit Go.Proofs.Ytnecnbpnfikbkaa.P Go.Proofs.YtnecnbpnfikbkaaW.PrintWords Go.Proofs.YtnecnbpnfikbkaaW.PrintLast Go.Proofs.YtnecnbpnfikbkaaW.PrintMore
set_option linter.unusedVariables false

theorem ok_small (l : List S26) (h : ∀ y ∈ l, ok26 y) : smallAttrs l := fun t ht => by
  have := (h t ht).2.2.2.2.1.1
  omega

theorem tail_ev (l m : List S26) (hl : l.length ≤ 2000000000000) (ha : smallAttrs l) : Ev (fun k => (tokens_List.f l m).bind fun t179 => ((taffrailref09_List.f k l m).bind fun t180 => (if (t179 == t180) = true then ((tokens_List.f l l).bind fun t181 => (if t181 = true then ((tokens_Text.f l).bind fun t182 => ((taffrailref09_Text.f k l).bind fun t183 => (if t182.toList = t183.toList then ((taffraillaw09_awake.f k).bind fun t184 => (some t184)) else (none)))) else (none))) else (none)))) true := by
  obtain ⟨K1, h1⟩ := refList_ev l m (by omega) ha
  obtain ⟨K2, h2⟩ := refText_ev l hl
  obtain ⟨K3, h3⟩ := awake_ev
  refine ⟨max K1 (max K2 K3), fun k hk => ?_⟩
  have g1 := h1 k (by omega)
  have g2 := h2 k (by omega)
  have g3 := h3 k (by omega)
  simp only at g1 g2 g3
  have e1 : ∀ x : List S26, tokens_List.f l x = some (listB l x) := fun x => if_pos ha
  have e2 : tokens_Text.f l = some ⟨(textTo l l.length).toArray⟩ := if_pos hl
  simp only [e1, e2, g1, g2, g3, Option.bind_some, beq_self_eq_true, if_true, listB_refl]

theorem main_at (l m : List S26) (hl : l.length ≤ 2000000000000) (hm : m.length ≤ 2000000000000) (ha : smallAttrs l) : ∀ (d i : Nat), l.length - i = d → i ≤ l.length → Ev (fun k => taffraillaw09_TokensSame.l0 k l m i) true
  | 0, i, hd, hi => by
    refine Ev.step (f := fun k => taffraillaw09_TokensSame.j2 k l m i false) (fun k => ?_) (Ev.step (fun k => ?_) (tail_ev l m hl ha))
    · simp only [taffraillaw09_TokensSame.l0]; rw [if_neg (by omega)]
    · simp only [taffraillaw09_TokensSame.j2]; rw [if_neg (by decide)]
  | d + 1, i, hd, hi => by
    have h1 : i < l.length := by omega
    have hw : wrap64 ((i : Int) + 1) = ((i + 1 : Nat) : Int) := by rw [wrap_id _ (by omega) (by omega)]; omega
    by_cases h2 : i < m.length
    · have hs := refSame_ev l[i] m[i] (by have := ha _ (List.getElem_mem h1); omega)
      have hp := same_ev l[i] m[i] (by have := ha _ (List.getElem_mem h1); omega)
      refine Ev.step (f := fun k => taffraillaw09_TokensSame.j2 k l m i true) (fun k => ?_) (Ev.step (fun k => ?_) (Ev.bind hp (f := fun k t => (taffrailref09_Same.f k l[i].f0 l[i].f1 l[i].f2 l[i].f3 l[i].f4 l[i].f5 l[i].f6.f0 l[i].f6.f1 m[i].f0 m[i].f1 m[i].f2 m[i].f3 m[i].f4 m[i].f5 m[i].f6.f0 m[i].f6.f1).bind fun t178 => (if (t != t178) = true then (none) else (taffraillaw09_TokensSame.l0 k l m ((i + 1 : Nat) : Int)))) (Ev.bind hs ?_)))
      · simp only [taffraillaw09_TokensSame.l0]; rw [if_pos (by omega), decide_eq_true (by omega)]
      · simp only [taffraillaw09_TokensSame.j2]; rw [if_pos trivial, if_pos (by omega), if_pos (by omega), if_pos (by omega), rd26 l i h1, rd26 m i h2, hw]
      · exact Ev.congr (fun k => if_neg (by simp)) (main_at l m hl hm ha d (i + 1) (by omega) (by omega))
    · refine Ev.step (f := fun k => taffraillaw09_TokensSame.j2 k l m i false) (fun k => ?_) (Ev.step (fun k => ?_) (tail_ev l m hl ha))
      · simp only [taffraillaw09_TokensSame.l0]; rw [if_pos (by omega), decide_eq_false (by omega)]
      · simp only [taffraillaw09_TokensSame.j2]; rw [if_neg (by decide)]

theorem TokensSame : taffraillaw09_TokensSame.Pure := by
  intro l m hl hm
  have sl := ok_small l hl.2
  have sm := ok_small m hm.2
  have hll : l.length ≤ 2000000000000 := by omega
  have hml : m.length ≤ 2000000000000 := by omega
  have main := main_at l m hll hml sl _ 0 rfl (Nat.zero_le _)
  have aw : Ev (fun k => taffraillaw09_TokensSame.j0 k l m true) true := by
    refine Ev.step (fun k => ?_) awake_ev
    simp only [taffraillaw09_TokensSame.j0]
    rw [if_pos trivial]
    cases taffraillaw09_awake.f k <;> rfl
  have go : Ev (fun k => taffraillaw09_TokensSame.j0 k l m false) true := by
    refine Ev.step (fun k => ?_) main
    simp only [taffraillaw09_TokensSame.j0]
    rw [if_neg (by decide)]
    rfl
  have j : ∀ b, Ev (fun k => taffraillaw09_TokensSame.j0 k l m b) true := fun b => by cases b; exact go; exact aw
  obtain ⟨b1, h1⟩ := size_ev l (by omega) sl
  obtain ⟨b2, h2⟩ := size_ev m (by omega) sm
  refine Ev.rounds (g := fun k => taffraillaw09_TokensSame.f k l m) (Ev.bind h1 (f := fun k t => if t = true then ((taffraillaw09_size.f k m).bind fun t171 => (taffraillaw09_TokensSame.j0 k l m (!t171))) else (taffraillaw09_TokensSame.j0 k l m true)) ?_)
  cases b1
  · exact Ev.congr (fun k => if_neg (by decide)) (j true)
  · exact Ev.congr (fun k => if_pos rfl) (Ev.bind h2 (j _))
end Go.Proofs.Ytnecnbpnfikbkaa.Pure
