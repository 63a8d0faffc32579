/- The reference's tokenizer: endOpen, open, at the texts of awake. -/
import Derived.Test.YtdciombpffkcjaaTok7
namespace Go.Proofs.Ytdciombpffkcjaa.P
open Go.RowKit Go.Proofs.YtdciombpffkcjaaW.PrintWords Go.Proofs.YtdciombpffkcjaaW.PrintLast Go.Proofs.YtdciombpffkcjaaW.PrintMore Go.Proofs.Ytdciombpffkcjaa.Blk
set_option linter.unusedVariables false
set_option linter.unusedSimpArgs false
theorem letter98 : taffrailref10_letter.f 98 = some true := rfl
theorem letter62 : taffrailref10_letter.f 62 = some false := rfl
section
variable {w0 W W' : World} {g : Nat} {L : List S64} {At N Tx : Int} {La : ByteArray} {F : List S66} {Dn : Bool}
theorem TAt.drawn (h : TAt w0 W g L At N Tx La F Dn) (hd : Drawn0 W W') : TAt w0 W' g L At N Tx La F Dn := h.below (drawn_below hd)
set_option maxRecDepth 100000 in
set_option maxHeartbeats 2000000 in
theorem tendopen_tag (fr : Int) (h : TAt w0 W g L At N Tx La F Dn) (h0 : 0 ≤ fr) (h1 : fr < At) (h3 : At + 2 ≤ (L.length : Int)) (hb : At + 2 ≤ 1000000000000) (e98 : chr L At = 98) (e62 : chr L (At + 1) = 62) :
    Calls Try.prog 46 #[.pointer (some ⟨g, 0, none⟩), .int .i64 fr] W fun e w' =>
      ∃ v, e = .returned v ∧ Kd.R kT 39 w' W.heap.size (fun k => W.heap.size ≤ k) v [gtok 3 ⟨#[98]⟩ (rd_T64 L fr).f1 (rd_T64 L (At + 1)).f2] ∧ TAt w0 w' g L (At + 2) N 0 La F Dn ∧ KT g W w' := by
  have T := Aside0.mk h
  have K := Aside0.mk (KT.refl g W)
  have HB := Aside0.mk (And.intro h0 (And.intro h1 (And.intro h3 hb)))
  have E98 := Aside0.mk e98
  have E62 := Aside0.mk e62
  clear h h0 h1 h3 hb e98 e62
  go_enter Try.func46, Try.ntmps46
  go_wp2_with (first
    | (go_at_call 32; refine (tc_calls T.out (by have := HB.out; omega)).mono ?_; rw [E98.out]; rintro e w9 ⟨rfl, hb9⟩; replace T := Aside0.mk (T.out.below hb9); replace K := Aside0.mk (K.out.trans (KT.of_below hb9)); clear hb9)
    | (go_at_call 47; refine (taffrailref10_letter.calls 98 true _ letter98).mono ?_; rintro e w8 ⟨rfl, hb8⟩; replace T := Aside0.mk (T.out.drawn hb8); replace K := Aside0.mk (K.out.trans (KT.of_below (drawn_below hb8))); clear hb8)
    | (go_at_call 48; refine (ttag_calls 3 (.inr rfl) fr T.out HB.out.1 HB.out.2.1 HB.out.2.2.1 HB.out.2.2.2 E98.out E62.out).mono ?_; rintro e w7 ⟨v, rfl, hr, ht, hk⟩; have R7 := Aside0.mk (Kd.R_mono (Kd.R_lower hr K.out.1) (fun k hk => Nat.le_trans K.out.1 hk)); have T7 := Aside0.mk ht; have K7 := Aside0.mk (K.out.trans hk); clear hr ht hk))
  go_ret
  exact ⟨_, rfl, R7.out, T7.out, K7.out⟩
set_option maxRecDepth 100000 in
set_option maxHeartbeats 2000000 in
theorem tendopen_gt (fr : Int) (h : TAt w0 W g L At N Tx La F Dn) (h1 : 0 ≤ At) (hb : At ≤ 1000000000000) (hF : F.length ≤ 1000) (e62 : chr L At = 62) :
    Calls Try.prog 46 #[.pointer (some ⟨g, 0, none⟩), .int .i64 fr] W fun e w' =>
      e = .returned (.slice none 0 0) ∧ TAt w0 w' g L (At + 1) N Tx La (F ++ [⟨6, byt L At N⟩]) Dn ∧ KT g W w' := by
  have T := Aside0.mk h
  have K := Aside0.mk (KT.refl g W)
  have HF := Aside0.mk hF
  have E62 := Aside0.mk e62
  clear h hF e62
  go_enter Try.func46, Try.ntmps46
  go_wp2_with (first
    | (go_at_call 32; refine (tc_calls T.out h1).mono ?_; rw [E62.out]; rintro e w9 ⟨rfl, hb9⟩; replace T := Aside0.mk (T.out.below hb9); replace K := Aside0.mk (K.out.trans (KT.of_below hb9)); clear hb9)
    | (go_at_call 47; refine (taffrailref10_letter.calls 62 false _ letter62).mono ?_; rintro e w8 ⟨rfl, hb8⟩; replace T := Aside0.mk (T.out.drawn hb8); replace K := Aside0.mk (K.out.trans (KT.of_below (drawn_below hb8))); clear hb8)
    | (go_at_call 34; refine (tbyte_calls T.out h1).mono ?_; rintro e w7 ⟨rfl, hb7⟩; replace T := Aside0.mk (T.out.below hb7); replace K := Aside0.mk (K.out.trans (KT.of_below hb7)); clear hb7)
    | (go_at_call 44; refine (tfault_calls 6 (byt L At N) T.out HF.out).mono ?_; rintro e w6 ⟨rfl, ht, hk⟩; replace T := Aside0.mk ht; replace K := Aside0.mk (K.out.trans hk); clear ht hk; have c1 := T.out.c1; have f1 := T.out.fr 1; have T2 := Aside0.mk (T.out.setAt (At + 1)); have K2 := Aside0.mk (K.out.trans (KT.setg g 1 (.int .i64 (At + 1)) w6))))
  go_ret
  exact ⟨rfl, T2.out, K2.out⟩
end
end Go.Proofs.Ytdciombpffkcjaa.P
