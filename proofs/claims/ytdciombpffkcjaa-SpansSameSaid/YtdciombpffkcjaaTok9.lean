/- The reference's tokenizer: open, Next, at the texts of awake. -/
import Derived.Test.YtdciombpffkcjaaTok8
namespace Go.Proofs.Ytdciombpffkcjaa.P
open Go.RowKit Go.Proofs.YtdciombpffkcjaaW.PrintWords Go.Proofs.YtdciombpffkcjaaW.PrintLast Go.Proofs.YtdciombpffkcjaaW.PrintMore Go.Proofs.Ytdciombpffkcjaa.Blk
set_option linter.unusedVariables false
set_option linter.unusedSimpArgs false
/-- what a step tells: tokens in a row of its own, and the state -/
structure Nx (w0 W w' : World) (g : Nat) (L : List S64) (At N Tx : Int) (La : ByteArray) (F : List S66) (Dn : Bool) (v : Value) (xs : List S39) : Prop where
  r : Kd.R kT 39 w' W.heap.size (fun k => W.heap.size ≤ k) v xs
  t : TAt w0 w' g L At N Tx La F Dn
  k : KT g W w'
section
variable {w0 W W' w' : World} {g : Nat} {L : List S64} {At N Tx : Int} {La : ByteArray} {F : List S66} {Dn : Bool}
theorem Nx.of {v : Value} {xs : List S39} (k : KT g W W') (hr : Kd.R kT 39 w' W'.heap.size (fun k => W'.heap.size ≤ k) v xs) (ht : TAt w0 w' g L At N Tx La F Dn) (hk : KT g W' w') : Nx w0 W w' g L At N Tx La F Dn v xs :=
  ⟨Kd.R_mono (Kd.R_lower hr k.1) (fun i hi => Nat.le_trans k.1 hi), ht, k.trans hk⟩
theorem Nx.pre {v : Value} {xs : List S39} (k : KT g W W') (h : Nx w0 W' w' g L At N Tx La F Dn v xs) : Nx w0 W w' g L At N Tx La F Dn v xs := Nx.of k h.r h.t h.k
theorem w1_ (x : Int) (h0 : 0 ≤ x) (h1 : x ≤ 1000000000000) : IntKind.i64.wrap (x + 1) = x + 1 := by rw [IntWalk.i64_in _ (by omega)]
set_option maxRecDepth 100000 in
set_option maxHeartbeats 2000000 in
theorem topen_b (h : TAt w0 W g L At N Tx La F Dn) (h0 : 0 ≤ At) (h3 : At + 4 ≤ 1000000000000) (hl : At + 3 ≤ (L.length : Int)) (e98 : chr L (At + 1) = 98) (e62 : chr L (At + 1 + 1) = 62) :
    Calls Try.prog 38 #[.pointer (some ⟨g, 0, none⟩)] W fun e w' => ∃ v, e = .returned v ∧ Nx w0 W w' g L (At + 1 + 2) N 0 ⟨#[98]⟩ F Dn v [gtok 2 ⟨#[98]⟩ (rd_T64 L At).f1 (rd_T64 L (At + 1 + 1)).f2] := by
  have HB := Aside0.mk (And.intro h0 h3)
  have E98 := Aside0.mk e98
  have E62 := Aside0.mk e62
  have HL := Aside0.mk hl
  clear e98 e62 hl
  have c1 := h.c1
  have f1 := h.fr 1
  have T := Aside0.mk (h.setAt (At + 1))
  have K := Aside0.mk (KT.setg g 1 (.int .i64 (At + 1)) W)
  have c1' := T.out.c1
  have f1' := T.out.fr 1
  have b1 : At ≤ 1000000000000 := by omega
  clear h h3
  go_enter Try.func38, Try.ntmps38
  go_wp2_with (first
    | (go_at_call 32; refine (tc_calls T.out (by have := HB.out; omega)).mono ?_; rw [E98.out]; rintro e w9 ⟨rfl, hb9⟩; replace T := Aside0.mk (T.out.below hb9); replace K := Aside0.mk (K.out.trans (KT.of_below hb9)); clear hb9)
    | (go_at_call 47; refine (taffrailref10_letter.calls 98 true _ letter98).mono ?_; rintro e w8 ⟨rfl, hb8⟩; replace T := Aside0.mk (T.out.drawn hb8); replace K := Aside0.mk (K.out.trans (KT.of_below (drawn_below hb8))); clear hb8)
    | (go_at_call 48; refine (ttag_calls 2 (.inl rfl) At T.out HB.out.1 (by omega) (by have := HL.out; omega) (by have := HB.out; omega) E98.out E62.out).mono ?_; rintro e w7 ⟨v, rfl, hr, ht, hk⟩; have X := Aside0.mk (Nx.of K.out hr ht hk); clear hr ht hk))
  go_ret
  exact ⟨_, rfl, X.out⟩
set_option maxRecDepth 100000 in
set_option maxHeartbeats 2000000 in
theorem topen_e (h : TAt w0 W g L At N Tx La F Dn) (h0 : 0 ≤ At) (h3 : At + 4 ≤ 1000000000000) (hl : At + 4 ≤ (L.length : Int)) (e47 : chr L (At + 1) = 47) (e98 : chr L (At + 1 + 1) = 98) (e62 : chr L (At + 1 + 1 + 1) = 62) :
    Calls Try.prog 38 #[.pointer (some ⟨g, 0, none⟩)] W fun e w' => ∃ v, e = .returned v ∧ Nx w0 W w' g L (At + 1 + 1 + 2) N 0 La F Dn v [gtok 3 ⟨#[98]⟩ (rd_T64 L At).f1 (rd_T64 L (At + 1 + 1 + 1)).f2] := by
  have HB := Aside0.mk (And.intro h0 h3)
  have E47 := Aside0.mk e47
  have E98 := Aside0.mk e98
  have E62 := Aside0.mk e62
  have HL := Aside0.mk hl
  clear e47 e98 e62 hl
  have c1 := h.c1
  have f1 := h.fr 1
  have T := Aside0.mk (h.setAt (At + 1))
  have K := Aside0.mk (KT.setg g 1 (.int .i64 (At + 1)) W)
  have c1' := T.out.c1
  have f1' := T.out.fr 1
  have b1 : At ≤ 1000000000000 := by omega
  clear h h3
  go_enter Try.func38, Try.ntmps38
  go_wp2_with (first
    | (go_at_call 32; refine (tc_calls T.out (by have := HB.out; omega)).mono ?_; rw [E47.out]; rintro e w9 ⟨rfl, hb9⟩; replace T := Aside0.mk (T.out.below hb9); replace K := Aside0.mk (K.out.trans (KT.of_below hb9)); clear hb9; have d1 := T.out.c1; have g1 := T.out.fr 1; have T2 := Aside0.mk (T.out.setAt (At + 1 + 1)); have K2 := Aside0.mk (K.out.trans (KT.setg g 1 (.int .i64 (At + 1 + 1)) w9)))
    | (go_at_call 46; refine (tendopen_tag At T2.out HB.out.1 (by omega) (by have := HL.out; omega) (by have := HB.out; omega) E98.out E62.out).mono ?_; rintro e w7 ⟨v, rfl, hr, ht, hk⟩; have X := Aside0.mk (Nx.of K2.out hr ht hk); clear hr ht hk))
  go_ret
  exact ⟨_, rfl, X.out⟩
set_option maxRecDepth 100000 in
set_option maxHeartbeats 2000000 in
theorem topen_g (h : TAt w0 W g L At N Tx La F Dn) (h0 : 0 ≤ At) (h3 : At + 4 ≤ 1000000000000) (hF : F.length ≤ 1000) (e47 : chr L (At + 1) = 47) (e62 : chr L (At + 1 + 1) = 62) :
    Calls Try.prog 38 #[.pointer (some ⟨g, 0, none⟩)] W fun e w' => ∃ v, e = .returned v ∧ Nx w0 W w' g L (At + 1 + 1 + 1) N Tx La (F ++ [⟨6, byt L (At + 1 + 1) N⟩]) Dn v [] := by
  have HB := Aside0.mk (And.intro h0 h3)
  have E47 := Aside0.mk e47
  have E62 := Aside0.mk e62
  have HF := Aside0.mk hF
  clear e47 e62 hF
  have c1 := h.c1
  have f1 := h.fr 1
  have T := Aside0.mk (h.setAt (At + 1))
  have K := Aside0.mk (KT.setg g 1 (.int .i64 (At + 1)) W)
  have c1' := T.out.c1
  have f1' := T.out.fr 1
  have b1 : At ≤ 1000000000000 := by omega
  clear h h3
  go_enter Try.func38, Try.ntmps38
  go_wp2_with (first
    | (go_at_call 32; refine (tc_calls T.out (by have := HB.out; omega)).mono ?_; rw [E47.out]; rintro e w9 ⟨rfl, hb9⟩; replace T := Aside0.mk (T.out.below hb9); replace K := Aside0.mk (K.out.trans (KT.of_below hb9)); clear hb9; have d1 := T.out.c1; have g1 := T.out.fr 1; have T2 := Aside0.mk (T.out.setAt (At + 1 + 1)); have K2 := Aside0.mk (K.out.trans (KT.setg g 1 (.int .i64 (At + 1 + 1)) w9)))
    | (go_at_call 46; refine (tendopen_gt At T2.out (by have := HB.out; omega) (by have := HB.out; omega) HF.out E62.out).mono ?_; rintro e w7 ⟨rfl, ht, hk⟩; have X := Aside0.mk (Nx.of K2.out (Kd.R_nil kT 39 w7 _ _) ht hk); clear ht hk))
  go_ret
  exact ⟨_, rfl, X.out⟩
end
end Go.Proofs.Ytdciombpffkcjaa.P
