/- The reference's tokenizer: Next, at the texts of awake. -/
import Derived.Test.YtdciombpffkcjaaTok9
namespace Go.Proofs.Ytdciombpffkcjaa.P
open Go.RowKit Go.Proofs.YtdciombpffkcjaaW.PrintWords Go.Proofs.YtdciombpffkcjaaW.PrintLast Go.Proofs.YtdciombpffkcjaaW.PrintMore Go.Proofs.Ytdciombpffkcjaa.Blk
set_option linter.unusedVariables false
set_option linter.unusedSimpArgs false
section
variable {w0 W W' w' : World} {g : Nat} {L : List S64} {At N Tx : Int} {La : ByteArray} {F : List S66} {Dn : Bool}
set_option maxRecDepth 100000 in
set_option maxHeartbeats 2000000 in
theorem tnext_open {At2 Tx2 : Int} {La2 : ByteArray} {F2 : List S66} {xs : List S39} (h : TAt w0 W g L At N 0 La F false) (h0 : 0 ≤ At) (e60 : chr L At = 60)
    (ho : ∀ W1, TAt w0 W1 g L At N 0 La F false → Calls Try.prog 38 #[.pointer (some ⟨g, 0, none⟩)] W1 fun e w' => ∃ v, e = .returned v ∧ Nx w0 W1 w' g L At2 N Tx2 La2 F2 false v xs) :
    Calls Try.prog 27 #[.pointer (some ⟨g, 0, none⟩)] W fun e w' => ∃ v, e = .returned v ∧ Nx w0 W w' g L At2 N Tx2 La2 F2 false v xs := by
  have c8 := h.c8
  have T := Aside0.mk h
  have K := Aside0.mk (KT.refl g W)
  have HO := Aside0.mk ho
  have E60 := Aside0.mk e60
  clear h ho e60
  go_enter Try.func27, Try.ntmps27
  go_wp2_with (first
    | (go_at_call 32; refine (tc_calls T.out h0).mono ?_; rw [E60.out]; rintro e w9 ⟨rfl, hb9⟩; replace T := Aside0.mk (T.out.below hb9); replace K := Aside0.mk (K.out.trans (KT.of_below hb9)); clear hb9; have c1 := T.out.c1; have c3 := T.out.c3; have c7 := T.out.c7)
    | (go_at_call 38; refine (HO.out _ T.out).mono ?_; rintro e w7 ⟨v, rfl, hx⟩; have X := Aside0.mk (Nx.pre K.out hx); clear hx))
  go_ret
  exact ⟨_, rfl, X.out⟩
set_option maxRecDepth 100000 in
set_option maxHeartbeats 2000000 in
theorem tnext_char (c : Int) (h : TAt w0 W g L At N Tx La F false) (h0 : 0 ≤ At) (hA : At < (L.length : Int)) (hb : At + 1 ≤ 1000000000000) (ec : chr L At = c) (hc : 0 ≤ c) (hc1 : c ≠ 38) (hc2 : c ≠ 60) :
    Calls Try.prog 27 #[.pointer (some ⟨g, 0, none⟩)] W fun e w' => ∃ v, e = .returned v ∧ Nx w0 W w' g L (At + 1) N Tx La F false v [ctok (rd_T64 L At)] := by
  have c8 := h.c8
  have T := Aside0.mk h
  have K := Aside0.mk (KT.refl g W)
  have EC := Aside0.mk ec
  have HB := Aside0.mk (And.intro hA hb)
  have b1 : At ≤ 1000000000000 := by omega
  have q1 : (c == 38) = false := beq_eq_false_iff_ne.mpr hc1
  have q2 : (c == 60) = false := beq_eq_false_iff_ne.mpr hc2
  have q3 : ¬ c < 0 := by omega
  clear h ec hA hb hc1 hc2
  go_enter Try.func27, Try.ntmps27
  go_wp2_with (first
    | (go_at_call 32; refine (tc_calls T.out h0).mono ?_; rw [EC.out]; rintro e w9 ⟨rfl, hb9⟩; replace T := Aside0.mk (T.out.below hb9); replace K := Aside0.mk (K.out.trans (KT.of_below hb9)); clear hb9; have c1 := T.out.c1; have f1 := T.out.fr 1; have c3 := T.out.c3; have c7 := T.out.c7; have T2 := Aside0.mk (T.out.setAt (At + 1)); have K2 := Aside0.mk (K.out.trans (KT.setg g 1 (.int .i64 (At + 1)) w9)))
    | (go_at_call 37; refine (ttold_calls At T2.out h0 rfl (by have := HB.out; omega) (by have := HB.out; omega)).mono ?_; rintro e w7 ⟨v, rfl, hr, hb7⟩; have X := Aside0.mk (Nx.of K2.out hr (T2.out.below hb7) (KT.of_below hb7)); clear hr hb7))
  go_ret
  exact ⟨_, rfl, X.out⟩
/-- the token at the end -/
def etok (N : Int) : S39 := ⟨6, 0, ⟨#[]⟩, ⟨#[]⟩, [], false, ⟨N, N⟩⟩
set_option maxRecDepth 100000 in
set_option maxHeartbeats 2000000 in
theorem tnext_eof (h : TAt w0 W g L At N Tx La F false) (h0 : 0 ≤ At) (ec : chr L At = -1) :
    Calls Try.prog 27 #[.pointer (some ⟨g, 0, none⟩)] W fun e w' => ∃ v, e = .returned v ∧ Nx w0 W w' g L At N Tx La F true v [etok N] := by
  have c8 := h.c8
  have T := Aside0.mk h
  have K := Aside0.mk (KT.refl g W)
  have EC := Aside0.mk ec
  clear h ec
  go_enter Try.func27, Try.ntmps27
  go_upto_region 6 with (first
    | (go_at_call 32; refine (tc_calls T.out h0).mono ?_; rw [EC.out]; rintro e w9 ⟨rfl, hb9⟩; replace T := Aside0.mk (T.out.below hb9); replace K := Aside0.mk (K.out.trans (KT.of_below hb9)); clear hb9; have d8 := T.out.c8; have f8 := T.out.fr 8; have T2 := Aside0.mk (T.out.setDn true); have K2 := Aside0.mk (K.out.trans (KT.setg g 8 (.bool true) w9))))
  have c2 := T2.out.c2
  go_region_held3 (fun w' => w'.cell? ⟨g, 2, none⟩ = some (.int .i64 N)) (go_keep) (fail)
  have hs : (w9.setCell ⟨g, 8, none⟩ (.bool true)).heap.size = w9.heap.size := by simp [World.setCell]
  have hr := Kd.R_drew (R_one39 (w9.setCell ⟨g, 8, none⟩ (.bool true)) (x := etok N) (cs := [.int .i64 6, .int .i64 0, .string ⟨#[]⟩, .string ⟨#[]⟩, .slice none 0 0, .bool false, .int .i64 N, .int .i64 N]) ⟨rfl, rfl⟩ (base := (w9.setCell ⟨g, 8, none⟩ (.bool true)).heap.size) (ok := fun k => (w9.setCell ⟨g, 8, none⟩ (.bool true)).heap.size ≤ k) (Nat.le_refl _) (Nat.le_refl _))
  have X := Aside0.mk (Nx.of K2.out hr ((T2.out.alloc _).drew1) (KT.of_below (below_drew1 (below_alloc (Below.refl _ _) _))))
  rw [hs] at X
  clear hr hs c2 T2 K2 d8 f8
  go_wp2
  go_ret
  exact ⟨_, rfl, X.out⟩
end
end Go.Proofs.Ytdciombpffkcjaa.P
