/- The reference's tokenizer: end, fault, told of one character. -/
import Derived.Test.YtdciombpffkcjaaTok1
namespace Go.Proofs.Ytdciombpffkcjaa.P
open Go.RowKit Go.Proofs.YtdciombpffkcjaaW.PrintWords Go.Proofs.YtdciombpffkcjaaW.PrintLast Go.Proofs.YtdciombpffkcjaaW.PrintMore Go.Proofs.Ytdciombpffkcjaa.Blk
set_option linter.unusedVariables false
set_option linter.unusedSimpArgs false
section
variable {w0 W W' : World} {g : Nat} {L : List S64} {At N Tx : Int} {La : ByteArray} {F : List S66} {Dn : Bool}
set_option maxRecDepth 100000 in
set_option maxHeartbeats 1000000 in
theorem tend_calls (h : TAt w0 W g L At N Tx La F Dn) (h0 : 1 ≤ At) (hA : At ≤ (L.length : Int)) (hb : At ≤ 1000000000000) : Calls Try.prog 36 #[.pointer (some ⟨g, 0, none⟩)] W fun e w' => e = .returned (.int .i64 (rd_T64 L (At - 1)).f2) ∧ Below W.heap.size W w' := by
  obtain ⟨vL, vF, h1, h2, h3, h4, h5⟩ := h
  obtain ⟨A, c, rfl, hlc, hC⟩ := Kd.R_reads h2
  have c0 : W.cell? ⟨g, 0, none⟩ = some (.slice A L.length c) := h1.cell 0
  have c1 : W.cell? ⟨g, 1, none⟩ = some (.int .i64 At) := h1.cell 1
  obtain ⟨B, hB⟩ : ∃ B : Int, At - 1 = B := ⟨_, rfl⟩
  have hw : IntKind.i64.wrap (At - 1) = B := by rw [IntWalk.i64_in _ (by omega)]; exact hB
  obtain ⟨ad, rfl, e0, e1, e2⟩ := at_T64 hC B (by omega) (by omega)
  have hd : decide ((L.length : Int) < At) = false := decide_eq_false (by omega)
  have hz : (At == 0) = false := beq_eq_false_iff_ne.mpr (by omega)
  have b0 : 0 ≤ B := by omega
  have b1 : B < (L.length : Int) := by omega
  rw [hB]
  clear h1 h2 h3 hC hlc hB
  go_enter Try.func36, Try.ntmps36
  go_wp2
  go_quiet (fail)
  go_wp2
  go_quiet (fail)
  go_wp2
  go_ret
  exact ⟨rfl, by (with_reducible repeat (first | apply pw_below_drewN | apply below_drew1)); exact Below.refl _ _⟩
/-- what is neither the state's block nor a row of faults stays -/
def KT (g : Nat) (W w' : World) : Prop := W.heap.size ≤ w'.heap.size ∧ ∀ k, k < W.heap.size → k ≠ g → (¬ ∃ cells, W.heap[k]? = some (.cells cells 66 (0, 0))) → w'.heap[k]? = W.heap[k]?
theorem KT.refl (g : Nat) (W : World) : KT g W W := ⟨Nat.le_refl _, fun _ _ _ _ => rfl⟩
theorem KT.trans {g : Nat} {W w1 w2 : World} (h : KT g W w1) (k : KT g w1 w2) : KT g W w2 := ⟨Nat.le_trans h.1 k.1, fun i hi hg ht => by
  have h1 := h.2 i hi hg ht
  rw [k.2 i (Nat.lt_of_lt_of_le hi h.1) hg (by rw [h1]; exact ht), h1]⟩
theorem KT.of_below {g : Nat} {W w' : World} (h : Below W.heap.size W w') : KT g W w' := ⟨h.size, fun k hk _ _ => h.block k hk⟩
theorem row_apart {W w1 : World} {b b' : Nat} {ok ok' : Nat → Prop} {vL vF : Value} {L : List S64} {F : List S66} (hL : Kd.R k64 64 W b ok vL L) (hF : Kd.R k66 66 W b' ok' vF F) (hg : W.grownBy w1 vF.ownBlock) : Kd.R k64 64 w1 b ok vL L := by
  refine Kd.R_mono (Kd.R_grown (Kd.R_bound hL) hg (fun k hk e => ?_)) (fun _ hk => hk.1)
  obtain ⟨_, _, _, q, hq, cells, hc⟩ := hk
  obtain ⟨inner, ho⟩ := Kd.R_own hF
  obtain ⟨cells', hc'⟩ := own_typed ho k e.symm
  rw [hc] at hc'
  injection hc' with hc'
  injection hc' with _ hc'
  have hq2 : q ∈ [64] := hq
  rw [List.mem_singleton] at hq2
  rw [hq2] at hc'
  exact absurd hc' (by decide)
theorem flt_row {W : World} {b : Nat} {x : S66} (hb : Blk W b 66 #[.int .i64 x.f0, .int .i64 x.f1]) : Kd.C k66 W (some ⟨b, 0, none⟩) 1 [x] := by
  refine ⟨rfl, by omega, fun _ => ⟨_, rfl, fun j p hj => ?_⟩⟩
  match j, hj with
  | 0, hj =>
    simp at hj
    subst hj
    refine ⟨[.int .i64 x.f0, .int .i64 x.f1], rfl, k66_mk _ _, fun i u' hi => ?_⟩
    match i, hi with
    | 0, hi =>
      simp at hi
      subst hi
      simpa [Addr.add] using hb.cell 0
    | 1, hi =>
      simp at hi
      subst hi
      simpa [Addr.add] using hb.cell 1
theorem inf66 : (Try.prog.info? 66).map (fun i => (i.zero, i.size, i.bytes)) = some (some (.agg #[.int .i64 0, .int .i64 0]), 2, 16) := by kernel_rfl
end
end Go.Proofs.Ytdciombpffkcjaa.P
