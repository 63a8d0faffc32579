/- instream.Chars. -/
import Derived.Test.YtdmkhcmkfhojgaaHandStream
namespace Go.Proofs.Ytdmkhcmkfhojgaa.P
open Go.RowKit Go.Proofs.YtdmkhcmkfhojgaaW.PrintWords Go.Proofs.YtdmkhcmkfhojgaaW.PrintLast Go.Proofs.YtdmkhcmkfhojgaaW.PrintMore Go.Proofs.Ytdmkhcmkfhojgaa.Blk
set_option linter.unusedVariables false

def d0 : Dec := ⟨0, 0, 0, 0, 0, 0⟩
def x0 : Tk := ⟨false, ⟨0, 0, 0⟩⟩
def charsC (t : ByteArray) : List S36 := (fedS d0 x0 t).out ++ endOut (fedD d0 t) (fedS d0 x0 t).tk
def charsF (t : ByteArray) : List S39 := (fedS d0 x0 t).f ++ (endS (fedD d0 t) (fedS d0 x0 t).tk).f

theorem fedS_len (d : Dec) (x : Tk) (t : ByteArray) : (fedS d x t).out.length ≤ 4 * t.size ∧ (fedS d x t).f.length ≤ 2 * t.size := by
  have h1 := upto_len t ⟨d, [], []⟩ t.size
  have h2 := ts_len (St.upto t ⟨d, [], []⟩ t.size).cs ⟨x.waits, x.cr, [], [], (St.upto t ⟨d, [], []⟩ t.size).fs⟩ (St.upto t ⟨d, [], []⟩ t.size).cs.length
  simp only [List.length_nil, Nat.zero_add] at h1 h2
  unfold fedS
  omega
theorem endOut_len (d : Dec) (x : Tk) : (endOut d x).length ≤ 3 := by
  have := endS_len d x
  unfold endOut
  rw [List.length_append]
  split <;> simp <;> omega

set_option maxRecDepth 10000 in
theorem chars_walk (t : ByteArray) (w : World) (ht : t.size ≤ 1000000000) :
    Calls Try.prog 8 #[.string t] w fun e w' => ∃ v0 v1 : Value, e = .returned (.tuple #[v0, v1]) ∧ Kd.R k36 36 w' w.heap.size (fun _ => True) v0 (charsC t) ∧ Kd.R k39 39 w' w.heap.size (fun _ => True) v1 (charsF t) ∧ Below w.heap.size w w' := by
  have hl1 := fedS_len d0 x0 t
  unfold charsC charsF
  generalize hs : fedS d0 x0 t = s at *
  have HS := Aside0.mk hs
  clear hs
  have hl2 := endOut_len (fedD d0 t) s.tk
  have hl3 := endS_len (fedD d0 t) s.tk
  generalize hd : fedD d0 t = dd at *
  have HD := Aside0.mk hd
  clear hd
  go_enter Try.func8, Try.ntmps8
  go_wp2_with (first
    | (go_at_call 12; refine (newS_calls _).mono ?_; rintro e w1 ⟨g, gd, rfl, hs1, hg1, hgd1, hb1⟩; have HS1 := Aside0.mk hs1; have HB1 := Aside0.mk hb1; clear hs1 hb1)
    | (go_at_call 13; refine (feedS_calls g gd d0 x0 t _ HS1.out ht).mono ?_; rintro e w2 ⟨v2, u2, rfl, hc2, hf2, hs2, ht2⟩; rw [HS.out] at hc2 hf2 hs2; rw [HD.out] at hs2; have HCb := Aside0.mk hc2; have HFb := Aside0.mk hf2; have HS2 := Aside0.mk hs2; have L1 := Aside0.mk HS1.out.lt; have HB2 := Aside0.mk (Two.after HB1.out ht2 hg1 hgd1); clear hc2 hf2 hs2 ht2)
    | (go_at_call 14; refine (endS_calls g gd _ _ _ HS2.out).mono ?_; rintro e w3 ⟨v3, u3, rfl, hc3, hf3, hs3, ht3⟩; obtain ⟨A3, c3, rfl, hm3, hC3⟩ := Kd.R_reads hc3; obtain ⟨A4, c4, rfl, hm4, hC4⟩ := Kd.R_reads hf3; have HC3 := Aside0.mk (Kd.R_lower hc3 HB2.out.size); have HF3 := Aside0.mk (Kd.R_lower hf3 HB2.out.size); have HC3a := Aside0.mk (Kd.R_lower (Two.R HCb.out ht3 L1.out.1 L1.out.2) HB1.out.size); have HF3a := Aside0.mk (Kd.R_lower (Two.R HFb.out ht3 L1.out.1 L1.out.2) HB1.out.size); have HB3 := Aside0.mk (Two.after HB2.out ht3 hg1 hgd1); clear hc3 hf3 hs3 ht3 hm3 hm4 hC3 hC4)
    | ((with_reducible refine gate_builtin (b := .append) (xs := #[.tmp 21, .tmp 22]) rfl ?_); at_builtin; refine Kd.R_append_rows k36 (w0 := w) w.heap.size rfl (.tmp 21) (.tmp 22) 23 36 (.agg #[(.int .i64 0), (.int .i64 0), (.int .i64 0)]) 24 rfl Try.underlying23 info36 rfl (by decide) (by omega) v2 s.out (endOut dd s.tk) _ _ _ (fun _ => True) (fun _ => False) rfl rfl ?aO ?aR (fun _ _ h => h) (fun _ h => h.elim) ?aF ?aB ?aS ?aL ?_; (case aO => exact HC3a.out); (case aR => exact (Kd.R_reads' HC3.out).2.2); (case aF => exact (fun _ _ => trivial)); (case aB => exact HB3.out); (case aS => exact HB3.out.size); (case aL => omega); intro v4 w4 ho hb hg hat; have HC4 := Aside0.mk ho; have HB4 := Aside0.mk hb; have HF4a := Aside0.mk (Kd.R_over' HF3a.out (Kd.R_typed HC3a.out) (by decide) hg); have HF4 := Aside0.mk (Kd.R_over' HF3.out (Kd.R_typed HC3a.out) (by decide) hg); clear ho hb hg hat)
    | ((with_reducible refine gate_builtin (b := .append) (xs := #[.tmp 24, .tmp 25]) rfl ?_); at_builtin; refine Kd.R_append_rows k39 (w0 := w) w.heap.size rfl (.tmp 24) (.tmp 25) 24 39 (.agg #[(.int .i64 0), (.int .i64 0)]) 16 rfl Try.underlying24 info39 rfl (by decide) (by omega) u2 s.f (endS dd s.tk).f _ _ _ (fun _ => True) (fun _ => False) rfl rfl ?aO ?aR (fun _ _ h => h) (fun _ h => h.elim) ?aF ?aB ?aS ?aL ?_; (case aO => exact HF4a.out); (case aR => exact (Kd.R_reads' HF4.out).2.2); (case aF => exact (fun _ _ => trivial)); (case aB => exact HB4.out); (case aS => exact HB4.out.size); (case aL => omega); intro v5 w5 ho hb hg hat; have HF5 := Aside0.mk ho; have HB5 := Aside0.mk hb; have HC5 := Aside0.mk (Kd.R_over' HC4.out (Kd.R_typed HF4a.out) (by decide) hg); clear ho hb hg hat))
  go_ret2
  exact ⟨_, _, rfl, HC5.out, HF5.out, HB5.out⟩

/-- instream.Chars -/
def instream_Chars.f (a0 : ByteArray) : Option (List S36 × List S39) := if a0.size ≤ 1000000000 then some (charsC a0, charsF a0) else none
theorem instream_Chars.calls (a0 : ByteArray) (r1 : List S36) (r2 : List S39) (w : World) (h : instream_Chars.f a0 = some (r1, r2)) :
    Calls Try.prog 8 #[.string a0] w fun e w' => ∃ v0 v1 : Value, e = .returned (.tuple #[v0, v1]) ∧ Kd.R k36 36 w' w.heap.size (fun _ => True) v0 r1 ∧ Kd.R k39 39 w' w.heap.size (fun _ => True) v1 r2 ∧ Below w.heap.size w w' := by
  unfold instream_Chars.f at h
  split at h
  case isTrue hs =>
    obtain ⟨rfl, rfl⟩ := Prod.mk.inj (Option.some.inj h)
    exact chars_walk a0 w hs
  case isFalse => cases h
end Go.Proofs.Ytdmkhcmkfhojgaa.P
