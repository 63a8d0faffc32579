/- The law InstreamPieces, walked. -/
import Derived.Test.YtdmkhcmkfhojgaaEvP
import Derived.Test.YtdmkhcmkfhojgaaPx7
namespace Go.Proofs.Ytdmkhcmkfhojgaa.P
open Go.RowKit Go.Proofs.YtdmkhcmkfhojgaaW.PrintWords Go.Proofs.YtdmkhcmkfhojgaaW.PrintLast Go.Proofs.YtdmkhcmkfhojgaaW.PrintMore Go.Proofs.Ytdmkhcmkfhojgaa.Blk
open Go.Proofs.Ytdmkhcmkfhojgaa.Pure (PS chars_ref chars_ev faults_ev awake_ev)
set_option linter.unusedVariables false

theorem C_drawn {α : Type} {d : Kd α} {w : World} {A : Option Addr} {n : Nat} {xs : List α} (h : d.C w A n xs) (m : Nat) : d.C (w.drewN m) A n xs := Kd.C_below h (pw_below_drewN (Below.refl _ _) m)
theorem C_drawn0 {α : Type} {d : Kd α} {w w1 : World} {A : Option Addr} {n : Nat} {xs : List α} (h : d.C w A n xs) (hd : Drawn0 w w1) : d.C w1 A n xs := by
  obtain ⟨m, rfl⟩ := hd.out
  exact C_drawn h m

/-- the pieces, one by one; a long one is left out -/
def PS.next (p : PS) (t : ByteArray) : PS := if 20000 < t.size then p else p.step t
structure Pcs (w wr : World) (g gd : Nat) (p : PS) (v5 v6 : Value) : Prop where
  a : Kd.R k36 36 wr w.heap.size (fun _ => True) v5 p.a
  f : Kd.R k39 39 wr w.heap.size (fun _ => True) v6 p.f
  s : StrAt wr g gd p.d p.x
  b : Below w.heap.size w wr
  ok : p.Ok
  la : p.a.length ≤ 4 * p.s.size
  lf : p.f.length ≤ 2 * p.s.size
theorem two_R {α : Type} {d : Kd α} {e : Nat} {w wr w1 : World} {g gd : Nat} {v : Value} {xs : List α} (h : d.R e wr w.heap.size (fun _ => True) v xs) (k : Two wr w1 g gd) (h1 : ∀ q, q ∈ e :: d.E → q ≠ 45) (h2 : ∀ q, q ∈ e :: d.E → q ≠ 51) {dd : Dec} {x : Tk} (hs : StrAt wr g gd dd x) : d.R e w1 w.heap.size (fun _ => True) v xs :=
  Kd.R_mono (Kd.R_step (Kd.R_types (Kd.R_types h hs.1 h1) hs.2 h2) (fun i hi hl => k.block i hl hi.1.2 hi.2)) (fun _ _ => trivial)

set_option maxRecDepth 100000 in
set_option maxHeartbeats 4000000 in
theorem pieces_walk (A : Option Addr) (c : Nat) (l : List ByteArray) (w : World) (hr : Kd.C Kd.string w A l.length l) (hc : l.length ≤ c) (hl : l.length ≤ 8796093021952) (hs : ∀ y ∈ l, y.size ≤ 140737488351232) :
    Calls Try.prog 4 #[.slice A l.length c] w fun e w' => e = .returned (.bool true) ∧ Below w.heap.size w w' := by
  have HR := Aside0.mk hr
  have HSZ := Aside0.mk hs
  clear hr hs
  go_enter Try.func4, Try.ntmps4
  go_wp2_with (go_at_call 12; refine (newS_calls _).mono ?_; rintro e w1 ⟨g, gd, rfl, hs1, hg1, hgd1, hb1⟩; have HS1 := Aside0.mk hs1; have HB1 := Aside0.mk hb1; clear hs1 hb1)
  go_loopw [4, 5, 6, 7] (fun v4 v5 v6 v7 wr => ∃ (k : Nat) (p : PS), k ≤ l.length ∧ v7 = .int .i64 (k : Int) ∧ v4 = .string p.s ∧ p.s.size ≤ 40000 ∧ Aside0 (Pcs w wr g gd p v5 v6)) (fun _ _ _ v7 _ => l.length - (intOf v7).toNat)
  case atStart => exact ⟨0, PS.zero, Nat.zero_le _, rfl, rfl, by decide, ⟨⟨Kd.R_nil _ _ _ _ _, Kd.R_nil _ _ _ _ _, HS1.out, HB1.out, PS.ok_zero, by decide, by decide⟩⟩⟩
  case round =>
    obtain ⟨k, p, hk, rfl, rfl, hsz, HP⟩ := hrel
    have fin : Aside0 True := ⟨trivial⟩
    by_cases hgo : k < l.length ∧ p.s.size < 20000
    · obtain ⟨hlt, hsm⟩ := hgo
      obtain ⟨ad, e, hx0⟩ := Kd.at_string (Kd.C_below HR.out HP.out.b) (k : Int) (by omega) (by omega)
      cases e
      have hz0 : rdOf ByteArray.empty l (k : Int) = l[k] := by simp [rdOf, List.getD_eq_getElem?_getD, hlt]
      have hsk := HSZ.out _ (List.getElem_mem hlt)
      rw [hz0] at hx0
      simp only [Int.toNat_natCast] at hx0
      generalize l[k] = t at *
      clear hz0
      have h1 : ((p.s.size : Int) < 20000) := by omega
      by_cases hbig : 20000 < t.size
      · have h2 : ((20000 : Int) < (t.size : Int)) := by omega
        go_wp2_with (fail)
        go_roundw
        case measure => (first | (show l.length - (wrap64 ((k:Int)+1)).toNat < l.length - ((k:Int)).toNat; rw [Pure.wrap_id _ (by omega) (by omega)]; omega) | (show l.length - ((k:Int)+1).toNat < l.length - ((k:Int)).toNat; omega))
        case rel => exact ⟨k + 1, p, by omega, by go_num, rfl, hsz, HP⟩
      · have h2 : ((t.size : Int) ≤ 20000) := by omega
        have h3 : p.s.size + t.size ≤ 40000 := by omega
        have hla := HP.out.la
        have hlf := HP.out.lf
        have hfl := fedS_len p.d p.x t
        go_wp2_with (first | (go_at_call 13; refine (feedS_calls g gd p.d p.x t _ HP.out.s (by omega)).mono ?_; rintro e w2 ⟨v2, u2, rfl, hc2, hf2, hs2, ht2⟩; have HB2 := Aside0.mk (Two.after HP.out.b ht2 hg1 hgd1); obtain ⟨A3, c3, rfl, hm3, hC3⟩ := Kd.R_reads hc2; obtain ⟨A4, c4, rfl, hm4, hC4⟩ := Kd.R_reads hf2; have HC2 := Aside0.mk (Kd.R_lower hc2 HP.out.b.size); have HF2 := Aside0.mk (Kd.R_lower hf2 HP.out.b.size); have HA2 := Aside0.mk (two_R HP.out.a ht2 (by decide) (by decide) HP.out.s); have HE2 := Aside0.mk (two_R HP.out.f ht2 (by decide) (by decide) HP.out.s); have HS2 := Aside0.mk hs2; clear hc2 hf2 hs2 ht2 hm3 hm4 hC3 hC4) | ((with_reducible refine gate_builtin (b := .append) (xs := #[.tmp 49, .tmp 50]) rfl ?_); at_builtin; refine Kd.R_append_rows k36 (w0 := w) w.heap.size rfl (.tmp 49) (.tmp 50) 23 36 (.agg #[(.int .i64 0), (.int .i64 0), (.int .i64 0)]) 24 rfl Try.underlying23 info36 rfl (by decide) (by omega) u5 p.a (fedS p.d p.x t).out _ _ _ (fun _ => True) (fun _ => False) rfl rfl ?aO ?aR (fun _ _ h => h) (fun _ h => h.elim) ?aF ?aB ?aS ?aL ?_; (case aO => exact HA2.out); (case aR => exact (Kd.R_reads' HC2.out).2.2); (case aF => exact (fun _ _ => trivial)); (case aB => exact HB2.out); (case aS => exact Below.size HB2.out); (case aL => omega); intro v4 w4 ho hb hg hat; have HA4 := Aside0.mk ho; have HB4 := Aside0.mk hb; have HE4 := Aside0.mk (Kd.R_over' HE2.out (Kd.R_typed HA2.out) (by decide) hg); have HF4 := Aside0.mk (Kd.R_over' HF2.out (Kd.R_typed HA2.out) (by decide) hg); have HS4 : Aside0 (StrAt w4 g gd (fedD p.d t) (fedS p.d p.x t).tk) := ⟨⟨Blk.grown HS2.out.1 hg (Kd.R_ne HA2.out HS2.out.1 (by decide)), Blk.grown HS2.out.2 hg (Kd.R_ne HA2.out HS2.out.2 (by decide))⟩⟩; clear ho hb hg hat) | ((with_reducible refine gate_builtin (b := .append) (xs := #[.tmp 52, .tmp 53]) rfl ?_); at_builtin; refine Kd.R_append_rows k39 (w0 := w) w.heap.size rfl (.tmp 52) (.tmp 53) 24 39 (.agg #[(.int .i64 0), (.int .i64 0)]) 16 rfl Try.underlying24 info39 rfl (by decide) (by omega) u6 p.f (fedS p.d p.x t).f _ _ _ (fun _ => True) (fun _ => False) rfl rfl ?aO ?aR (fun _ _ h => h) (fun _ h => h.elim) ?aF ?aB ?aS ?aL ?_; (case aO => exact HE4.out); (case aR => exact (Kd.R_reads' HF4.out).2.2); (case aF => exact (fun _ _ => trivial)); (case aB => exact HB4.out); (case aS => exact Below.size HB4.out); (case aL => omega); intro v5 w5 ho hb hg hat; have HE5 := Aside0.mk ho; have HB5 := Aside0.mk hb; have HA5 := Aside0.mk (Kd.R_over' HA4.out (Kd.R_typed HE4.out) (by decide) hg); have HS5 : Aside0 (StrAt w5 g gd (fedD p.d t) (fedS p.d p.x t).tk) := ⟨⟨Blk.grown HS4.out.1 hg (Kd.R_ne HE4.out HS4.out.1 (by decide)), Blk.grown HS4.out.2 hg (Kd.R_ne HE4.out HS4.out.2 (by decide))⟩⟩; clear ho hb hg hat))
        go_roundw
        case measure => (first | (show l.length - (wrap64 ((k:Int)+1)).toNat < l.length - ((k:Int)).toNat; rw [Pure.wrap_id _ (by omega) (by omega)]; omega) | (show l.length - ((k:Int)+1).toNat < l.length - ((k:Int)).toNat; omega))
        case rel =>
          have hz : (p.s ++ t).size = p.s.size + t.size := ByteArray.size_append
          exact ⟨k + 1, p.step t, by omega, by go_num, rfl, by show (p.s ++ t).size ≤ 40000; omega, ⟨⟨HA5.out, HE5.out, HS5.out, HB5.out, PS.ok_step p t HP.out.ok (by omega), by show (p.a ++ (fedS p.d p.x t).out).length ≤ 4 * (p.s ++ t).size; rw [List.length_append]; omega, by show (p.f ++ (fedS p.d p.x t).f).length ≤ 2 * (p.s ++ t).size; rw [List.length_append]; omega⟩⟩⟩
    · have HCH := Aside0.mk (PS.chars p HP.out.ok)
      obtain ⟨⟨K, hK⟩, hl1, hl2⟩ := chars_ref p.s (by omega)
      obtain ⟨K2, h2⟩ := chars_ev _ hl1
      obtain ⟨K3, h3⟩ := faults_ev _ hl2
      have HK := Aside0.mk (hK K (Nat.le_refl _))
      have H2 := Aside0.mk (h2 K2 (Nat.le_refl _))
      have H3 := Aside0.mk (h3 K3 (Nat.le_refl _))
      clear hK h2 h3
      have hla := HP.out.la
      have hlf := HP.out.lf
      have hel := endOut_len p.d p.x
      have hef := endS_len p.d p.x
      rcases (show l.length ≤ k ∨ (k < l.length ∧ 20000 ≤ p.s.size) by omega) with hx | ⟨hx, hx2⟩
      · go_wp2_with (first | (go_at_call 14; refine (endS_calls g gd p.d p.x _ HP.out.s).mono ?_; rintro e w2 ⟨v2, u2, rfl, hc2, hf2, hs2, ht2⟩; have HB2 := Aside0.mk (Two.after HP.out.b ht2 hg1 hgd1); obtain ⟨A3, c3, rfl, hm3, hC3⟩ := Kd.R_reads hc2; obtain ⟨A4, c4, rfl, hm4, hC4⟩ := Kd.R_reads hf2; have HC2 := Aside0.mk (Kd.R_lower hc2 HP.out.b.size); have HF2 := Aside0.mk (Kd.R_lower hf2 HP.out.b.size); have HA2 := Aside0.mk (two_R HP.out.a ht2 (by decide) (by decide) HP.out.s); have HE2 := Aside0.mk (two_R HP.out.f ht2 (by decide) (by decide) HP.out.s); clear hc2 hf2 hs2 ht2 hm3 hm4 hC3 hC4) | ((with_reducible refine gate_builtin (b := .append) (xs := #[.tmp 60, .tmp 61]) rfl ?_); at_builtin; refine Kd.R_append_rows k36 (w0 := w) w.heap.size rfl (.tmp 60) (.tmp 61) 23 36 (.agg #[(.int .i64 0), (.int .i64 0), (.int .i64 0)]) 24 rfl Try.underlying23 info36 rfl (by decide) (by omega) u5 p.a (endOut p.d p.x) _ _ _ (fun _ => True) (fun _ => False) rfl rfl ?aO ?aR (fun _ _ h => h) (fun _ h => h.elim) ?aF ?aB ?aS ?aL ?_; (case aO => exact HA2.out); (case aR => exact (Kd.R_reads' HC2.out).2.2); (case aF => exact (fun _ _ => trivial)); (case aB => exact HB2.out); (case aS => exact Below.size HB2.out); (case aL => omega); intro v4 w4 ho hb hg hat; rw [← HCH.out.1] at ho; have HA4 := Aside0.mk ho; have HB4 := Aside0.mk hb; have HE4 := Aside0.mk (Kd.R_over' HE2.out (Kd.R_typed HA2.out) (by decide) hg); have HF4 := Aside0.mk (Kd.R_over' HF2.out (Kd.R_typed HA2.out) (by decide) hg); clear ho hb hg hat) | ((with_reducible refine gate_builtin (b := .append) (xs := #[.tmp 63, .tmp 64]) rfl ?_); at_builtin; refine Kd.R_append_rows k39 (w0 := w) w.heap.size rfl (.tmp 63) (.tmp 64) 24 39 (.agg #[(.int .i64 0), (.int .i64 0)]) 16 rfl Try.underlying24 info39 rfl (by decide) (by omega) u6 p.f (endS p.d p.x).f _ _ _ (fun _ => True) (fun _ => False) rfl rfl ?aO ?aR (fun _ _ h => h) (fun _ h => h.elim) ?aF ?aB ?aS ?aL ?_; (case aO => exact HE4.out); (case aR => exact (Kd.R_reads' HF4.out).2.2); (case aF => exact (fun _ _ => trivial)); (case aB => exact HB4.out); (case aS => exact Below.size HB4.out); (case aL => omega); intro v5 w5 ho hb hg hat; rw [← HCH.out.2] at ho; have HE5 := Aside0.mk ho; have HB5 := Aside0.mk hb; have HA5 := Aside0.mk (Kd.R_over' HA4.out (Kd.R_typed HE4.out) (by decide) hg); clear ho hb hg hat) | (go_at_call 9; refine (taffrailref04_Chars.calls K p.s (charsC p.s) (charsF p.s) _ HK.out).mono ?_; rintro e w6 ⟨v6, u6b, rfl, hc6, hf6, hb6⟩; obtain ⟨Aa, ca, ea, ma, CA⟩ := Kd.R_reads (Kd.R_below HA5.out hb6); obtain ⟨Af, cf, ef, mf, CF⟩ := Kd.R_reads (Kd.R_below HE5.out hb6); obtain ⟨Ax, cx, ex, mx, CX⟩ := Kd.R_reads hc6; obtain ⟨Ay, cy, ey, my, CY⟩ := Kd.R_reads hf6; subst ea ef ex ey; have ZA := Aside0.mk CA; have ZF := Aside0.mk CF; have ZX := Aside0.mk CX; have ZY := Aside0.mk CY; have B6 := Aside0.mk (below_step HB5.out hb6); clear CA CF CX CY hc6 hf6 hb6) | (go_at_call 10; refine (taffrailref03_Chars.calls K2 _ _ _ _ _ _ true _ ZA.out ma ZX.out mx H2.out).mono ?_; rintro e w7 ⟨rfl, hdr⟩; have ZF7 := Aside0.mk (C_drawn0 ZF.out hdr); have ZY7 := Aside0.mk (C_drawn0 ZY.out hdr); have B7 := Aside0.mk (below_step B6.out hdr.below); clear hdr) | (go_at_call 11; refine (taffrailref03_Faults.calls K3 _ _ _ _ _ _ true _ ZF7.out mf ZY7.out my H3.out).mono ?_; rintro e w8 ⟨rfl, hdr⟩; have B8 := Aside0.mk (below_step B7.out hdr.below); clear hdr) | (go_at_call 7; refine (taffraillaw04_awake.calls true _ awake_ev).mono ?_; rintro e w9 ⟨rfl, hb9⟩; have B9 := Aside0.mk (below_step B8.out hb9); clear hb9))
        all_goals go_ret
        all_goals exact ⟨rfl, B9.out⟩
      · have hx3 : ((20000 : Int) ≤ (p.s.size : Int)) := by omega
        go_wp2_with (first | (go_at_call 14; refine (endS_calls g gd p.d p.x _ HP.out.s).mono ?_; rintro e w2 ⟨v2, u2, rfl, hc2, hf2, hs2, ht2⟩; have HB2 := Aside0.mk (Two.after HP.out.b ht2 hg1 hgd1); obtain ⟨A3, c3, rfl, hm3, hC3⟩ := Kd.R_reads hc2; obtain ⟨A4, c4, rfl, hm4, hC4⟩ := Kd.R_reads hf2; have HC2 := Aside0.mk (Kd.R_lower hc2 HP.out.b.size); have HF2 := Aside0.mk (Kd.R_lower hf2 HP.out.b.size); have HA2 := Aside0.mk (two_R HP.out.a ht2 (by decide) (by decide) HP.out.s); have HE2 := Aside0.mk (two_R HP.out.f ht2 (by decide) (by decide) HP.out.s); clear hc2 hf2 hs2 ht2 hm3 hm4 hC3 hC4) | ((with_reducible refine gate_builtin (b := .append) (xs := #[.tmp 60, .tmp 61]) rfl ?_); at_builtin; refine Kd.R_append_rows k36 (w0 := w) w.heap.size rfl (.tmp 60) (.tmp 61) 23 36 (.agg #[(.int .i64 0), (.int .i64 0), (.int .i64 0)]) 24 rfl Try.underlying23 info36 rfl (by decide) (by omega) u5 p.a (endOut p.d p.x) _ _ _ (fun _ => True) (fun _ => False) rfl rfl ?aO ?aR (fun _ _ h => h) (fun _ h => h.elim) ?aF ?aB ?aS ?aL ?_; (case aO => exact HA2.out); (case aR => exact (Kd.R_reads' HC2.out).2.2); (case aF => exact (fun _ _ => trivial)); (case aB => exact HB2.out); (case aS => exact Below.size HB2.out); (case aL => omega); intro v4 w4 ho hb hg hat; rw [← HCH.out.1] at ho; have HA4 := Aside0.mk ho; have HB4 := Aside0.mk hb; have HE4 := Aside0.mk (Kd.R_over' HE2.out (Kd.R_typed HA2.out) (by decide) hg); have HF4 := Aside0.mk (Kd.R_over' HF2.out (Kd.R_typed HA2.out) (by decide) hg); clear ho hb hg hat) | ((with_reducible refine gate_builtin (b := .append) (xs := #[.tmp 63, .tmp 64]) rfl ?_); at_builtin; refine Kd.R_append_rows k39 (w0 := w) w.heap.size rfl (.tmp 63) (.tmp 64) 24 39 (.agg #[(.int .i64 0), (.int .i64 0)]) 16 rfl Try.underlying24 info39 rfl (by decide) (by omega) u6 p.f (endS p.d p.x).f _ _ _ (fun _ => True) (fun _ => False) rfl rfl ?aO ?aR (fun _ _ h => h) (fun _ h => h.elim) ?aF ?aB ?aS ?aL ?_; (case aO => exact HE4.out); (case aR => exact (Kd.R_reads' HF4.out).2.2); (case aF => exact (fun _ _ => trivial)); (case aB => exact HB4.out); (case aS => exact Below.size HB4.out); (case aL => omega); intro v5 w5 ho hb hg hat; rw [← HCH.out.2] at ho; have HE5 := Aside0.mk ho; have HB5 := Aside0.mk hb; have HA5 := Aside0.mk (Kd.R_over' HA4.out (Kd.R_typed HE4.out) (by decide) hg); clear ho hb hg hat) | (go_at_call 9; refine (taffrailref04_Chars.calls K p.s (charsC p.s) (charsF p.s) _ HK.out).mono ?_; rintro e w6 ⟨v6, u6b, rfl, hc6, hf6, hb6⟩; obtain ⟨Aa, ca, ea, ma, CA⟩ := Kd.R_reads (Kd.R_below HA5.out hb6); obtain ⟨Af, cf, ef, mf, CF⟩ := Kd.R_reads (Kd.R_below HE5.out hb6); obtain ⟨Ax, cx, ex, mx, CX⟩ := Kd.R_reads hc6; obtain ⟨Ay, cy, ey, my, CY⟩ := Kd.R_reads hf6; subst ea ef ex ey; have ZA := Aside0.mk CA; have ZF := Aside0.mk CF; have ZX := Aside0.mk CX; have ZY := Aside0.mk CY; have B6 := Aside0.mk (below_step HB5.out hb6); clear CA CF CX CY hc6 hf6 hb6) | (go_at_call 10; refine (taffrailref03_Chars.calls K2 _ _ _ _ _ _ true _ ZA.out ma ZX.out mx H2.out).mono ?_; rintro e w7 ⟨rfl, hdr⟩; have ZF7 := Aside0.mk (C_drawn0 ZF.out hdr); have ZY7 := Aside0.mk (C_drawn0 ZY.out hdr); have B7 := Aside0.mk (below_step B6.out hdr.below); clear hdr) | (go_at_call 11; refine (taffrailref03_Faults.calls K3 _ _ _ _ _ _ true _ ZF7.out mf ZY7.out my H3.out).mono ?_; rintro e w8 ⟨rfl, hdr⟩; have B8 := Aside0.mk (below_step B7.out hdr.below); clear hdr) | (go_at_call 7; refine (taffraillaw04_awake.calls true _ awake_ev).mono ?_; rintro e w9 ⟨rfl, hb9⟩; have B9 := Aside0.mk (below_step B8.out hb9); clear hb9))
        all_goals go_ret
        all_goals exact ⟨rfl, B9.out⟩

/-- the law InstreamPieces -/
def taffraillaw04_InstreamPieces.f (l0 : List ByteArray) : Option Bool := if l0.length ≤ 8796093021952 ∧ (∀ y, y ∈ l0 → y.size ≤ 140737488351232) then some true else none
theorem taffraillaw04_InstreamPieces.calls (A0 : Option Addr) (c0 : Nat) (l0 : List ByteArray) (r : Bool) (w : World) (hr0 : Kd.C Kd.string w A0 l0.length l0) (hc0 : l0.length ≤ c0) (h : taffraillaw04_InstreamPieces.f l0 = some r) :
    Calls Try.prog 4 #[.slice A0 l0.length c0] w fun e w' => e = .returned (.bool r) ∧ Below w.heap.size w w' := by
  unfold taffraillaw04_InstreamPieces.f at h
  split at h
  case isTrue hs =>
    obtain rfl := Option.some.inj h
    exact pieces_walk A0 c0 l0 w hr0 hc0 hs.1 hs.2
  case isFalse => cases h
end Go.Proofs.Ytdmkhcmkfhojgaa.P
