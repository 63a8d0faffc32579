/- The reference's run, over steps that are known. -/
import Derived.Test.YtdciombpffkcjaaTok11
import Derived.Test.YtdciombpffkcjaaPx8
namespace Go.Proofs.Ytdciombpffkcjaa.P
open Go.RowKit Go.Proofs.YtdciombpffkcjaaW.PrintWords Go.Proofs.YtdciombpffkcjaaW.PrintLast Go.Proofs.YtdciombpffkcjaaW.PrintMore Go.Proofs.Ytdciombpffkcjaa.Blk
set_option linter.unusedVariables false
set_option linter.unusedSimpArgs false
set_option maxRecDepth 100000 in
theorem plain_empty (w : World) : Calls Try.prog 26 #[.string ⟨#[]⟩] w fun e w' => e = .returned (.bool false) ∧ w' = w := by
  go_enter Try.func26, Try.ntmps26
  go_wp2
  go_loopw [3] (fun v3 wr => v3 = .int .i64 0 ∧ Aside0 (wr = w)) (fun _ _ => 0)
  case atStart => exact ⟨rfl, ⟨rfl⟩⟩
  case round =>
    obtain ⟨rfl, hw⟩ := hrel
    obtain rfl := hw.out.symm
    clear hw
    go_wp2
    go_ret
    exact ⟨rfl, rfl⟩
theorem textOf_b : taffrailref07_TextOf.f 200 ⟨#[98]⟩ = some 0 := by decide +kernel
section
variable {w0 W W' w1 : World} {g : Nat} {L : List S64} {At N Tx : Int} {La : ByteArray} {F : List S66} {Dn : Bool}
theorem row_apart2 {α β : Type} {d : Kd α} {e : Nat} {vo : Value} {b b' : Nat} {ok ok' : Nat → Prop} {v : Value} {xs : List α} {os : List S39} (h : Kd.R d e W b ok v xs) (hE : ∀ q, q ∈ e :: d.E → q ≠ 39) (ho : Kd.R kT 39 W b' ok' vo os) (hg : W.grownBy w1 vo.ownBlock) : Kd.R d e w1 b ok v xs := by
  refine Kd.R_mono (Kd.R_grown (Kd.R_bound h) hg (fun k hk he => ?_)) (fun _ hk => hk.1)
  obtain ⟨_, _, _, q, hq, cells, hc⟩ := hk
  obtain ⟨inner, ho2⟩ := Kd.R_own ho
  obtain ⟨cells', hc'⟩ := own_typed ho2 k he.symm
  rw [hc] at hc'
  injection hc' with hc'
  injection hc' with _ hc'
  exact hE q hq hc'
theorem TAt.grownOut (h : TAt w0 W g L At N Tx La F Dn) {vo : Value} {b' : Nat} {ok' : Nat → Prop} {os : List S39} (ho : Kd.R kT 39 W b' ok' vo os) (hg : W.grownBy w1 vo.ownBlock) (hb : Below w0.heap.size w0 w1) : TAt w0 w1 g L At N Tx La F Dn := by
  obtain ⟨vL, vF, h1, h2, h3, h4, h5⟩ := h
  exact ⟨vL, vF, h1.grown hg (Kd.R_ne ho h1 (by decide)), row_apart2 (β := Nat) h2 (ty64 (.inr rfl)) ho hg, row_apart2 (β := Nat) h3 (ty66 (.inr rfl)) ho hg, h4, hb⟩
/-- what stands between two steps of run -/
structure RunI (w0 wr : World) (g : Nat) (L : List S64) (N At : Int) (La : ByteArray) (F : List S66) (Dn : Bool) (vo : Value) (os : List S39) : Prop where
  t : TAt w0 wr g L At N 0 La F Dn
  o : Kd.R kT 39 wr w0.heap.size (fun _ => True) vo os
theorem trun_measure {wr w8 : World} {S A1 A2 : Int} {P : Prop} (m8 : wr.cell? ⟨g, 8, none⟩ = some (.bool false)) (m1 : wr.cell? ⟨g, 1, none⟩ = some (.int .i64 A1)) [Decidable P] (n8 : w8.cell? ⟨g, 8, none⟩ = some (.bool (decide P))) (n1 : w8.cell? ⟨g, 1, none⟩ = some (.int .i64 A2)) (h : ¬ P → A1 < A2 ∧ A2 ≤ S) :
    (match w8.cell? ⟨g, 8, none⟩ with | some (.bool true) => 0 | _ => 1 + (S - intOf ((w8.cell? ⟨g, 1, none⟩).getD undef)).toNat) < (match wr.cell? ⟨g, 8, none⟩ with | some (.bool true) => 0 | _ => 1 + (S - intOf ((wr.cell? ⟨g, 1, none⟩).getD undef)).toNat) := by
  rw [m8, m1, n8, n1]
  by_cases hp : P
  · rw [decide_eq_true hp]
    show 0 < 1 + _
    omega
  · rw [decide_eq_false hp]
    have := h hp
    show 1 + (S - A2).toNat < 1 + (S - A1).toNat
    omega
set_option maxRecDepth 100000 in
set_option maxHeartbeats 4000000 in
theorem trun (s : ByteArray) (L : List S64) (hL : taffrailref04_Chars.f 100 s = some (L, [])) (n : Nat) (A : Nat → Int) (La : Nat → ByteArray) (F : Nat → List S66) (xs : Nat → List S39) (os : Nat → List S39) (w0 : World)
    (h0 : A 0 = 0 ∧ La 0 = ⟨#[]⟩ ∧ F 0 = [] ∧ os 0 = [] ∧ 0 < n) (hs : s.size ≤ 1000000)
    (hos : ∀ i, i < n → os (i + 1) = os i ++ xs i ∧ (os i).length ≤ 1000 ∧ (A i < A (i + 1) ∨ i + 1 = n) ∧ A i ≤ (s.size : Int))
    (hxs : ∀ i, i < n → xs i = [] ∨ ∃ tk, xs i = [tk] ∧ (tk.f0 ≠ 2 ∨ tk.f0 = 2 ∧ tk.f2 = ⟨#[98]⟩))
    (hst : ∀ i, i < n → ∀ W g, TAt w0 W g L (A i) (s.size : Int) 0 (La i) (F i) false → Calls Try.prog 27 #[.pointer (some ⟨g, 0, none⟩)] W fun e w' => ∃ v, e = .returned v ∧ Nx w0 W w' g L (A (i + 1)) (s.size : Int) 0 (La (i + 1)) (F (i + 1)) (decide (i + 1 = n)) v (xs i))
    (hF : F n = [] ∨ ∃ x, F n = [x]) :
    Calls Try.prog 24 #[.string s, .int .i64 0, .string ⟨#[]⟩, .bool true] w0 fun e w' => ∃ v0 v1, e = .returned (.tuple #[v0, v1]) ∧ Kd.R kT 39 w' w0.heap.size (fun _ => True) v0 (os n) ∧ Kd.R k66 66 w' w0.heap.size (fun _ => True) v1 (F n) ∧ Below w0.heap.size w0 w' := by
  have HL := Aside0.mk hL
  have H0 := Aside0.mk h0
  have HOS := Aside0.mk hos
  have HXS := Aside0.mk hxs
  have HST := Aside0.mk hst
  have HF := Aside0.mk hF
  clear hL h0 hos hxs hst hF
  go_enter Try.func24, Try.ntmps24
  go_upto_region 8 with (first
    | (go_at_call 25; refine (taffrailref04_Chars.calls 100 s L [] _ HL.out).mono ?_; rintro e w1 ⟨vL, vf, rfl, hl, hf, hb1⟩; obtain ⟨Af, cf, ef⟩ := Kd.R_slice hf; rw [List.length_nil] at ef; subst ef; obtain ⟨AL, cL, eL⟩ := Kd.R_slice hl; obtain ⟨nl, hnl⟩ : ∃ n, L.length = n := ⟨_, rfl⟩; rw [hnl] at eL; subst eL; have HVL := Aside0.mk hl; have HB1 := Aside0.mk hb1; clear hl hf hb1 hnl)
    | (go_at_call 26; refine (plain_empty _).mono ?_; rintro e w2 ⟨rfl, hw2⟩; rw [hw2]; clear hw2))
  have hT0 : TAt w0 (w1.alloc (.cells #[.slice AL nl cL, .int .i64 0, .int .i64 (s.size : Int), .int .i64 0, .string ⟨#[]⟩, .bool false, .slice none 0 0, .bool false, .bool false] 58)) w1.heap.size L 0 (s.size : Int) 0 ⟨#[]⟩ [] false :=
    ⟨_, _, Blk.new _ _ _, Kd.R_alloc HVL.out _, Kd.R_nil _ _ _ _ _, HB1.out.size, HB1.out.alloc HB1.out.size _⟩
  have HI0 := Aside0.mk (show RunI w0 (w1.alloc (.cells #[.slice AL nl cL, .int .i64 0, .int .i64 (s.size : Int), .int .i64 0, .string ⟨#[]⟩, .bool false, .slice none 0 0, .bool false, .bool false] 58)) w1.heap.size L (s.size : Int) (A 0) (La 0) (F 0) (decide (0 = n)) (.slice none 0 0) (os 0) by
    obtain ⟨h1, h2, h3, h4, h5⟩ := H0.out
    rw [h1, h2, h3, h4, decide_eq_false (Nat.ne_of_lt h5)]
    exact ⟨hT0, Kd.R_nil _ _ _ _ _⟩)
  clear hT0
  obtain ⟨g, hg⟩ : ∃ g, w1.heap.size = g := ⟨_, rfl⟩
  obtain ⟨Wz, hWz⟩ : ∃ Wz, w1.alloc (.cells #[.slice AL nl cL, .int .i64 0, .int .i64 (s.size : Int), .int .i64 0, .string ⟨#[]⟩, .bool false, .slice none 0 0, .bool false, .bool false] 58) = Wz := ⟨_, rfl⟩
  rw [hWz] at HI0 ⊢
  rw [hg] at HI0 ⊢
  clear hg hWz HVL HB1
  go_loopw [13, 14] (fun v13 v14 wr => ∃ i : Nat, Aside0 (i ≤ n) ∧ Aside0 (RunI w0 wr g L (s.size : Int) (A i) (La i) (F i) (decide (i = n)) v13 (os i))) (fun _ _ wr => match wr.cell? ⟨g, 8, none⟩ with | some (.bool true) => 0 | _ => 1 + ((s.size : Int) - intOf ((wr.cell? ⟨g, 1, none⟩).getD undef)).toNat)
  case atStart => exact ⟨0, ⟨Nat.zero_le _⟩, HI0⟩
  case round =>
    obtain ⟨i, HIn, HI⟩ := hrel
    clear HI0
    have c8 := HI.out.t.c8
    by_cases hin : i = n
    · subst hin
      rw [decide_eq_true rfl] at c8
      obtain ⟨vL, vF, h1, h2, h3, h4, h5⟩ := HI.out.t
      have RO := Aside0.mk HI.out.o
      obtain ⟨Ao, co, rfl⟩ := Kd.R_slice HI.out.o
      obtain ⟨no, hno⟩ : ∃ no, (os i).length = no := ⟨_, rfl⟩
      rw [hno] at RO ⊢
      have HB5 := Aside0.mk h5
      rcases HF.out with hf | ⟨x, hf⟩
      · rw [hf] at h3
        obtain ⟨A1, c1, e1⟩ := Kd.R_slice h3
        rw [List.length_nil] at e1
        subst e1
        have c6 : wr.cell? ⟨g, 6, none⟩ = some (.slice A1 0 c1) := h1.cell 6
        have HFn := Aside0.mk hf
        clear h1 h2 h3 h4 h5 hf HI hno
        go_wp2_with (go_at_call 29; refine (tmerge0 Af cf A1 c1).mono ?_; rintro e w9 ⟨rfl, hb9⟩; have R9 := Aside0.mk (Kd.R_below RO.out hb9); have B9 := Aside0.mk (below_then HB5.out HB5.out.size hb9); clear hb9)
        go_ret2
        exact ⟨_, _, rfl, R9.out, by rw [HFn.out]; exact Kd.R_nil _ _ _ _ _, B9.out⟩
      · rw [hf] at h3
        obtain ⟨A1, c1, e1⟩ := Kd.R_slice h3
        have hl1 : ([x] : List S66).length = 1 := rfl
        rw [hl1] at e1
        subst e1
        have c6 : wr.cell? ⟨g, 6, none⟩ = some (.slice A1 1 c1) := h1.cell 6
        have HFn := Aside0.mk hf
        have H3 := Aside0.mk h3
        clear h1 h2 h3 h4 h5 hf HI hno hl1
        go_wp2_with (go_at_call 29; refine (tmerge1 Af cf A1 c1 x _ _ H3.out).mono ?_; rintro e w9 ⟨v9, rfl, hr9, hb9⟩; have R9 := Aside0.mk (Kd.R_below RO.out hb9); have V9 := Aside0.mk (Kd.R_lower hr9 HB5.out.size); have B9 := Aside0.mk (below_then HB5.out HB5.out.size hb9); clear hb9 hr9)
        go_ret2
        exact ⟨_, _, rfl, R9.out, by rw [HFn.out]; exact V9.out, B9.out⟩
    · rw [decide_eq_false hin] at c8
      have hlt : i < n := by have := HIn.out; omega
      have M8 := Aside0.mk c8
      have M1 := Aside0.mk HI.out.t.c1
      have hT := HI.out.t
      rw [decide_eq_false hin] at hT
      have T := Aside0.mk hT
      have RO := Aside0.mk HI.out.o
      obtain ⟨Ao, co, rfl⟩ := Kd.R_slice HI.out.o
      obtain ⟨no, hno⟩ : ∃ no, (os i).length = no := ⟨_, rfl⟩
      rw [hno] at RO ⊢
      have HNO := Aside0.mk hno
      have HMs := Aside0.mk (show ¬ i + 1 = n → A i < A (i + 1) ∧ A (i + 1) ≤ (s.size : Int) by
        intro hne
        have h1 := (HOS.out i hlt).2.2.1
        have h2 := (HOS.out (i + 1) (by omega)).2.2.2
        omega)
      have HOi := Aside0.mk (HOS.out i hlt)
      have HXi := Aside0.mk (HXS.out i hlt)
      have HSi := Aside0.mk (HST.out i hlt)
      clear hT HI hin hno
      go_upto_region 10 with (go_at_call 27; refine (HSi.out _ g T.out).mono ?_; rintro e w3 ⟨v, rfl, hx⟩; have RO3 := Aside0.mk (hx.k.Rt RO.out T.out); have X := Aside0.mk hx; have BL := Aside0.mk (Kd.R_lt RO.out); obtain ⟨Ax, cx, ex⟩ := Kd.R_slice hx.r; subst ex; clear hx)
      obtain ⟨m, hm⟩ : ∃ m, (xs i).length = m := ⟨_, rfl⟩
      rw [hm] at X ⊢
      have HM := Aside0.mk hm
      clear hm
      have HROW := Aside0.mk (OwnRow.reads (Kd.R_lower X.out.r T.out.bel.size).2)
      obtain ⟨Ay, cy, ey, hly, hrow⟩ := HROW.out
      rw [HM.out] at ey hrow
      cases ey
      have HRW := Aside0.mk hrow
      clear hrow hly HROW
      have hm1 : m ≤ 1 := by
        rw [← HM.out]
        rcases HXi.out with h | ⟨tk, h, _⟩
        · rw [h]
          exact Nat.zero_le _
        · rw [h]
          exact Nat.le_refl _
      have HAL := Aside0.mk (show ((os i).length + m) * 96 ≤ 140737488355328 by
        have h1 := HOi.out.2.1
        omega)
      have HAK := Aside0.mk (show ∀ k, wr.heap.size ≤ k ∧ some k ≠ (Value.slice Ax m cx).ownBlock → True ∧ some k ≠ (Value.slice Ao no co).ownBlock by
        intro k hk
        refine ⟨trivial, fun e => ?_⟩
        have h1 := BL.out k e.symm
        have h2 := hk.1
        omega)
      have HBK := Aside0.mk (show ∀ k, wr.heap.size ≤ k → some k ≠ (Value.slice Ao no co).ownBlock by
        intro k hk e
        have h1 := BL.out k e.symm
        omega)
      clear hm1
      go_upto_region 11 with (at_builtin; refine Kd.R_append_rows kT (w0 := w0) w0.heap.size rfl (.tmp 43) (.tmp 44) 22 39 (.agg #[.int .i64 0, .int .i64 0, .string ⟨#[]⟩, .string ⟨#[]⟩, .slice none 0 0, .bool false, .int .i64 0, .int .i64 0]) 96 rfl Try.underlying22 inf39 rfl (by decide) (by decide) (.slice Ao no co) (os i) (xs i) Ax m cx (fun _ => True) _ rfl rfl RO3.out HRW.out (fun _ _ h => h) HAK.out (fun _ _ => trivial) X.out.t.bel X.out.t.bel.size HAL.out ?_; intro v5 w5 hr5 hb5 hg5 hat5; have T5 := Aside0.mk (X.out.t.grownOut RO3.out hg5 hb5); have R5 := Aside0.mk hr5; have X5 := Aside0.mk (Kd.R_grown X.out.r hg5 HBK.out); clear hr5 hb5 hg5 hat5)
      have RI0 := Aside0.mk (show RunI w0 w5 g L (s.size : Int) (A (i + 1)) (La (i + 1)) (F (i + 1)) (decide (i + 1 = n)) v5 (os (i + 1)) by
        rw [HOi.out.1]
        exact ⟨T5.out, R5.out⟩)
      rcases HXi.out with hx | ⟨tk, hx, hk⟩
      · have hm0 : m = 0 := by rw [← HM.out, hx]; rfl
        subst hm0
        have RI := RI0
        clear hx RI0
        go_wp2
        go_roundw
        case rel => first | exact ⟨i + 1, ⟨hlt⟩, RI⟩ | ((repeat apply Exists.intro); exact ⟨⟨i + 1, ⟨hlt⟩, RI⟩, rfl⟩)
        case measure => exact trun_measure M8.out M1.out RI.out.t.c8 RI.out.t.c1 HMs.out
      · have hm1 : m = 1 := by rw [← HM.out, hx]; rfl
        subst hm1
        rw [hx] at X5
        obtain ⟨A6, c6, e6, hl6, hC6⟩ := Kd.R_reads X5.out
        cases e6
        obtain ⟨ad, A4, c4, rfl, e0, e1, e2, e3, e4, e5⟩ := at_T39 (kT_C hC6) 0 (Int.le_refl 0) (by simp)
        have hx0 : rd_T39 [tk] 0 = tk := rfl
        have s0 : (0 : Int).toNat * 8 = 0 := rfl
        have z0 : ad.add 0 = ad := by simp [Addr.add]
        rw [hx0, s0, z0] at e0 e2
        clear hx0 s0 z0 e1 e3 e4 e5 hC6 hl6 hx
        rcases hk with hk | ⟨hk1, hk2⟩
        · have hd : (tk.f0 == 2) = false := beq_eq_false_iff_ne.mpr hk
          have RI := RI0
          clear hk RI0
          go_wp2
          go_roundw
          case rel => first | exact ⟨i + 1, ⟨hlt⟩, RI⟩ | ((repeat apply Exists.intro); exact ⟨⟨i + 1, ⟨hlt⟩, RI⟩, rfl⟩)
          case measure => exact trun_measure M8.out M1.out RI.out.t.c8 RI.out.t.c1 HMs.out
        · rw [hk1] at e0
          rw [hk2] at e2
          clear hk1 hk2
          go_wp2_with (go_at_call 28; refine (taffrailref07_TextOf.calls 200 ⟨#[98]⟩ 0 _ textOf_b).mono ?_; rintro e w6 ⟨rfl, hd6⟩; have T6 := Aside0.mk (RI0.out.t.below (drawn_below hd6)); have c3 := T6.out.c3; have f3 := T6.out.fr 3; have RI := Aside0.mk (show RunI w0 (w6.setCell ⟨g, 3, none⟩ (.int .i64 0)) g L (s.size : Int) (A (i + 1)) (La (i + 1)) (F (i + 1)) (decide (i + 1 = n)) v5 (os (i + 1)) from ⟨T6.out.setTx 0, (KT.setg g 3 (.int .i64 0) w6).Rt (Kd.R_below RI0.out.o (drawn_below hd6)) T6.out⟩); clear hd6)
          go_roundw
          case rel => first | exact ⟨i + 1, ⟨hlt⟩, RI⟩ | ((repeat apply Exists.intro); exact ⟨⟨i + 1, ⟨hlt⟩, RI⟩, rfl⟩)
          case measure => exact trun_measure M8.out M1.out RI.out.t.c8 RI.out.t.c1 HMs.out
end
end Go.Proofs.Ytdciombpffkcjaa.P
