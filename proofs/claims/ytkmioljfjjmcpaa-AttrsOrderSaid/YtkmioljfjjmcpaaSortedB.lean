/- The reference's Sorted: one by one into its place. -/
import Derived.Test.YtkmioljfjjmcpaaSortedA
import Derived.BigQuiet
import Derived.Deep.RegionLaw
namespace Go.Proofs.Ytkmioljfjjmcpaa.P
open Go.RowKit Go.Proofs.YtkmioljfjjmcpaaW.PrintWords Go.Proofs.YtkmioljfjjmcpaaW.PrintLast Go.Proofs.YtkmioljfjjmcpaaW.PrintMore Go.Proofs.Ytkmioljfjjmcpaa.Blk
set_option linter.unusedVariables false
set_option linter.unusedSimpArgs false
theorem info24' : (Try.prog.info? 24).map (fun i => (i.zero, i.size, i.bytes)) = some (some (.agg #[.string ⟨#[]⟩, .string ⟨#[]⟩]), 2, 32) := by kernel_rfl
theorem att_row {W : World} {b : Nat} {x : E} (ok : Nat → Prop) (base : Nat) (hb : Blk W b 24 #[.string x.f0, .string x.f1]) : Kd.C k24 W (some ⟨b, 0, none⟩) 1 [x] := by
  refine ⟨rfl, by omega, fun _ => ⟨_, rfl, fun j p hj => ?_⟩⟩
  match j, hj with
  | 0, hj =>
    simp at hj
    subst hj
    refine ⟨[.string x.f0, .string x.f1], rfl, k24_mk _ _, fun i u' hi => ?_⟩
    match i, hi with
    | 0, hi =>
      simp at hi
      subst hi
      simpa [Addr.add] using hb.cell 0
    | 1, hi =>
      simp at hi
      subst hi
      simpa [Addr.add] using hb.cell 1
/-- an operation's frame written another way -/
theorem law_frame {P : Program} {ops : Array Oper} {o : Oper} {a a' : Act} {W : World} {Q : Exit → Act → World → Prop} {Kc : Act → World → Prop} (h : a = a') (hg : if Region.wanted o (yielded ops a'.tmps) = true then Oper.wp P o a' W Kc Q else Kc (a'.put o.dst undef) W) : if Region.wanted o (yielded ops a.tmps) = true then Oper.wp P o a W Kc Q else Kc (a.put o.dst undef) W := by
  subst h
  exact hg
theorem reads_att {W : World} {A : Option Addr} {n : Nat} {xs : List E} (h : Kd.C k24 W A n xs) : ReadsRow (fun (x : E) cs => cs = [Value.string x.f0, Value.string x.f1]) k24.sz W A n xs := ReadsRow.imp_ h (Below.refl _ _) (fun _ _ h => k24_open h)
theorem rd_get {l : List E} {k : Nat} {y : E} (h : l[k]? = some y) : rd_T24 l (k : Int) = y := by
  unfold rd_T24
  rw [Int.toNat_natCast, List.getD_eq_getElem?_getD, h]
  rfl
theorem fold_take {l : List E} {k : Nat} {x : E} (h : l[k]? = some x) : sortE (l.take (k + 1)) = insE x (sortE (l.take k)) := by
  have hk := (List.getElem?_eq_some_iff.1 h).1
  rw [List.getElem?_eq_getElem hk] at h
  unfold sortE
  rw [List.take_succ_eq_append_getElem hk, List.foldl_append, Option.some.inj h]
  rfl
/-- how the reference asks -/
theorem ask_yes {x y : E} (h : lt x y = false) : Op.bytesLess y.f0.toList x.f0.toList = true ∨ (Op.bytesLess y.f0.toList x.f0.toList = false ∧ (y.f0.toList == x.f0.toList) = true ∧ (Op.bytesLess y.f1.toList x.f1.toList || y.f1.toList == x.f1.toList) = true) := by
  cases h1 : Op.bytesLess y.f0.toList x.f0.toList with
  | true => exact .inl rfl
  | false =>
    refine .inr ⟨rfl, ?_⟩
    have n1 : ¬ lt x y = true := by rw [h]; simp
    rw [lt_iff] at n1
    have e0 : x.f0 = y.f0 := toList_inj (bl_total _ _ (by cases hq : bl x.f0.toList y.f0.toList; rfl; exact absurd (.inl hq) n1) h1)
    refine ⟨by rw [e0]; simp, ?_⟩
    cases h2 : Op.bytesLess y.f1.toList x.f1.toList with
    | true => rfl
    | false =>
      have e1 : x.f1.toList = y.f1.toList := bl_total _ _ (by cases hq : bl x.f1.toList y.f1.toList; rfl; exact absurd (.inr ⟨e0, hq⟩) n1) h2
      rw [e1]; simp
theorem ask_no {x y : E} (h : lt x y = true) : Op.bytesLess y.f0.toList x.f0.toList = false ∧ ((y.f0.toList == x.f0.toList) = false ∨ ((y.f0.toList == x.f0.toList) = true ∧ (Op.bytesLess y.f1.toList x.f1.toList || y.f1.toList == x.f1.toList) = false)) := by
  rw [lt_iff] at h
  rcases h with h | ⟨e, h⟩
  · refine ⟨bl_asymm _ _ h, .inl ?_⟩
    rw [beq_eq_false_iff_ne]
    intro e
    rw [e, bl_irrefl] at h
    cases h
  · refine ⟨by rw [e]; exact bl_irrefl _, .inr ⟨by rw [e]; simp, ?_⟩⟩
    rw [Bool.or_eq_false_iff]
    refine ⟨bl_asymm _ _ h, ?_⟩
    rw [beq_eq_false_iff_ne]
    intro e1
    rw [e1, bl_irrefl] at h
    cases h
/-! ### taffrailref08.Sorted -/
def taffrailref08_Sorted.f (l0 : List (S24)) : Option (List (S24)) := if l0.length * 32 ≤ 140737488355328 ∧ l0.length ≤ 1000000000000 then some (sortE l0) else none
/-- the row so far -/
def RefS (w : World) (l0 : List E) (i : Nat) (v : Value) (W : World) : Prop := Kd.R k24 24 W w.heap.size (fun k => w.heap.size ≤ k) v (sortE (l0.take i)) ∧ Below w.heap.size w W
theorem RefS.drewN {w : World} {l0 : List E} {i : Nat} {v : Value} {W : World} (h : RefS w l0 i v W) (n : Nat) : RefS w l0 i v (W.drewN n) := ⟨Kd.R_below h.1 (pw_below_drewN (Below.refl _ _) n), pw_below_drewN h.2 n⟩
set_option maxRecDepth 100000 in
set_option maxHeartbeats 4000000 in
theorem taffrailref08_Sorted.calls (A0 : Option Addr) (c0 : Nat) (l0 : List (S24)) (r : List (S24)) (w : World) (hr0 : Kd.C k24 w A0 l0.length l0) (hc0 : l0.length ≤ c0) (h : taffrailref08_Sorted.f l0 = some r) :
    Calls Try.prog 20 #[.slice A0 l0.length c0] w fun e w' => ∃ v0_ : Value, e = .returned (v0_) ∧ Kd.R k24 24 w' w.heap.size (fun _ => True) v0_ r ∧ Below w.heap.size w w' := by
  unfold taffrailref08_Sorted.f at h
  by_cases hl : l0.length * 32 ≤ 140737488355328 ∧ l0.length ≤ 1000000000000
  · rw [if_pos hl] at h
    obtain rfl := Option.some.inj h
    have H0 := Aside0.mk hr0
    obtain ⟨nl, hnl⟩ : ∃ n, l0.length = n := ⟨_, rfl⟩
    have HN := Aside0.mk hnl
    have HL : nl * 32 ≤ 140737488355328 ∧ nl ≤ 1000000000000 := by rw [← hnl]; exact hl
    have HS0 : Aside0 (RefS w l0 0 (.slice none 0 0) w) := ⟨Kd.R_nil _ _ _ _ _, Below.refl _ _⟩
    rw [hnl]
    clear h hl hr0 hc0 hnl
    obtain ⟨i0, hi0, hsz⟩ : ∃ i, Try.prog.info? 24 = some i ∧ i.size = 2 := by
      obtain ⟨i, h1, h2⟩ := Option.map_eq_some_iff.1 info24'
      exact ⟨i, h1, by simp only [Prod.mk.injEq] at h2; exact h2.2.1⟩
    go_enter Try.func20, Try.ntmps20
    go_wp2
    go_loopw [3, 4] (fun v3 v4 wr => ∃ I : Nat, v4 = .int .i64 I ∧ I ≤ nl ∧ Aside0 (RefS w l0 I v3 wr)) (fun _ v4 _ => nl - (intOf v4).toNat)
    case atStart => exact ⟨0, rfl, by omega, HS0⟩
    case round =>
      clear HS0
      obtain ⟨I, rfl, g1, HS⟩ := hrel
      by_cases hlt : I < nl
      · have hltz : (I : Int) < (nl : Int) := by omega
        obtain ⟨Ao, co, hv⟩ := Kd.R_slice HS.out.1
        obtain ⟨O, hO⟩ : ∃ O, sortE (l0.take I) = O := ⟨_, rfl⟩
        rw [hO] at hv
        obtain ⟨no, hno⟩ : ∃ n, O.length = n := ⟨_, rfl⟩
        rw [hno] at hv
        have hno2 : no ≤ I := by rw [← hno, ← hO, sortE_len, List.length_take]; omega
        have HO := Aside0.mk (And.intro hO hno)
        subst hv
        clear hO hno
        obtain ⟨x, hx⟩ : ∃ x, l0[I]? = some x := ⟨_, List.getElem?_eq_getElem (by have := HN.out; omega)⟩
        obtain ⟨ad, ead, cx0, cx1⟩ := at_T24 H0.out (I : Int) (by omega) (by have := HN.out; omega)
        rw [rd_get hx] at cx0 cx1
        have HC := Aside0.mk (And.intro cx0 cx1)
        have HX := Aside0.mk hx
        obtain rfl := ead
        clear cx0 cx1 hx
        have i0z : (0 : Int) ≤ (I : Int) := by omega
        go_wp2
        go_loopw [5] (fun v5 wr2 => ∃ K : Nat, v5 = .int .i64 K ∧ K ≤ no ∧ (∀ j y, j < K → O[j]? = some y → lt x y = false) ∧ Aside0 (RefS w l0 I (.slice Ao no co) wr2)) (fun v5 _ => no - (intOf v5).toNat)
        case atStart => exact ⟨0, rfl, by omega, fun j y h => by omega, HS⟩
        case round =>
          clear HS
          obtain ⟨K, rfl, k1, k2, HS⟩ := hrel
          have KB := Aside0.mk k2
          clear k2
          obtain ⟨B, hB⟩ : ∃ B : Bool, B = (match O[K]? with | some y => !(lt x y) | none => false) := ⟨_, rfl⟩
          have HB := Aside0.mk hB
          clear hB
          go_upto_region 6 with (fail)
          go_cut [54] (fun v54 wz => v54 = .bool B ∧ ∃ n, wz = wr.drewN n)
          case first => as_aux_lemma =>
            by_cases hk : K < no
            · have hkz : (K : Int) < (no : Int) := by omega
              have hkd : decide ((K : Int) < (no : Int)) = true := decide_eq_true hkz
              obtain ⟨y, hy⟩ : ∃ y, O[K]? = some y := ⟨_, List.getElem?_eq_getElem (by have := HO.out.2; omega)⟩
              have hrd := (Kd.R_reads HS.out.1)
              obtain ⟨Ao', co', e', hlo, hCo⟩ := hrd
              rw [HO.out.1] at e' hCo hlo
              injection e' with e1 e2 e3
              subst e1
              obtain ⟨ao, eao, cy0, cy1⟩ := at_T24 hCo (K : Int) (by omega) (by have := HO.out.2; omega)
              rw [rd_get hy] at cy0 cy1
              obtain rfl := eao
              have cx0 := pw_cell_below HS.out.2 HC.out.1
              have cx1 := pw_cell_below HS.out.2 HC.out.2
              simp only [Int.toNat_natCast] at cx0 cx1 cy0 cy1
              have hB := HB.out
              rw [hy] at hB
              replace hB : B = !(lt x y) := hB
              clear hy hlo hCo e2 e3 HB
              have k0z : (0 : Int) ≤ (K : Int) := by omega
              cases hq : lt x y with
              | false =>
                rw [hq] at hB
                obtain rfl : B = true := hB
                rcases ask_yes hq with h1 | ⟨h1, h2, h3⟩
                · clear hq
                  go_quiet (fail)
                  go_wp2
                  go_meet
                  case rel => exact ⟨rfl, _, rfl⟩
                · clear hq
                  go_quiet (fail)
                  go_wp2
                  go_meet
                  case rel => exact ⟨rfl, _, rfl⟩
              | true =>
                rw [hq] at hB
                obtain rfl : B = false := hB
                obtain ⟨h1, h2⟩ := ask_no hq
                rcases h2 with h2 | ⟨h2, h3⟩
                · clear hq
                  go_quiet (fail)
                  go_wp2
                  go_meet
                  case rel => exact ⟨rfl, _, rfl⟩
                · clear hq
                  go_quiet (fail)
                  go_wp2
                  go_meet
                  case rel => exact ⟨rfl, _, rfl⟩
            · have hkz : ¬ (K : Int) < (no : Int) := by omega
              have hkd : decide ((K : Int) < (no : Int)) = false := decide_eq_false hkz
              have hn : O[K]? = none := List.getElem?_eq_none (by have := HO.out.2; omega)
              obtain rfl : B = false := by rw [HB.out, hn]
              clear HB
              go_quiet (fail)
              go_wp2
              go_meet
              case rel => exact ⟨rfl, _, rfl⟩
          case rest =>
            obtain ⟨rfl, nq, rfl⟩ := hcut
            have HS2 : Aside0 (RefS w l0 I (.slice Ao no co) (wr.drewN nq)) := ⟨HS.out.drewN nq⟩
            generalize wr.drewN nq = W1 at *
            cases B with
            | true => as_aux_lemma =>
              have hk : K < no ∧ ∀ y, O[K]? = some y → lt x y = false := by
                have h9 := HB.out
                cases hy : O[K]? with
                | none => rw [hy] at h9; cases h9
                | some y =>
                  rw [hy] at h9
                  replace h9 : true = !(lt x y) := h9
                  refine ⟨by have := (List.getElem?_eq_some_iff.1 hy).1; have := HO.out.2; omega, fun z hz => ?_⟩
                  injection hz with hz
                  subst hz
                  cases hq : lt x y with
                  | false => rfl
                  | true => rw [hq] at h9; cases h9
              have KB2 : Aside0 (∀ j y, j < K + 1 → O[j]? = some y → lt x y = false) := ⟨fun j y h1 h2 => by
                rcases Nat.lt_or_ge j K with h3 | h3
                · exact KB.out j y h3 h2
                · obtain rfl : j = K := by omega
                  exact hk.2 y h2⟩
              have hk3 := hk.1
              clear HS KB hk HB
              go_wp2
              go_roundw
              case rel => first | exact ⟨K + 1, by go_num, by omega, KB2.out, HS2⟩ | ((repeat apply Exists.intro); exact ⟨⟨K + 1, by go_num, by omega, KB2.out, HS2⟩, rfl⟩)
              case measure => simp [intOf]; omega
            | false =>
              have hpl : plE x O = K := plE_eq x O K (by have := HO.out.2; omega) KB.out (fun y hy => by
                have h9 := HB.out
                rw [hy] at h9
                replace h9 : false = !(lt x y) := h9
                cases hq : lt x y with
                | true => rfl
                | false => rw [hq] at h9; cases h9)
              have HP := Aside0.mk hpl
              obtain ⟨Ao', co', e', hlo, hCo⟩ := Kd.R_reads HS2.out.1
              rw [HO.out.1] at e' hCo hlo
              injection e' with e1 e2 e3
              obtain rfl := e1
              obtain rfl := e3
              have cx0 := pw_cell_below HS2.out.2 HC.out.1
              have cx1 := pw_cell_below HS2.out.2 HC.out.2
              simp only [Int.toNat_natCast] at cx0 cx1
              have hcut1 := cut_to (P := Try.prog) 22 24 .i64 Try.underlying22 hi0 Ao no co (K : Int) (by omega) (by omega) (by have := HO.out.2; omega)
              have hcut2 := cut_from (P := Try.prog) 22 24 .i64 Try.underlying22 hi0 2 hsz Ao no co (K : Int) (by omega) (by omega)
              simp only [Int.toNat_natCast] at hcut1 hcut2
              obtain ⟨Ad, hAd⟩ : ∃ z, (if co = K then Ao else Ao.map (·.add (K * 2))) = z := ⟨_, rfl⟩
              obtain ⟨nd, hnd⟩ : ∃ z, no - K = z := ⟨_, rfl⟩
              obtain ⟨cd, hcd⟩ : ∃ z, co - K = z := ⟨_, rfl⟩
              have hC1 := Kd.C_take hCo (m := K) (by have := HO.out.2; omega)
              have hC2 := Kd.C_drop hCo (m := K) (c := co) (by have := HO.out.2; omega) hlo
              have hs2 : k24.sz = 2 := rfl
              rw [hs2, hAd, show (O.drop K).length = nd by rw [List.length_drop]; have := HO.out.2; omega] at hC2
              rw [show (O.take K).length = K by rw [List.length_take]; have := HO.out.2; omega] at hC1
              rw [hAd, hnd, hcd] at hcut2
              have HC1 := Aside0.mk (reads_att hC1)
              have HC2 := Aside0.mk (reads_att hC2)
              have hnd2 : K + nd ≤ no ∧ no ≤ K + nd := by omega
              have hTL : (O.take K).length ≤ K := by rw [List.length_take]; omega
              have HTL := Aside0.mk hTL
              clear HS KB HB hpl hlo hCo e2 hAd hnd hcd hC1 hC2 hs2 hTL HC
              have iz : (I : Int) < (nl : Int) := hltz
              have HLL : nl * 32 ≤ 140737488355328 := HL.1
              have N1 := Aside0.mk trivial
              go_upto_region 8 with (fail)
              go_region_law (first
                | ((have gA := N1.out; clear gA N1); refine law_frame (a' := ?_) ?_ ?_; rotate_left; (focus ((try simp only [Act.put, List.getElem_toArray, List.getElem_cons_zero, List.getElem_cons_succ, List.setIfInBounds_toArray, List.set_cons_zero, List.set_cons_succ]); rfl)); refine Kd.R_append_rows_step k24 (Rr := fun x cs => cs = [Value.string x.f0, Value.string x.f1]) (w0 := W1) W1.heap.size rfl (.const (.slice none 0 0)) (.tmp 59) 22 24 (.agg #[.string ⟨#[]⟩, .string ⟨#[]⟩]) 32 rfl Try.underlying22 info24' rfl (by decide) (by decide) (.slice none 0 0) [] (O.take K) Ao K co (fun k => W1.heap.size ≤ k) (fun _ => False) rfl rfl ?aO ?aR (fun x cs h => by rw [h]; exact k24_mkM _ _ _ _) (fun _ h => h.elim) (fun k hk => Nat.le_trans ?aS hk) ?aB ?aS2 ?aL ?_; (case aO => exact Kd.R_nil _ _ _ _ _); (case aR => exact ReadsRow.imp_ HC1.out (by (with_reducible repeat (first | apply below_alloc | apply below_drew1)); exact Below.refl _ _) (fun _ _ h => h)); (case aS => first | exact Nat.le_refl _ | (simp)); (case aS2 => first | exact Nat.le_refl _ | (simp)); (case aB => ((with_reducible repeat (first | apply below_alloc | apply below_drew1)); exact Below.refl _ _)); (case aL => (rw [show ([] : List E).length = 0 from rfl]; omega)); intro v2 w2 hr2 hb2 hg2 hat2; rw [List.nil_append] at hr2; have HR2 := Aside0.mk hr2; have HB2 := Aside0.mk hb2; have HG2 := Aside0.mk hg2; have cx0 := pw_cell_below hb2 cx0; have cx1 := pw_cell_below hb2 cx1; clear hr2 hb2 hg2 hat2)
                | ((have gA := HG2.out; clear gA); refine law_frame (a' := ?_) ?_ ?_; rotate_left; (focus ((try simp only [Act.put, List.getElem_toArray, List.getElem_cons_zero, List.getElem_cons_succ, List.setIfInBounds_toArray, List.set_cons_zero, List.set_cons_succ]); rfl)); refine Kd.R_append_rows_step k24 (Rr := fun x cs => cs = [Value.string x.f0, Value.string x.f1]) (w0 := W1) W1.heap.size rfl (.tmp 60) (.tmp 65) 22 24 (.agg #[.string ⟨#[]⟩, .string ⟨#[]⟩]) 32 rfl Try.underlying22 info24' rfl (by decide) (by decide) (v2) (O.take K) [x] (some ⟨w2.heap.size, 0, none⟩) 1 1 (fun k => W1.heap.size ≤ k) (fun _ => False) rfl rfl ?bO ?bR (fun x cs h => by rw [h]; exact k24_mkM _ _ _ _) (fun _ h => h.elim) (fun k hk => Nat.le_trans ?bS hk) ?bB ?bS2 ?bL ?_; (case bO => ((with_reducible repeat (first | apply Kd.R_alloc | apply Kd.R_drew)); exact HR2.out)); (case bR => exact reads_att (att_row (fun _ => True) 0 (Blk.new _ _ _))); (case bS => first | exact HB2.out.size | (have := HB2.out.size; simp; omega)); (case bS2 => first | exact HB2.out.size | (have := HB2.out.size; simp; omega)); (case bB => ((with_reducible repeat (first | apply below_alloc | apply below_drew1)); exact HB2.out)); (case bL => (have := HTL.out; (try rw [List.length_append, List.length_singleton]); omega)); intro v3 w3 hr3 hb3 hg3 hat3; have HR3b := Aside0.mk hr3; have HB3 := Aside0.mk hb3; clear hr3 hb3 hg3 hat3 HG2)
                | ((have gA := HG2.out; clear gA); refine law_frame (a' := ?_) ?_ ?_; rotate_left; (focus ((try simp only [Act.put, List.getElem_toArray, List.getElem_cons_zero, List.getElem_cons_succ, List.setIfInBounds_toArray, List.set_cons_zero, List.set_cons_succ]); rfl)); refine Kd.R_append_rows_step k24 (Rr := fun x cs => cs = [Value.string x.f0, Value.string x.f1]) (w0 := W1) W1.heap.size rfl (.tmp 60) (.tmp 65) 22 24 (.agg #[.string ⟨#[]⟩, .string ⟨#[]⟩]) 32 rfl Try.underlying22 info24' rfl (by decide) (by decide) (v2) (O.take K) [x] (some ⟨W1.heap.size, 0, none⟩) 1 1 (fun k => W1.heap.size ≤ k) (fun _ => False) rfl rfl ?cO ?cR (fun x cs h => by rw [h]; exact k24_mkM _ _ _ _) (fun _ h => h.elim) (fun k hk => Nat.le_trans ?cS hk) ?cB ?cS2 ?cL ?_; (case cO => ((with_reducible repeat (first | apply Kd.R_alloc | apply Kd.R_drew)); exact HR2.out)); (case cR => exact reads_att (att_row (fun _ => True) 0 (Blk.grown (w := (W1.alloc (.cells #[.string x.f0, .string x.f1] 24)).drew) (Blk.new W1 24 #[.string x.f0, .string x.f1]) HG2.out (by simp [Value.ownBlock])))); (case cS => first | exact HB2.out.size | (have := HB2.out.size; simp; omega)); (case cS2 => first | exact HB2.out.size | (have := HB2.out.size; simp; omega)); (case cB => ((with_reducible repeat (first | apply below_alloc | apply below_drew1)); exact HB2.out)); (case cL => (have := HTL.out; (try rw [List.length_append, List.length_singleton]); omega)); intro v3 w3 hr3 hb3 hg3 hat3; have HR3c := Aside0.mk hr3; have HB3 := Aside0.mk hb3; clear hr3 hb3 hg3 hat3 HG2)
                | ((have gA := HR3b.out; clear gA); refine law_frame (a' := ?_) ?_ ?_; rotate_left; (focus ((try simp only [Act.put, List.getElem_toArray, List.getElem_cons_zero, List.getElem_cons_succ, List.setIfInBounds_toArray, List.set_cons_zero, List.set_cons_succ]); rfl)); refine Kd.R_append_rows_step k24 (Rr := fun x cs => cs = [Value.string x.f0, Value.string x.f1]) (w0 := W1) W1.heap.size rfl (.tmp 66) (.tmp 69) 22 24 (.agg #[.string ⟨#[]⟩, .string ⟨#[]⟩]) 32 rfl Try.underlying22 info24' rfl (by decide) (by decide) (v3) (O.take K ++ [x]) (O.drop K) Ad nd cd (fun k => W1.heap.size ≤ k) (fun _ => False) rfl rfl ?dO ?dR (fun x cs h => by rw [h]; exact k24_mkM _ _ _ _) (fun _ h => h.elim) (fun k hk => Nat.le_trans ?dS hk) ?dB ?dS2 ?dL ?_; (case dO => ((with_reducible repeat (first | apply Kd.R_alloc | apply Kd.R_drew)); exact HR3b.out)); (case dR => exact ReadsRow.imp_ HC2.out (by (with_reducible repeat (first | apply below_alloc | apply below_drew1)); exact HB3.out) (fun _ _ h => h)); (case dS => first | exact HB3.out.size | (have := HB3.out.size; simp; omega)); (case dS2 => first | exact HB3.out.size | (have := HB3.out.size; simp; omega)); (case dB => ((with_reducible repeat (first | apply below_alloc | apply below_drew1)); exact HB3.out)); (case dL => (have := HTL.out; (try rw [List.length_append, List.length_singleton]); omega)); intro v4 w4 hr4 hb4 hg4 hat4; have HR4 := Aside0.mk hr4; have HB4 := Aside0.mk hb4; clear hr4 hb4 hg4 hat4 HR3b)
                | ((have gA := HR3c.out; clear gA); refine law_frame (a' := ?_) ?_ ?_; rotate_left; (focus ((try simp only [Act.put, List.getElem_toArray, List.getElem_cons_zero, List.getElem_cons_succ, List.setIfInBounds_toArray, List.set_cons_zero, List.set_cons_succ]); rfl)); refine Kd.R_append_rows_step k24 (Rr := fun x cs => cs = [Value.string x.f0, Value.string x.f1]) (w0 := W1) W1.heap.size rfl (.tmp 66) (.tmp 69) 22 24 (.agg #[.string ⟨#[]⟩, .string ⟨#[]⟩]) 32 rfl Try.underlying22 info24' rfl (by decide) (by decide) (v3) (O.take K ++ [x]) (O.drop K) Ad nd cd (fun k => W1.heap.size ≤ k) (fun _ => False) rfl rfl ?eO ?eR (fun x cs h => by rw [h]; exact k24_mkM _ _ _ _) (fun _ h => h.elim) (fun k hk => Nat.le_trans ?eS hk) ?eB ?eS2 ?eL ?_; (case eO => ((with_reducible repeat (first | apply Kd.R_alloc | apply Kd.R_drew)); exact HR3c.out)); (case eR => exact ReadsRow.imp_ HC2.out (by (with_reducible repeat (first | apply below_alloc | apply below_drew1)); exact HB3.out) (fun _ _ h => h)); (case eS => first | exact HB3.out.size | (have := HB3.out.size; simp; omega)); (case eS2 => first | exact HB3.out.size | (have := HB3.out.size; simp; omega)); (case eB => ((with_reducible repeat (first | apply below_alloc | apply below_drew1)); exact HB3.out)); (case eL => (have := HTL.out; (try rw [List.length_append, List.length_singleton]); omega)); intro v4 w4 hr4 hb4 hg4 hat4; have HR4 := Aside0.mk hr4; have HB4 := Aside0.mk hb4; clear hr4 hb4 hg4 hat4 HR3c))
              all_goals (
                have HS3 : Aside0 (RefS w l0 (I + 1) v4 w4) := ⟨by
                  unfold RefS
                  rw [fold_take HX.out, HO.out.1]
                  unfold insE mv
                  rw [HP.out]
                  have h1 := HR4.out
                  have h2 := HS2.out.2.size
                  rw [List.append_assoc] at h1
                  exact ⟨Kd.R_mono (Kd.R_lower h1 h2) (fun k hk => Nat.le_trans h2 hk), below_then HS2.out.2 h2 HB4.out⟩⟩
                clear HS2 hcut1 hcut2 cx0 cx1 HC1 HC2 HR4 HB4
                go_wp2
                go_roundw
                case rel => first | exact ⟨I + 1, by go_num, by omega, HS3⟩ | ((repeat apply Exists.intro); exact ⟨⟨I + 1, by go_num, by omega, HS3⟩, rfl⟩)
                case measure => (simp [intOf]; omega))
      · have hltz : ¬ (I : Int) < (nl : Int) := by omega
        go_wp2
        go_ret
        have e1 : l0.take I = l0 := List.take_of_length_le (by have := HN.out; omega)
        have h1 := HS.out
        unfold RefS at h1
        rw [e1] at h1
        exact ⟨_, rfl, Kd.R_mono h1.1 (fun _ _ => trivial), h1.2⟩
  · rw [if_neg hl] at h; cases h
end Go.Proofs.Ytkmioljfjjmcpaa.P
