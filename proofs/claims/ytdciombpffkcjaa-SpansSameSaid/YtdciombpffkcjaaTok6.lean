/- The reference's tokenizer: what its stores leave; a row of one token; done. -/
import Derived.Test.YtdciombpffkcjaaTok3
import Derived.Test.YtdciombpffkcjaaTok5
namespace Go.Proofs.Ytdciombpffkcjaa.P
open Go.RowKit Go.Proofs.YtdciombpffkcjaaW.PrintWords Go.Proofs.YtdciombpffkcjaaW.PrintLast Go.Proofs.YtdciombpffkcjaaW.PrintMore Go.Proofs.Ytdciombpffkcjaa.Blk
set_option linter.unusedVariables false
set_option linter.unusedSimpArgs false
section
variable {w0 W W' : World} {g : Nat} {L : List S64} {At N Tx : Int} {La : ByteArray} {F : List S66} {Dn : Bool}
theorem ty64 {t : Nat} (ht : t = 58 ∨ t = 39) : ∀ q, q ∈ 64 :: k64.E → q ≠ t := fun q hq => by
  have hq2 : q ∈ [64] := hq
  rw [List.mem_singleton] at hq2
  rw [hq2]
  rcases ht with rfl | rfl <;> decide
theorem ty66 {t : Nat} (ht : t = 58 ∨ t = 39) : ∀ q, q ∈ 66 :: k66.E → q ≠ t := fun q hq => by
  have hq2 : q ∈ [66] := hq
  rw [List.mem_singleton] at hq2
  rw [hq2]
  rcases ht with rfl | rfl <;> decide
theorem TAt.setAt (h : TAt w0 W g L At N Tx La F Dn) (x : Int) : TAt w0 (W.setCell ⟨g, 1, none⟩ (.int .i64 x)) g L x N Tx La F Dn := by
  obtain ⟨vL, vF, h1, h2, h3, h4, h5⟩ := h
  exact ⟨vL, vF, h1.set_ 1 (.int .i64 x), Kd.R_set h2 h1 (ty64 (.inl rfl)) 1 _, Kd.R_set h3 h1 (ty66 (.inl rfl)) 1 _, h4, h5.setCell (p := ⟨g, 1, none⟩) h4 _⟩
theorem TAt.setTx (h : TAt w0 W g L At N Tx La F Dn) (x : Int) : TAt w0 (W.setCell ⟨g, 3, none⟩ (.int .i64 x)) g L At N x La F Dn := by
  obtain ⟨vL, vF, h1, h2, h3, h4, h5⟩ := h
  exact ⟨vL, vF, h1.set_ 3 (.int .i64 x), Kd.R_set h2 h1 (ty64 (.inl rfl)) 3 _, Kd.R_set h3 h1 (ty66 (.inl rfl)) 3 _, h4, h5.setCell (p := ⟨g, 3, none⟩) h4 _⟩
theorem TAt.setLa (h : TAt w0 W g L At N Tx La F Dn) (x : ByteArray) : TAt w0 (W.setCell ⟨g, 4, none⟩ (.string x)) g L At N Tx x F Dn := by
  obtain ⟨vL, vF, h1, h2, h3, h4, h5⟩ := h
  exact ⟨vL, vF, h1.set_ 4 (.string x), Kd.R_set h2 h1 (ty64 (.inl rfl)) 4 _, Kd.R_set h3 h1 (ty66 (.inl rfl)) 4 _, h4, h5.setCell (p := ⟨g, 4, none⟩) h4 _⟩
theorem TAt.setDn (h : TAt w0 W g L At N Tx La F Dn) (x : Bool) : TAt w0 (W.setCell ⟨g, 8, none⟩ (.bool x)) g L At N Tx La F x := by
  obtain ⟨vL, vF, h1, h2, h3, h4, h5⟩ := h
  exact ⟨vL, vF, h1.set_ 8 (.bool x), Kd.R_set h2 h1 (ty64 (.inl rfl)) 8 _, Kd.R_set h3 h1 (ty66 (.inl rfl)) 8 _, h4, h5.setCell (p := ⟨g, 8, none⟩) h4 _⟩
theorem TAt.drew1 (h : TAt w0 W g L At N Tx La F Dn) : TAt w0 W.drew g L At N Tx La F Dn := h.below (below_drew1 (Below.refl _ _))
theorem TAt.alloc (h : TAt w0 W g L At N Tx La F Dn) (o : Obj) : TAt w0 (W.alloc o) g L At N Tx La F Dn := h.below (below_alloc (Below.refl _ _) o)
theorem TAt.c1 (h : TAt w0 W g L At N Tx La F Dn) : W.cell? ⟨g, 1, none⟩ = some (.int .i64 At) := by
  obtain ⟨vL, vF, h1, _⟩ := h
  exact h1.cell 1
theorem TAt.c2 (h : TAt w0 W g L At N Tx La F Dn) : W.cell? ⟨g, 2, none⟩ = some (.int .i64 N) := by
  obtain ⟨vL, vF, h1, _⟩ := h
  exact h1.cell 2
theorem TAt.c3 (h : TAt w0 W g L At N Tx La F Dn) : W.cell? ⟨g, 3, none⟩ = some (.int .i64 Tx) := by
  obtain ⟨vL, vF, h1, _⟩ := h
  exact h1.cell 3
theorem TAt.c4 (h : TAt w0 W g L At N Tx La F Dn) : W.cell? ⟨g, 4, none⟩ = some (.string La) := by
  obtain ⟨vL, vF, h1, _⟩ := h
  exact h1.cell 4
theorem TAt.c7 (h : TAt w0 W g L At N Tx La F Dn) : W.cell? ⟨g, 7, none⟩ = some (.bool false) := by
  obtain ⟨vL, vF, h1, _⟩ := h
  exact h1.cell 7
theorem TAt.c8 (h : TAt w0 W g L At N Tx La F Dn) : W.cell? ⟨g, 8, none⟩ = some (.bool Dn) := by
  obtain ⟨vL, vF, h1, _⟩ := h
  exact h1.cell 8
theorem TAt.fr (h : TAt w0 W g L At N Tx La F Dn) (i : Nat) : W.frozen? ⟨g, i, none⟩ = false := by
  obtain ⟨vL, vF, h1, _⟩ := h
  exact h1.frozen i
theorem TAt.lt (h : TAt w0 W g L At N Tx La F Dn) : g < W.heap.size := by
  obtain ⟨vL, vF, h1, _⟩ := h
  exact h1.lt
theorem TAt.bel (h : TAt w0 W g L At N Tx La F Dn) : Below w0.heap.size w0 W := by
  obtain ⟨vL, vF, h1, h2, h3, h4, h5⟩ := h
  exact h5
theorem KT.setg (g i : Nat) (u : Value) (W : World) : KT g W (W.setCell ⟨g, i, none⟩ u) := ⟨by simp [World.setCell], fun k _ hk _ => Below.heap_setCell W ⟨g, i, none⟩ u k hk⟩
/-- rows of tokens stay -/
theorem KT.R (h : KT g W W') {b : Nat} {ok : Nat → Prop} {v : Value} {xs : List S39} (hr : Kd.R kT 39 W b ok v xs) (hg : Blk W g 58 #[]  ∨ ∃ cs, Blk W g 58 cs) : Kd.R kT 39 W' b ok v xs := by
  obtain ⟨cs, hb⟩ : ∃ cs, Blk W g 58 cs := by
    rcases hg with h | h
    · exact ⟨_, h⟩
    · exact h
  have hty : ∀ q, q ∈ 39 :: kT.E → q ≠ 58 ∧ q ≠ 66 := fun q hq => by
    have hq2 : q ∈ [39] := hq
    rw [List.mem_singleton] at hq2
    rw [hq2]
    decide
  refine Kd.R_mono (Kd.R_step (Kd.R_bound hr) (fun k hk hlt => ?_)) (fun _ hk => hk.1)
  obtain ⟨_, _, _, q, hq, cells, hc⟩ := hk
  have := hty q hq
  refine h.2 k hlt ?_ ?_
  · rintro rfl
    unfold Blk at hb
    rw [hc] at hb
    injection hb with hb
    injection hb with _ hb
    exact this.1 hb
  · rintro ⟨cells', hc'⟩
    rw [hc] at hc'
    injection hc' with hc'
    injection hc' with _ hc'
    exact this.2 hc'
theorem KT.Rt (h : KT g W W') {b : Nat} {ok : Nat → Prop} {v : Value} {xs : List S39} (hr : Kd.R kT 39 W b ok v xs) (ht : TAt w0 W g L At N Tx La F Dn) : Kd.R kT 39 W' b ok v xs := by
  obtain ⟨vL, vF, h1, _⟩ := ht
  exact h.R hr (.inr ⟨_, h1⟩)
/-- a row of one token -/
theorem R_one39 (W : World) {x : S39} {cs : List Value} (h : Tcs x cs) {base : Nat} {ok : Nat → Prop} (hb : base ≤ W.heap.size) (hok : ok W.heap.size) : Kd.R kT 39 (W.alloc (.cells cs.toArray 39)) base ok (.slice (some ⟨W.heap.size, 0, none⟩) 1 1) [x] := by
  have hl : cs.length = 8 := by rw [h.2]; rfl
  refine ⟨fun k hk => ?_, cs, ?_, ?_⟩
  · have : W.heap.size = k := by simpa [Value.ownBlock] using hk
    subst this
    exact hok
  · have h2 := World.ownsRow_lit (base := base) (e := 39) (size := 8) W cs.toArray 1 hb (by unfold maxLen; omega) (by simp [hl])
    simp only at h2
    exact h2
  · refine ⟨by rw [hl]; rfl, fun j p hj => ?_⟩
    match j, hj with
    | 0, hj =>
      simp at hj
      subst hj
      have : (cs.drop (0 * kT.sz)).take kT.sz = cs := by
        rw [Nat.zero_mul, List.drop_zero]
        exact List.take_of_length_le (by rw [hl]; exact Nat.le_refl _)
      rw [this]
      exact h
/-- a tag's token -/
def gtok (kind : Int) (nm : ByteArray) (a b : Int) : S39 := ⟨kind, 0, nm, ⟨#[]⟩, [], false, ⟨a, b⟩⟩
theorem gtok_cs (kind : Int) (nm : ByteArray) (a b : Int) : Tcs (gtok kind nm a b) [.int .i64 kind, .int .i64 0, .string nm, .string ⟨#[]⟩, .slice none 0 0, .bool false, .int .i64 a, .int .i64 b] := ⟨rfl, rfl⟩
set_option maxRecDepth 100000 in
set_option maxHeartbeats 2000000 in
theorem tdone2_calls (nm : ByteArray) (fr : Int) (h : TAt w0 W g L At N Tx La F Dn) (h0 : 0 ≤ fr) (h1 : fr < (L.length : Int)) (h2 : 1 ≤ At) (h3 : At ≤ (L.length : Int)) (hb : At ≤ 1000000000000) :
    Calls Try.prog 63 #[.pointer (some ⟨g, 0, none⟩), .int .i64 fr, .agg #[.int .i64 2, .int .i64 0, .string nm, .string ⟨#[]⟩, .slice none 0 0, .bool false, .int .i64 0, .int .i64 0]] W fun e w' =>
      ∃ v, e = .returned v ∧ Kd.R kT 39 w' W.heap.size (fun k => W.heap.size ≤ k) v [gtok 2 nm (rd_T64 L fr).f1 (rd_T64 L (At - 1)).f2] ∧ TAt w0 w' g L At N 0 nm F Dn ∧ KT g W w' := by
  have HT := Aside0.mk h
  obtain ⟨vL, vF, g1, g2, g3, g4, g5⟩ := h
  obtain ⟨A, c, rfl, hlc, hC⟩ := Kd.R_reads g2
  obtain ⟨ad, rfl, e0, e1, e2⟩ := at_T64 hC fr h0 h1
  have H2 := Aside0.mk h2
  have H3 := Aside0.mk h3
  have Hb := Aside0.mk hb
  obtain ⟨E, hE⟩ : ∃ E, (rd_T64 L (At - 1)).f2 = E := ⟨_, rfl⟩
  have HE := Aside0.mk hE
  rw [hE]
  generalize (rd_T64 L fr).f1 = X at *
  have c0 : W.cell? ⟨g, 0, none⟩ = some (.slice (some ad) L.length c) := g1.cell 0
  have hbx := Blk.new W 39 #[.int .i64 2, .int .i64 0, .string nm, .string ⟨#[]⟩, .slice none 0 0, .bool false, .int .i64 0, .int .i64 0]
  have hba := below_alloc (Below.refl W.heap.size W) (.cells #[.int .i64 2, .int .i64 0, .string nm, .string ⟨#[]⟩, .slice none 0 0, .bool false, .int .i64 0, .int .i64 0] 39)
  have HBX := Aside0.mk hbx
  have HBA := Aside0.mk hba
  have C0 := Aside0.mk c0
  have C1 := Aside0.mk e1
  have q0 := pw_cell_below hba c0
  have q1 := pw_cell_below hba e1
  have hcap : L.length ≤ c := hlc
  clear g1 g2 g3 g4 g5 hC hlc h2 h3 hb hE e0 e2 hbx hba c0 e1
  go_enter Try.func63, Try.ntmps63
  go_upto_region 1 with (fail)
  go_region_held3 (fun w' => w'.cell? ⟨g, 0, none⟩ = some (.slice (some ad) L.length c) ∧ w'.cell? ⟨(ad.add (fr.toNat * 3)).block, (ad.add (fr.toNat * 3)).off + 1, none⟩ = some (.int .i64 X)) (first | go_keep | exact ⟨pw_cell_below HB2.out q0, pw_cell_below HB2.out q1⟩ | exact ⟨pw_cell_below ((HBW.out.setCell (p := ⟨W.heap.size, 6, none⟩) (Nat.le_refl _) _).setCell (p := ⟨W.heap.size, 7, none⟩) (Nat.le_refl _) _) C0.out, pw_cell_below ((HBW.out.setCell (p := ⟨W.heap.size, 6, none⟩) (Nat.le_refl _) _).setCell (p := ⟨W.heap.size, 7, none⟩) (Nat.le_refl _) _) C1.out⟩) ((go_at_call 36; refine (tend_calls ((HT.out.alloc _).drew1) H2.out H3.out Hb.out).mono ?_; rw [HE.out]; rintro e w2 ⟨rfl, hb2⟩; have HB2 := Aside0.mk hb2; have HBW := Aside0.mk (belowTr (below_drew1 HBA.out) hb2 (by simp)); have B2 := Aside0.mk (HBX.out.drew.below hb2 HBX.out.drew.lt); have d6 := B2.out.cell 6; have d7 := B2.out.cell 7; have f6 := B2.out.frozen 6; have f7 := B2.out.frozen 7; clear hb2))
  obtain ⟨w3, hw3⟩ : ∃ w3, (w2.setCell ⟨W.heap.size, 6, none⟩ (.int .i64 X)).setCell ⟨W.heap.size, 7, none⟩ (.int .i64 E) = w3 := ⟨_, rfl⟩
  have hb3 : Below W.heap.size W w3 := by
    rw [← hw3]
    exact (HBW.out.setCell (p := ⟨W.heap.size, 6, none⟩) (Nat.le_refl _) _).setCell (p := ⟨W.heap.size, 7, none⟩) (Nat.le_refl _) _
  have B3 : Blk w3 W.heap.size 39 #[.int .i64 2, .int .i64 0, .string nm, .string ⟨#[]⟩, .slice none 0 0, .bool false, .int .i64 X, .int .i64 E] := by
    rw [← hw3]
    exact (B2.out.set_ 6 (.int .i64 X)).set_ 7 (.int .i64 E)
  rw [hw3]
  clear hw3 d6 d7 f6 f7
  have T3 := HT.out.below hb3
  have hgb : W.heap.size ≠ g := Nat.ne_of_gt HT.out.lt
  have T4 := T3.setTx 0
  have B4 := B3.far (p := ⟨g, 3, none⟩) hgb (.int .i64 0)
  have B5 := B4.far (p := ⟨g, 4, none⟩) hgb (.string nm)
  have T5 := T4.setLa nm
  have hs5 : ((w3.setCell ⟨g, 3, none⟩ (.int .i64 0)).setCell ⟨g, 4, none⟩ (.string nm)).heap.size = w3.heap.size := by simp [World.setCell]
  have hW3 := hb3.size
  have HFin := Aside0.mk (show Kd.R kT 39 (((w3.setCell ⟨g, 3, none⟩ (.int .i64 0)).setCell ⟨g, 4, none⟩ (.string nm)).alloc (.cells #[.int .i64 2, .int .i64 0, .string nm, .string ⟨#[]⟩, .slice none 0 0, .bool false, .int .i64 X, .int .i64 E] 39)) W.heap.size (fun k => W.heap.size ≤ k) (.slice (some ⟨w3.heap.size, 0, none⟩) 1 1) [gtok 2 nm X E] by
    have := R_one39 ((w3.setCell ⟨g, 3, none⟩ (.int .i64 0)).setCell ⟨g, 4, none⟩ (.string nm)) (gtok_cs 2 nm X E) (base := W.heap.size) (ok := fun k => W.heap.size ≤ k) (by omega) (by omega)
    rwa [hs5] at this)
  have HTA := Aside0.mk (T5.alloc (.cells #[.int .i64 2, .int .i64 0, .string nm, .string ⟨#[]⟩, .slice none 0 0, .bool false, .int .i64 X, .int .i64 E] 39))
  have HKT := Aside0.mk (((KT.of_below (g := g) hb3).trans ((KT.setg g 3 (.int .i64 0) w3).trans (KT.setg g 4 (.string nm) _))).trans (KT.of_below (below_alloc (Below.refl _ _) (.cells #[.int .i64 2, .int .i64 0, .string nm, .string ⟨#[]⟩, .slice none 0 0, .bool false, .int .i64 X, .int .i64 E] 39))))
  have a3 := T3.c3
  have b3 := T3.fr 3
  have a4 := T4.c4
  have b4 := T4.fr 4
  have x0 := B4.cell 0
  have x2 := B4.cell 2
  have y0 := B5.cell 0
  have y1 := B5.cell 1
  have y2 := B5.cell 2
  have y3 := B5.cell 3
  have y4 := B5.cell 4
  have y5 := B5.cell 5
  have y6 := B5.cell 6
  have y7 := B5.cell 7
  clear T3 T4 T5 B3 B4 B5 hb3 hW3 B2 HBX HBA HBW HB2 q0 q1
  go_wp2
  go_ret
  exact ⟨_, rfl, HFin.out, HTA.out, HKT.out⟩
set_option maxRecDepth 100000 in
set_option maxHeartbeats 2000000 in
theorem tdone3_calls (nm : ByteArray) (fr : Int) (h : TAt w0 W g L At N Tx La F Dn) (h0 : 0 ≤ fr) (h1 : fr < (L.length : Int)) (h2 : 1 ≤ At) (h3 : At ≤ (L.length : Int)) (hb : At ≤ 1000000000000) :
    Calls Try.prog 63 #[.pointer (some ⟨g, 0, none⟩), .int .i64 fr, .agg #[.int .i64 3, .int .i64 0, .string nm, .string ⟨#[]⟩, .slice none 0 0, .bool false, .int .i64 0, .int .i64 0]] W fun e w' =>
      ∃ v, e = .returned v ∧ Kd.R kT 39 w' W.heap.size (fun k => W.heap.size ≤ k) v [gtok 3 nm (rd_T64 L fr).f1 (rd_T64 L (At - 1)).f2] ∧ TAt w0 w' g L At N 0 La F Dn ∧ KT g W w' := by
  have HT := Aside0.mk h
  obtain ⟨vL, vF, g1, g2, g3, g4, g5⟩ := h
  obtain ⟨A, c, rfl, hlc, hC⟩ := Kd.R_reads g2
  obtain ⟨ad, rfl, e0, e1, e2⟩ := at_T64 hC fr h0 h1
  have H2 := Aside0.mk h2
  have H3 := Aside0.mk h3
  have Hb := Aside0.mk hb
  obtain ⟨E, hE⟩ : ∃ E, (rd_T64 L (At - 1)).f2 = E := ⟨_, rfl⟩
  have HE := Aside0.mk hE
  rw [hE]
  generalize (rd_T64 L fr).f1 = X at *
  have c0 : W.cell? ⟨g, 0, none⟩ = some (.slice (some ad) L.length c) := g1.cell 0
  have hbx := Blk.new W 39 #[.int .i64 3, .int .i64 0, .string nm, .string ⟨#[]⟩, .slice none 0 0, .bool false, .int .i64 0, .int .i64 0]
  have hba := below_alloc (Below.refl W.heap.size W) (.cells #[.int .i64 3, .int .i64 0, .string nm, .string ⟨#[]⟩, .slice none 0 0, .bool false, .int .i64 0, .int .i64 0] 39)
  have HBX := Aside0.mk hbx
  have HBA := Aside0.mk hba
  have C0 := Aside0.mk c0
  have C1 := Aside0.mk e1
  have q0 := pw_cell_below hba c0
  have q1 := pw_cell_below hba e1
  have hcap : L.length ≤ c := hlc
  clear g1 g2 g3 g4 g5 hC hlc h2 h3 hb hE e0 e2 hbx hba c0 e1
  go_enter Try.func63, Try.ntmps63
  go_upto_region 1 with (fail)
  go_region_held3 (fun w' => w'.cell? ⟨g, 0, none⟩ = some (.slice (some ad) L.length c) ∧ w'.cell? ⟨(ad.add (fr.toNat * 3)).block, (ad.add (fr.toNat * 3)).off + 1, none⟩ = some (.int .i64 X)) (first | go_keep | exact ⟨pw_cell_below HB2.out q0, pw_cell_below HB2.out q1⟩ | exact ⟨pw_cell_below ((HBW.out.setCell (p := ⟨W.heap.size, 6, none⟩) (Nat.le_refl _) _).setCell (p := ⟨W.heap.size, 7, none⟩) (Nat.le_refl _) _) C0.out, pw_cell_below ((HBW.out.setCell (p := ⟨W.heap.size, 6, none⟩) (Nat.le_refl _) _).setCell (p := ⟨W.heap.size, 7, none⟩) (Nat.le_refl _) _) C1.out⟩) ((go_at_call 36; refine (tend_calls ((HT.out.alloc _).drew1) H2.out H3.out Hb.out).mono ?_; rw [HE.out]; rintro e w2 ⟨rfl, hb2⟩; have HB2 := Aside0.mk hb2; have HBW := Aside0.mk (belowTr (below_drew1 HBA.out) hb2 (by simp)); have B2 := Aside0.mk (HBX.out.drew.below hb2 HBX.out.drew.lt); have d6 := B2.out.cell 6; have d7 := B2.out.cell 7; have f6 := B2.out.frozen 6; have f7 := B2.out.frozen 7; clear hb2))
  obtain ⟨w3, hw3⟩ : ∃ w3, (w2.setCell ⟨W.heap.size, 6, none⟩ (.int .i64 X)).setCell ⟨W.heap.size, 7, none⟩ (.int .i64 E) = w3 := ⟨_, rfl⟩
  have hb3 : Below W.heap.size W w3 := by
    rw [← hw3]
    exact (HBW.out.setCell (p := ⟨W.heap.size, 6, none⟩) (Nat.le_refl _) _).setCell (p := ⟨W.heap.size, 7, none⟩) (Nat.le_refl _) _
  have B3 : Blk w3 W.heap.size 39 #[.int .i64 3, .int .i64 0, .string nm, .string ⟨#[]⟩, .slice none 0 0, .bool false, .int .i64 X, .int .i64 E] := by
    rw [← hw3]
    exact (B2.out.set_ 6 (.int .i64 X)).set_ 7 (.int .i64 E)
  rw [hw3]
  clear hw3 d6 d7 f6 f7
  have T3 := HT.out.below hb3
  have hgb : W.heap.size ≠ g := Nat.ne_of_gt HT.out.lt
  have T4 := T3.setTx 0
  have B4 := B3.far (p := ⟨g, 3, none⟩) hgb (.int .i64 0)
  have hs5 : (w3.setCell ⟨g, 3, none⟩ (.int .i64 0)).heap.size = w3.heap.size := by simp [World.setCell]
  have hW3 := hb3.size
  have HFin := Aside0.mk (show Kd.R kT 39 ((w3.setCell ⟨g, 3, none⟩ (.int .i64 0)).alloc (.cells #[.int .i64 3, .int .i64 0, .string nm, .string ⟨#[]⟩, .slice none 0 0, .bool false, .int .i64 X, .int .i64 E] 39)) W.heap.size (fun k => W.heap.size ≤ k) (.slice (some ⟨w3.heap.size, 0, none⟩) 1 1) [gtok 3 nm X E] by
    have := R_one39 (w3.setCell ⟨g, 3, none⟩ (.int .i64 0)) (gtok_cs 3 nm X E) (base := W.heap.size) (ok := fun k => W.heap.size ≤ k) (by omega) (by omega)
    rwa [hs5] at this)
  have HTA := Aside0.mk (T4.alloc (.cells #[.int .i64 3, .int .i64 0, .string nm, .string ⟨#[]⟩, .slice none 0 0, .bool false, .int .i64 X, .int .i64 E] 39))
  have HKT := Aside0.mk (((KT.of_below (g := g) hb3).trans (KT.setg g 3 (.int .i64 0) w3)).trans (KT.of_below (below_alloc (Below.refl _ _) (.cells #[.int .i64 3, .int .i64 0, .string nm, .string ⟨#[]⟩, .slice none 0 0, .bool false, .int .i64 X, .int .i64 E] 39))))
  have a3 := T3.c3
  have b3 := T3.fr 3
  have y0 := B4.cell 0
  have y1 := B4.cell 1
  have y2 := B4.cell 2
  have y3 := B4.cell 3
  have y4 := B4.cell 4
  have y5 := B4.cell 5
  have y6 := B4.cell 6
  have y7 := B4.cell 7
  clear T3 T4 B3 B4 hb3 hW3 B2 HBX HBA HBW HB2 q0 q1
  go_wp2
  go_ret
  exact ⟨_, rfl, HFin.out, HTA.out, HKT.out⟩
end
end Go.Proofs.Ytdciombpffkcjaa.P
