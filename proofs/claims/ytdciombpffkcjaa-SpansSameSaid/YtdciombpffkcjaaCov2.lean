/- Parts as they lie; classes; spans' put and cover. -/
import Derived.Test.YtdciombpffkcjaaTok4
import Derived.Test.YtdciombpffkcjaaTok2
import Derived.Test.YtdciombpffkcjaaPx9
import Derived.Test.YtdciombpffkcjaaTok11
import Derived.BigRegion
namespace Go.Proofs.Ytdciombpffkcjaa.P
open Go.RowKit Go.Proofs.YtdciombpffkcjaaW.PrintWords Go.Proofs.YtdciombpffkcjaaW.PrintLast Go.Proofs.YtdciombpffkcjaaW.PrintMore Go.Proofs.Ytdciombpffkcjaa.Blk
set_option linter.unusedVariables false
set_option linter.unusedSimpArgs false
/-- a token's class -/
def cls (t : S39) : Int := if t.f0 = 2 ∨ t.f0 = 3 then 2 else if t.f0 = 4 then 3 else if t.f0 = 5 then 4 else if t.f0 = 1 then (if t.f5 = true then 5 else 1) else 0
theorem class_f (t : S39) : tokens_Class.f 1 t.f0 t.f1 t.f2 t.f3 t.f4 t.f5 t.f6.f0 t.f6.f1 = some (cls t) := by
  unfold tokens_Class.f cls
  by_cases h2 : t.f0 = 2
  · rw [if_pos h2, if_pos (.inl h2)]
    simp [tokens_Class.j0, h2]
  · rw [if_neg h2]
    by_cases h3 : t.f0 = 3
    · rw [if_pos (.inr h3)]
      simp [tokens_Class.j0, h3]
    · rw [if_neg (by rintro (h | h) <;> contradiction)]
      have : (t.f0 == 3) = false := beq_eq_false_iff_ne.mpr h3
      simp only [tokens_Class.j0, this]
      rw [if_neg (by decide)]
      split
      · rfl
      · split
        · rfl
        · split
          · split <;> rfl
          · rfl
set_option maxRecDepth 100000 in
set_option maxHeartbeats 1000000 in
theorem class_ref (t : S39) (A4 : Option Addr) (c4 n4 : Nat) (w : World) :
    Calls Try.prog 19 #[.agg #[.int .i64 t.f0, .int .i64 t.f1, .string t.f2, .string t.f3, .slice A4 n4 c4, .bool t.f5, .int .i64 t.f6.f0, .int .i64 t.f6.f1]] w fun e w' => e = .returned (.int .i64 (cls t)) ∧ Below w.heap.size w w' := by
  obtain ⟨c, hc⟩ : ∃ c, cls t = c := ⟨_, rfl⟩
  rw [hc]
  have HC := Aside0.mk hc
  have HB := Aside0.mk (below_alloc (Below.refl w.heap.size w) (.cells #[.int .i64 t.f0, .int .i64 t.f1, .string t.f2, .string t.f3, .slice A4 n4 c4, .bool t.f5, .int .i64 t.f6.f0, .int .i64 t.f6.f1] 39))
  clear hc
  go_enter Try.func19, Try.ntmps19
  go_wp2
  all_goals (
    go_ret
    refine ⟨?_, HB.out⟩
    rw [← HC.out]
    unfold cls
    congr 2
    simp_all <;> omega)
set_option linter.unusedVariables false
set_option linter.unusedSimpArgs false
theorem inf42 : (Try.prog.info? 42).map (fun i => (i.zero, i.size, i.bytes)) = some (some (.agg #[.int .i64 0, .int .i64 0, .int .i64 0]), 3, 24) := by kernel_rfl
/-- the last part -/
def lastP (xs : List S42) : S42 := xs.getD (xs.length - 1) z42
/-- the last part goes on -/
def longer (xs : List S42) (up : Int) : List S42 := xs.set (xs.length - 1) ⟨⟨(lastP xs).f0.f0, up⟩, (lastP xs).f1⟩
def putX (xs : List S42) (at_ up cl : Int) : List S42 × Int :=
  if up ≤ at_ then (xs, at_) else if xs ≠ [] ∧ cl = 1 ∧ (lastP xs).f1 = 1 then (longer xs up, up) else (xs ++ [⟨⟨at_, up⟩, cl⟩], up)
section
variable {w0 W W' : World} {g base : Nat} {xs : List S42} {at_ : Int}
theorem part_last {ok : Nat → Prop} {v : Value} (h : Kd.R k42 42 W base ok v xs) {k : Nat} (hk : xs.length = k + 1) : ∃ r cap, v = .slice (some ⟨r, 0, none⟩) (k + 1) cap ∧ base ≤ r ∧ r < W.heap.size ∧ ok r ∧ k + 1 ≤ cap ∧
    W.cell? ⟨r, k * 3, none⟩ = some (.int .i64 (lastP xs).f0.f0) ∧ W.cell? ⟨r, k * 3 + 1, none⟩ = some (.int .i64 (lastP xs).f0.f1) ∧ W.cell? ⟨r, k * 3 + 2, none⟩ = some (.int .i64 (lastP xs).f1) ∧
    W.frozen? ⟨r, k * 3 + 1, none⟩ = false ∧
    ∀ up : Int, Kd.R k42 42 (W.setCell ⟨r, k * 3 + 1, none⟩ (.int .i64 up)) base ok v (longer xs up) ∧ W.grownBy (W.setCell ⟨r, k * 3 + 1, none⟩ (.int .i64 up)) (some r) := by
  have hk1 : xs.length - 1 = k := by omega
  obtain ⟨r, cap, rfl, hb, hlt, _⟩ := Kd.R_form h (by omega)
  rw [hk] at h ⊢
  have hok : ok r := h.1 r (by simp [Value.ownBlock])
  have hcap := (Kd.R_reads' h).2.1
  obtain ⟨c, hcl, hM, hcc, hf⟩ := Kd.R_elem h z42 (k : Int) (by omega) (by omega)
  rw [Int.toNat_natCast] at hM hcc hf
  have hlast : lastP xs = xs.getD k z42 := by unfold lastP; rw [hk1]
  rw [← hlast] at hM
  have hc := k42_openM hM
  have hsz : k42.sz = 3 := rfl
  rw [hsz] at hcc hf
  refine ⟨r, cap, rfl, hb, hlt, hok, hcap, ?_, ?_, ?_, hf 1, fun up => ?_⟩
  · exact hcc 0 (.int .i64 (lastP xs).f0.f0) (by rw [hc]; rfl)
  · exact hcc 1 _ (by rw [hc]; rfl)
  · exact hcc 2 _ (by rw [hc]; rfl)
  · have := Kd.R_seg h (k : Int) (by omega) (by omega) (c := c) (seg := [.int .i64 up]) (j := 1) (x' := ⟨⟨(lastP xs).f0.f0, up⟩, (lastP xs).f1⟩) (okp := fun _ => False) hcl (by rw [Int.toNat_natCast]; exact hcc) (by rw [hsz]; simp) (by rw [hc]; exact k42_mkM W base _ ⟨⟨(lastP xs).f0.f0, up⟩, (lastP xs).f1⟩) (fun _ hk => hk.elim)
    rw [Int.toNat_natCast] at this
    unfold longer
    rw [hk1]
    exact this
theorem part_row {b : Nat} {x : S42} (hb : Blk W b 42 #[.int .i64 x.f0.f0, .int .i64 x.f0.f1, .int .i64 x.f1]) : ReadsRow (fun (x : S42) cs => cs = [Value.int .i64 x.f0.f0, Value.int .i64 x.f0.f1, Value.int .i64 x.f1]) k42.sz W (some ⟨b, 0, none⟩) 1 [x] := by
  refine ⟨rfl, by omega, fun _ => ⟨_, rfl, fun j p hj => ?_⟩⟩
  match j, hj with
  | 0, hj =>
    simp at hj
    subst hj
    refine ⟨[.int .i64 x.f0.f0, .int .i64 x.f0.f1, .int .i64 x.f1], rfl, rfl, fun i u' hi => ?_⟩
    have he : (⟨b, 0, none⟩ : Addr).add (0 * k42.sz + i) = ⟨b, i, none⟩ := by rw [Nat.zero_mul, Nat.zero_add, add_plain]
    rw [he, hb.cell i]
    simpa using hi
/-- spans' cover as it lies -/
def CovAt (w0 W : World) (g : Nat) (xs : List S42) (at_ : Int) : Prop :=
  ∃ vl, Blk W g 45 #[vl, .int .i64 at_] ∧ Kd.R k42 42 W w0.heap.size (fun _ => True) vl xs ∧ w0.heap.size ≤ g ∧ Below w0.heap.size w0 W
theorem CovAt.below (h : CovAt w0 W g xs at_) (hb : Below W.heap.size W W') : CovAt w0 W' g xs at_ := by
  obtain ⟨vl, h1, h2, h3, h4⟩ := h
  exact ⟨vl, h1.below hb h1.lt, Kd.R_below h2 hb, h3, below_then h4 h4.size hb⟩
theorem ty42 : ∀ q, q ∈ 42 :: k42.E → q ≠ 45 := fun q hq => by
  have hq2 : q ∈ [42] := hq
  rw [List.mem_singleton] at hq2
  rw [hq2]
  decide
set_option maxRecDepth 100000 in
set_option maxHeartbeats 2000000 in
theorem put_calls (up cl : Int) (h : CovAt w0 W g xs at_) (hl : xs.length ≤ 100000) : Calls Try.prog 18 #[.pointer (some ⟨g, 0, none⟩), .int .i64 up, .int .i64 cl] W fun e w' =>
    e = .returned (.tuple #[]) ∧ CovAt w0 w' g (putX xs at_ up cl).1 (putX xs at_ up cl).2 := by
  have HH := Aside0.mk h
  obtain ⟨vl, h1, h2, h3, h4⟩ := h
  have c1 : W.cell? ⟨g, 1, none⟩ = some (.int .i64 at_) := h1.cell 1
  by_cases hto : up ≤ at_
  · have e : putX xs at_ up cl = (xs, at_) := if_pos hto
    rw [e]
    clear h1 h2 h3 h4 e
    go_enter Try.func18, Try.ntmps18
    go_wp2
    refine bodyPost_ret (results_none rfl _ _ _) rfl ?_
    exact ⟨rfl, HH.out⟩
  · have f1 := h1.frozen 1
    have hlt := h1.lt
    have hgb : W.heap.size ≠ g := Nat.ne_of_gt hlt
    obtain ⟨Al, cl0, hv⟩ := Kd.R_slice h2
    subst hv
    have hb1 := (h1.alloc (.cells #[.int .i64 at_, .int .i64 up, .int .i64 cl] 42))
    have q1 : (W.alloc (.cells #[.int .i64 at_, .int .i64 up, .int .i64 cl] 42)).cell? ⟨g, 1, none⟩ = some (.int .i64 at_) := hb1.cell 1
    have qf := hb1.frozen 1
    have HC2 := Aside0.mk (show CovAt w0 ((W.setCell ⟨g, 1, none⟩ (.int .i64 up)).alloc (.cells #[.int .i64 at_, .int .i64 up, .int .i64 cl] 42)) g xs up from
      ⟨_, (h1.set_ 1 (.int .i64 up)).alloc _, Kd.R_alloc (Kd.R_set h2 h1 ty42 1 _) _, h3, (h4.setCell (p := ⟨g, 1, none⟩) h3 _).alloc (by simpa [World.setCell] using h4.size) _⟩)
    have hsz : (W.setCell ⟨g, 1, none⟩ (.int .i64 up)).heap.size = W.heap.size := by simp [World.setCell]
    have hbx := Blk.new (W.setCell ⟨g, 1, none⟩ (.int .i64 up)) 42 #[.int .i64 at_, .int .i64 up, .int .i64 cl]
    rw [hsz] at hbx
    have HBx := Aside0.mk hbx
    clear hbx hsz
    obtain ⟨n, hn⟩ : ∃ n, xs.length = n := ⟨_, rfl⟩
    rw [hn] at hl
    have HN := Aside0.mk hn
    have hto' : ¬ up ≤ at_ := hto
    clear h1 h2 h3 h4 hb1 hn
    by_cases hm : xs ≠ [] ∧ cl = 1 ∧ (lastP xs).f1 = 1
    · obtain ⟨m1, m2, m3⟩ := hm
      subst m2
      obtain ⟨k, hk⟩ : ∃ k, n = k + 1 := ⟨n - 1, by
        have := HN.out
        cases xs with
        | nil => exact absurd rfl m1
        | cons y ys =>
          simp at this
          omega⟩
      subst hk
      have HE := Aside0.mk (show putX xs at_ up 1 = (longer xs up, up) by unfold putX; rw [if_neg hto, if_pos ⟨m1, rfl, m3⟩])
      go_enter Try.func18, Try.ntmps18
      go_upto_region 3 with (fail)
      obtain ⟨W2, hW2⟩ : ∃ W2, (W.setCell ⟨g, 1, none⟩ (.int .i64 up)).alloc (.cells #[.int .i64 at_, .int .i64 up, .int .i64 1] 42) = W2 := ⟨_, rfl⟩
      rw [hW2] at HC2 HBx ⊢
      clear hW2 c1 f1 q1 qf hgb hlt
      obtain ⟨vl, B2, R2, G2, L2⟩ := HC2.out
      obtain ⟨r, cap, rfl, hrb, hrl, _, hcap, e0, e1, e2, fr, hset⟩ := part_last R2 HN.out
      rw [m3] at e2
      have d0 : W2.cell? ⟨g, 0, none⟩ = some (.slice (some ⟨r, 0, none⟩) (k + 1) cap) := B2.cell 0
      obtain ⟨R3, G3⟩ := hset up
      have hrg : g ≠ r := fun e => by
        have := Kd.R_ne R2 B2 (by decide)
        simp [Value.ownBlock, e] at this
      have HF := Aside0.mk (show CovAt w0 (W2.setCell ⟨r, k * 3 + 1, none⟩ (.int .i64 up)) g (longer xs up) up from
        ⟨_, B2.far (p := ⟨r, k * 3 + 1, none⟩) hrg _, R3, G2, L2.setCell (p := ⟨r, k * 3 + 1, none⟩) hrb _⟩)
      clear hset R3 G3 B2 R2 G2 L2 HC2 HBx HH
      go_wp2
      refine bodyPost_ret (results_none rfl _ _ _) rfl ?_
      rw [HE.out]
      exact ⟨rfl, HF.out⟩
    · have HE := Aside0.mk (show putX xs at_ up cl = (xs ++ [⟨⟨at_, up⟩, cl⟩], up) by unfold putX; rw [if_neg hto, if_neg hm])
      have HM := Aside0.mk hm
      have HTO := Aside0.mk hto
      go_enter Try.func18, Try.ntmps18
      go_upto_region 3 with (fail)
      obtain ⟨W2, hW2⟩ : ∃ W2, (W.setCell ⟨g, 1, none⟩ (.int .i64 up)).alloc (.cells #[.int .i64 at_, .int .i64 up, .int .i64 cl] 42) = W2 := ⟨_, rfl⟩
      rw [hW2] at HC2 HBx ⊢
      clear hW2 c1 f1 q1 qf hgb hlt hm
      obtain ⟨vl, B2, R2, G2, L2⟩ := HC2.out
      obtain ⟨A2, c2, e2⟩ := Kd.R_slice R2
      rw [HN.out] at e2
      subst e2
      have d0 : W2.cell? ⟨g, 0, none⟩ = some (.slice A2 n c2) := B2.cell 0
      have H2 := Aside0.mk (And.intro B2 (And.intro R2 (And.intro G2 L2)))
      clear B2 R2 G2 L2
      go_upto_region 4 with (fail)
      go_cut [49] (fun v wz => v = .bool false ∧ W2 = wz)
      case first =>
        by_cases hn0 : n = 0
        · subst hn0
          go_wp2
          go_meet
          case rel => exact ⟨rfl, rfl⟩
        · obtain ⟨k, hk⟩ : ∃ k, n = k + 1 := ⟨n - 1, by omega⟩
          subst hk
          by_cases hc1 : cl = 1
          · subst hc1
            obtain ⟨r, cap, hv, hrb, hrl, _, hcap, e0, e1, e2, fr, hset⟩ := part_last H2.out.2.1 HN.out
            cases hv
            have hl1 : ((lastP xs).f1 == 1) = false := beq_eq_false_iff_ne.mpr (fun h => HM.out ⟨by rintro rfl; have := HN.out; simp at this, rfl, h⟩)
            clear hset
            go_wp2
            go_meet
            case rel => exact ⟨rfl, rfl⟩
          · have hq : (cl == 1) = false := beq_eq_false_iff_ne.mpr hc1
            go_wp2
            go_meet
            case rel => exact ⟨rfl, rfl⟩
      case rest =>
        obtain ⟨rfl, rfl⟩ := hcut
        have x0 := HBx.out.cell 0
        have x1 := HBx.out.cell 1
        have x2 := HBx.out.cell 2
        have N1 := Aside0.mk trivial
        have d0a := pw_cell_below (below_alloc (Below.refl W2.heap.size W2) (.cells #[.int .i64 at_, .int .i64 up, .int .i64 cl] 42)) d0
        go_upto_region 6 with (fail)
        go_region_law (first
          | ((have gA := N1.out; clear gA N1); refine law_frame (a' := ?_) ?_ ?_; rotate_left; (focus ((try simp only [Act.put, List.getElem_toArray, List.getElem_cons_zero, List.getElem_cons_succ, List.setIfInBounds_toArray, List.set_cons_zero, List.set_cons_succ]); rfl)); refine Kd.R_append_rows_step k42 (Rr := fun x cs => cs = [Value.int .i64 x.f0.f0, Value.int .i64 x.f0.f1, Value.int .i64 x.f1]) (w0 := w0) w0.heap.size rfl (.tmp 64) (.tmp 66) 24 42 (.agg #[.int .i64 0, .int .i64 0, .int .i64 0]) 24 rfl Try.underlying24 inf42 rfl (by decide) (by decide) (.slice A2 n c2) xs [⟨⟨at_, up⟩, cl⟩] (some ⟨W2.heap.size, 0, none⟩) 1 1 (fun _ => True) (fun _ => False) rfl rfl ?aO ?aR (fun x cs h => by rw [h]; exact k42_mkM _ _ _ _) (fun _ h => h.elim) (fun _ _ => trivial) ?aB ?aS2 (by have := HN.out; omega) ?_; (case aO => ((with_reducible repeat (first | apply Kd.R_alloc | apply Kd.R_drew | apply Kd.R_drewN)); exact H2.out.2.1)); (case aR => (refine part_row ?_; exact Blk.new _ _ _)); (case aS2 => (have := H2.out.2.2.2.size; simp; omega)); (case aB => ((with_reducible repeat (first | apply below_alloc | apply below_drew1 | apply pw_below_drewN)); exact H2.out.2.2.2)); intro v2 w2 hr2 hb2 hg2 hat2; obtain ⟨A3, c3, e3⟩ := Kd.R_slice hr2; obtain ⟨n3, hn3⟩ : ∃ n, (xs ++ [(⟨⟨at_, up⟩, cl⟩ : S42)]).length = n := ⟨_, rfl⟩; rw [hn3] at e3; subst e3; have BX : Blk w2 g 45 #[.slice A2 n c2, .int .i64 up] := (by refine Blk.grown ?_ hg2 (Kd.R_ne H2.out.2.1 H2.out.1 (by decide)); ((with_reducible repeat (first | apply Blk.alloc | apply Blk.drew | apply Blk.drewN)); exact H2.out.1)); have s0 := BX.cell 0; have sf := BX.frozen 0; have HF := Aside0.mk (show CovAt w0 (w2.setCell ⟨g, 0, none⟩ (.slice A3 n3 c3)) g (xs ++ [⟨⟨at_, up⟩, cl⟩]) up from ⟨_, BX.set_ 0 _, Kd.R_set hr2 BX ty42 0 _, H2.out.2.2.1, hb2.setCell (p := ⟨g, 0, none⟩) H2.out.2.2.1 _⟩); clear hr2 hb2 hg2 hat2 hn3 BX))
        all_goals (
          go_wp2
          go_end0
          rw [HE.out]
          exact ⟨rfl, HF.out⟩)
end
end Go.Proofs.Ytdciombpffkcjaa.P
