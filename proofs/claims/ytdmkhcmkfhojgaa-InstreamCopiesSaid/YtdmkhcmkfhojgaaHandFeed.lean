/- utf8in: Feed. -/
import Derived.Test.YtdmkhcmkfhojgaaHandTold
import Derived.BigQuiet
import Derived.Deep.DeepMust
import Derived.Deep.RegionLaw
namespace Go.Proofs.Ytdmkhcmkfhojgaa.P
open Go.RowKit Go.Proofs.YtdmkhcmkfhojgaaW.PrintWords Go.Proofs.YtdmkhcmkfhojgaaW.PrintLast Go.Proofs.YtdmkhcmkfhojgaaW.PrintMore Go.Proofs.Ytdmkhcmkfhojgaa.Blk
set_option linter.unusedVariables false

section
variable {w w1 : World} {g : Nat} {d : Dec}
theorem DecAt.alloc (h : DecAt w g d) (o : Obj) : DecAt (w.alloc o) g d := Blk.alloc h o
theorem DecAt.drew (h : DecAt w g d) : DecAt w.drew g d := h
theorem DecAt.below {B : Nat} (h : DecAt w g d) (hb : Below B w w1) (hg : g < B) : DecAt w1 g d := Blk.below h hb hg
theorem only_belowB {a w w1 : World} {g B : Nat} (h : a.grownBy w (some g)) (k : Below B w w1) (hB : a.heap.size ≤ B) : a.grownBy w1 (some g) :=
  ⟨k.os.trans h.os, k.tape.trans h.tape, k.output.trans h.output, Nat.le_trans h.size k.size, fun i hi hne => (k.block i (Nat.lt_of_lt_of_le hi hB)).trans (h.block i hi hne)⟩
theorem size_of_only {a w : World} {row : Option Nat} (h : a.grownBy w row) : a.heap.size ≤ w.heap.size := h.size
theorem R_dec {α : Type} {d : Kd α} {e : Nat} {W w1 : World} {base g : Nat} {ok : Nat → Prop} {v : Value} {xs : List α} (h : d.R e W base ok v xs) (hg : W.grownBy w1 (some g)) (hlt : g < base) : d.R e w1 base ok v xs :=
  Kd.R_mono (Kd.R_grown (Kd.R_bound h) hg (fun k hk => by have := hk.2.1; intro he; cases he; omega)) (fun k hk => hk.1)
end

/-- what begin does -/
def Dec.begin (d : Dec) (c : Int) : Dec :=
  if c < 128 then ⟨d.at_, 1, 1, 128, 191, c⟩
  else if c < 194 then ⟨d.at_, d.have_, d.need, 128, 191, d.r⟩
  else if c < 224 then ⟨d.at_, 1, 2, 128, 191, c % 32⟩
  else if c < 240 then ⟨d.at_, 1, 3, if c = 224 then 160 else 128, if c = 237 then 159 else 191, c % 16⟩
  else if c < 245 then ⟨d.at_, 1, 4, if c = 240 then 144 else 128, if c = 244 then 143 else 191, c % 8⟩
  else ⟨d.at_, d.have_, d.need, 128, 191, d.r⟩
def begOk (c : Int) : Bool := decide (c < 128 ∨ (194 ≤ c ∧ c < 245))

theorem begin_calls (g : Nat) (d : Dec) (c : Int) (w : World) (hd : DecAt w g d) (h0 : 0 ≤ c) (h1 : c ≤ 255) :
    Calls Try.prog 26 #[.pointer (some ⟨g, 0, none⟩), .int .u8 c] w fun e w' => e = .returned (.bool (begOk c)) ∧ DecAt w' g (d.begin c) ∧ w.grownBy w' (some g) := by
  obtain ⟨a, h, n, l, u, r⟩ := d
  by_cases k1 : c < 128
  · have e1 : begOk c = true := by unfold begOk; exact decide_eq_true (by omega)
    have e2 : Dec.begin ⟨a, h, n, l, u, r⟩ c = ⟨a, 1, 1, 128, 191, c⟩ := by unfold Dec.begin; rw [if_pos k1]
    rw [e1, e2]; exact begin1 g a h n l u r c w hd h0 k1
  by_cases k2 : c < 194
  · have e1 : begOk c = false := by unfold begOk; exact decide_eq_false (by omega)
    have e2 : Dec.begin ⟨a, h, n, l, u, r⟩ c = ⟨a, h, n, 128, 191, r⟩ := by unfold Dec.begin; rw [if_neg k1, if_pos k2]
    rw [e1, e2]; exact begin5 g a h n l u r c w hd (by omega) k2
  by_cases k3 : c < 224
  · have e1 : begOk c = true := by unfold begOk; exact decide_eq_true (by omega)
    have e2 : Dec.begin ⟨a, h, n, l, u, r⟩ c = ⟨a, 1, 2, 128, 191, c % 32⟩ := by unfold Dec.begin; rw [if_neg k1, if_neg k2, if_pos k3]
    rw [e1, e2]; exact begin2 g a h n l u r c w hd (by omega) k3
  by_cases k4 : c < 240
  · have e1 : begOk c = true := by unfold begOk; exact decide_eq_true (by omega)
    by_cases j1 : c = 224
    · have e2 : Dec.begin ⟨a, h, n, l, u, r⟩ c = ⟨a, 1, 3, 160, 191, 0⟩ := by subst j1; rfl
      rw [e1, e2]; exact begin3a g a h n l u r c w hd j1
    by_cases j2 : c = 237
    · have e2 : Dec.begin ⟨a, h, n, l, u, r⟩ c = ⟨a, 1, 3, 128, 159, 13⟩ := by subst j2; rfl
      rw [e1, e2]; exact begin3b g a h n l u r c w hd j2
    · have e2 : Dec.begin ⟨a, h, n, l, u, r⟩ c = ⟨a, 1, 3, 128, 191, c % 16⟩ := by unfold Dec.begin; rw [if_neg k1, if_neg k2, if_neg k3, if_pos k4, if_neg j1, if_neg j2]
      rw [e1, e2]; exact begin3c g a h n l u r c w hd (by omega) k4 (beq_eq_false_iff_ne.mpr j1) (beq_eq_false_iff_ne.mpr j2)
  by_cases k5 : c < 245
  · have e1 : begOk c = true := by unfold begOk; exact decide_eq_true (by omega)
    by_cases j1 : c = 240
    · have e2 : Dec.begin ⟨a, h, n, l, u, r⟩ c = ⟨a, 1, 4, 144, 191, 0⟩ := by subst j1; rfl
      rw [e1, e2]; exact begin4a g a h n l u r c w hd j1
    by_cases j2 : c = 244
    · have e2 : Dec.begin ⟨a, h, n, l, u, r⟩ c = ⟨a, 1, 4, 128, 143, 4⟩ := by subst j2; rfl
      rw [e1, e2]; exact begin4b g a h n l u r c w hd j2
    · have e2 : Dec.begin ⟨a, h, n, l, u, r⟩ c = ⟨a, 1, 4, 128, 191, c % 8⟩ := by unfold Dec.begin; rw [if_neg k1, if_neg k2, if_neg k3, if_neg k4, if_pos k5, if_neg j1, if_neg j2]
      rw [e1, e2]; exact begin4c g a h n l u r c w hd (by omega) k5 (beq_eq_false_iff_ne.mpr j1) (beq_eq_false_iff_ne.mpr j2)
  · have e1 : begOk c = false := by unfold begOk; exact decide_eq_false (by omega)
    have e2 : Dec.begin ⟨a, h, n, l, u, r⟩ c = ⟨a, h, n, 128, 191, r⟩ := by unfold Dec.begin; rw [if_neg k1, if_neg k2, if_neg k3, if_neg k4, if_neg k5]
    rw [e1, e2]; exact begin6 g a h n l u r c w hd (by omega) h1

/-- the decoder and what it has told -/
structure St where
  d : Dec
  cs : List S36
  fs : List S39

def Dec.told (d : Dec) (size : Int) : Dec := ⟨wrap64 (d.at_ + size), 0, d.need, d.low, d.high, d.r⟩
def St.tell (s : St) (x size : Int) : St := ⟨s.d.told size, s.cs ++ [⟨x, s.d.at_, wrap64 (s.d.at_ + size)⟩], s.fs⟩
def St.bad (s : St) (size : Int) : St := ⟨s.d.told size, s.cs ++ [⟨65533, s.d.at_, wrap64 (s.d.at_ + size)⟩], s.fs ++ [⟨1, s.d.at_⟩]⟩
def St.fin (s : St) : St := if s.d.have_ = s.d.need then s.tell s.d.r s.d.need else s
def St.start (s : St) (c : Int) : St := if begOk c = true then St.fin ⟨s.d.begin c, s.cs, s.fs⟩ else St.bad ⟨s.d.begin c, s.cs, s.fs⟩ 1
def Dec.cont (d : Dec) (c : Int) : Dec := ⟨d.at_, wrap64 (d.have_ + 1), d.need, 128, 191, Go.bits .or .i64 (wrap64 (d.r * 64)) (c % 64)⟩
def St.step (s : St) (c : Int) : St :=
  if s.d.have_ = 0 then s.start c else if c < s.d.low ∨ s.d.high < c then (s.bad s.d.have_).start c else St.fin ⟨s.d.cont c, s.cs, s.fs⟩


def St.upto (t : ByteArray) (s : St) : Nat → St
  | 0 => s
  | k + 1 => (St.upto t s k).step (bt t k)

theorem fin_len (s : St) : s.fin.cs.length ≤ s.cs.length + 1 ∧ s.fin.fs.length = s.fs.length := by
  unfold St.fin; split <;> simp [St.tell]
theorem start_len (s : St) (c : Int) : (s.start c).cs.length ≤ s.cs.length + 1 ∧ (s.start c).fs.length ≤ s.fs.length + 1 := by
  unfold St.start
  split
  · have := fin_len ⟨s.d.begin c, s.cs, s.fs⟩
    simp only [] at this
    omega
  · simp [St.bad]
theorem step_len (s : St) (c : Int) : (s.step c).cs.length ≤ s.cs.length + 2 ∧ (s.step c).fs.length ≤ s.fs.length + 2 := by
  unfold St.step
  split
  · have := start_len s c; omega
  · split
    · have := start_len (s.bad s.d.have_) c
      have e1 : (s.bad s.d.have_).cs.length = s.cs.length + 1 := by simp [St.bad]
      have e2 : (s.bad s.d.have_).fs.length = s.fs.length + 1 := by simp [St.bad]
      omega
    · have := fin_len ⟨s.d.cont c, s.cs, s.fs⟩
      simp only [] at this
      omega
theorem upto_len (t : ByteArray) (s : St) (k : Nat) : (St.upto t s k).cs.length ≤ s.cs.length + 2 * k ∧ (St.upto t s k).fs.length ≤ s.fs.length + 2 * k := by
  induction k with
  | zero => simp [St.upto]
  | succ k ih =>
    have := step_len (St.upto t s k) (bt t k)
    have e : St.upto t s (k + 1) = (St.upto t s k).step (bt t k) := rfl
    rw [e]
    omega
theorem step_zero (a n l u r : Int) (cs : List S36) (fs : List S39) (c : Int) : St.step ⟨⟨a, 0, n, l, u, r⟩, cs, fs⟩ c = St.start ⟨⟨a, 0, n, l, u, r⟩, cs, fs⟩ c := if_pos rfl
theorem step_out (a h n l u r : Int) (cs : List S36) (fs : List S39) (c : Int) (h0 : ¬ h = 0) (hr : c < l ∨ u < c) : St.step ⟨⟨a, h, n, l, u, r⟩, cs, fs⟩ c = St.start ⟨⟨wrap64 (a + h), 0, n, l, u, r⟩, cs ++ [⟨65533, a, wrap64 (a + h)⟩], fs ++ [⟨1, a⟩]⟩ c :=
  (if_neg h0).trans (if_pos hr)
theorem step_in (a h n l u r : Int) (cs : List S36) (fs : List S39) (c : Int) (h0 : ¬ h = 0) (hr : ¬ (c < l ∨ u < c)) : St.step ⟨⟨a, h, n, l, u, r⟩, cs, fs⟩ c = St.fin ⟨⟨a, wrap64 (h + 1), n, 128, 191, Go.bits .or .i64 (wrap64 (r * 64)) (c % 64)⟩, cs, fs⟩ :=
  (if_neg h0).trans (if_neg hr)

set_option maxRecDepth 10000 in
set_option maxHeartbeats 4000000 in
theorem feed_calls (g : Nat) (d : Dec) (t : ByteArray) (w : World) (hd : DecAt w g d) (ht : t.size ≤ 1000000000) :
    Calls Try.prog 20 #[.pointer (some ⟨g, 0, none⟩), .string t] w fun e w' => ∃ v0 v1 : Value, e = .returned (.tuple #[v0, v1]) ∧ Kd.R k36 36 w' w.heap.size (fun _ => True) v0 (St.upto t ⟨d, [], []⟩ t.size).cs ∧ Kd.R k39 39 w' w.heap.size (fun _ => True) v1 (St.upto t ⟨d, [], []⟩ t.size).fs ∧ DecAt w' g (St.upto t ⟨d, [], []⟩ t.size).d ∧ w.grownBy w' (some g) := by
  have hlt := Blk.lt hd
  have HD := Aside0.mk hd
  clear hd
  go_enter Try.func20, Try.ntmps20
  go_wp2
  go_loopw [6, 7, 8, 9] (fun v6 v7 v8 v9 wr => ∃ k : Nat, k ≤ t.size ∧ v8 = .int .i64 (k : Int) ∧ Aside0 (Kd.R k36 36 wr w.heap.size (fun _ => True) v6 (St.upto t ⟨d, [], []⟩ k).cs) ∧ Aside0 (Kd.R k39 39 wr w.heap.size (fun _ => True) v7 (St.upto t ⟨d, [], []⟩ k).fs) ∧ Aside0 (DecAt wr g (St.upto t ⟨d, [], []⟩ k).d) ∧ Aside0 (w.grownBy wr (some g))) (fun _ _ v8 _ _ => t.size - (intOf v8).toNat)
  case atStart => exact ⟨0, Nat.zero_le _, rfl, ⟨Kd.R_nil _ _ _ _ _⟩, ⟨Kd.R_nil _ _ _ _ _⟩, HD, ⟨World.grownBy.refl w _⟩⟩
  case round =>
    obtain ⟨k, hk, rfl, HC, HF, HDk, HG⟩ := hrel
    have hlen := upto_len t ⟨d, [], []⟩ k
    by_cases hkt : k < t.size
    · have hstep : St.upto t ⟨d, [], []⟩ (k + 1) = (St.upto t ⟨d, [], []⟩ k).step (bt t k) := rfl
      generalize hs : St.upto t ⟨d, [], []⟩ k = s at *
      obtain ⟨⟨a, h, n, l, u, r⟩, cs, fs⟩ := s
      simp only [List.length_nil, Nat.zero_add] at hlen
      obtain ⟨⟨c0, c1, c2, c3, c4, c5⟩, hf⟩ := HDk.out.facts
      have hbr := bt_range t (k : Int)
      have hx : ∀ h : k < t.size, ((t[k]'h).toNat : Int) = bt t (k : Int) := bt_at t (k : Int)
      have q1 : (k : Int) < (t.size : Int) := by omega
      generalize bt t (k : Int) = c at *
      go_wp2
      refine wp_scope_once 0 rfl ?_
      go_wp2
      apply wp_label
      by_cases h0 : h = 0
      · subst h0
        generalize hd0 : Dec.begin ⟨a, 0, n, l, u, r⟩ c = d1 at *
        obtain ⟨a1, h1, n1, l1, u1, r1⟩ := d1
        by_cases hb : begOk c = true
        · have hst : St.start ⟨⟨a, 0, n, l, u, r⟩, cs, fs⟩ c = St.fin ⟨⟨a1, h1, n1, l1, u1, r1⟩, cs, fs⟩ := by unfold St.start; rw [if_pos hb]; show St.fin ⟨Dec.begin ⟨a, 0, n, l, u, r⟩ c, _, _⟩ = _; rw [hd0]
          by_cases hn : h1 = n1
          · subst hn
            have hnew : St.upto t ⟨d, [], []⟩ (k + 1) = (⟨⟨wrap64 (a1 + h1), 0, h1, l1, u1, r1⟩, cs ++ [⟨r1, a1, wrap64 (a1 + h1)⟩], fs⟩ : St) := by rw [hstep, step_zero, hst]; unfold St.fin; rw [if_pos rfl]; rfl
            clear hstep hst
            go_wp2_with (go_at_call 26; refine (begin_calls g _ c _ (by (with_reducible repeat (first | apply DecAt.alloc | apply DecAt.drewN | apply DecAt.drew)); exact HDk.out) hbr.1 hbr.2).mono ?_; rw [hd0, hb]; rintro e w1 ⟨rfl, hd1, hg1⟩; obtain ⟨⟨_, _, _, _, _, _⟩, hf1⟩ := hd1.facts; have HC1 := Aside0.mk (R_dec (by (with_reducible repeat (first | apply Kd.R_alloc | apply Kd.R_drewN | apply Kd.R_drew)); exact HC.out) hg1 hlt); have HF1 := Aside0.mk (R_dec (by (with_reducible repeat (first | apply Kd.R_alloc | apply Kd.R_drewN | apply Kd.R_drew)); exact HF.out) hg1 hlt); have HG1 := Aside0.mk (only_then (by (with_reducible repeat (first | apply only_alloc | apply only_drewN | apply only_drew)); exact HG.out) hg1 (fun b e => .inl (by cases e; rfl))); have HD1 := Aside0.mk hd1; clear hd1 hg1)
            go_quiet (fail)
            go_wp2
            go_wp2
            go_region_law (first | (refine goes_ Try.func27 (by kernel_rfl) rfl #[.pointer (some ⟨g, 0, none⟩), .int .i64 r1, .int .i64 h1] (by rfl) rfl rfl (by simp only [List.map_toArray, List.map_cons, List.map_nil]; rfl) ?_; refine (told_calls g _ _ _ _ _ _ _ _ _ (by (with_reducible repeat (first | apply DecAt.alloc | apply DecAt.drewN | apply DecAt.drew)); exact HD1.out)).mono ?_; rintro e w2 ⟨rfl, hd2, hg2⟩; refine ⟨_, rfl, ?_⟩; obtain ⟨⟨_, _, _, _, _, _⟩, hf2⟩ := hd2.facts; have HC2 := Aside0.mk (R_dec (by (with_reducible repeat (first | apply Kd.R_alloc | apply Kd.R_drewN | apply Kd.R_drew)); exact HC1.out) hg2 hlt); have HF2 := Aside0.mk (R_dec (by (with_reducible repeat (first | apply Kd.R_alloc | apply Kd.R_drewN | apply Kd.R_drew)); exact HF1.out) hg2 hlt); have HG2 := Aside0.mk (only_then (by (with_reducible repeat (first | apply only_alloc | apply only_drewN | apply only_drew)); exact HG1.out) hg2 (fun b e => .inl (by cases e; rfl))); have HD2 := Aside0.mk hd2; clear hd2 hg2) | (refine Kd.R_append_step k36 w.heap.size rfl (.tmp 108) (.tmp 119) 23 36 (.agg #[(.int .i64 0), (.int .i64 0), (.int .i64 0)]) 24 rfl Try.underlying23 info36 rfl (by decide) (by omega) u6 cs (⟨r1, a1, wrap64 (a1 + h1)⟩ : S36) [.int .i64 (r1), .int .i64 a1, .int .i64 (wrap64 (a1 + h1))] (fun _ => True) (fun _ => False) rfl rfl ?aP (fun _ hk => hk.elim) ?aF ?aO (Below.refl _ _) ?aS ?aL ?_; (case aP => exact k36_mkM _ _ _ (⟨r1, a1, wrap64 (a1 + h1)⟩ : S36)); (case aF => exact (fun _ _ => trivial)); (case aO => exact (by (with_reducible repeat (first | apply Kd.R_alloc | apply Kd.R_drewN | apply Kd.R_drew)); exact HC2.out)); (case aS => exact size_of_only (by (with_reducible repeat (first | apply only_alloc | apply only_drewN | apply only_drew)); exact HG2.out)); (case aL => (try simp only [List.length_append, List.length_cons, List.length_nil]); omega); intro v3 w3 ho hb hg hat; have HO3 := Aside0.mk ho; have HP3 := Aside0.mk (Kd.R_over' (by (with_reducible repeat (first | apply Kd.R_alloc | apply Kd.R_drewN | apply Kd.R_drew)); exact HF2.out) (Kd.R_typed (by (with_reducible repeat (first | apply Kd.R_alloc | apply Kd.R_drewN | apply Kd.R_drew)); exact HC2.out)) (by decide) hg); have HD3 := Aside0.mk (DecAt.below (by (with_reducible repeat (first | apply DecAt.alloc | apply DecAt.drewN | apply DecAt.drew)); exact HD2.out) hb hlt); have HG3 := Aside0.mk (only_belowB (by (with_reducible repeat (first | apply only_alloc | apply only_drewN | apply only_drew)); exact HG2.out) hb (Nat.le_refl _)); obtain ⟨⟨_, _, _, _, _, _⟩, hf3⟩ := HD3.out.facts; clear ho hb hg hat))
            all_goals go_wp2
            all_goals
              (try simp only [Exit.jump, Exit.inBlock, Exit.then])
              (try go_at_K)
              clear hs hd0 hbr hx
              have HNEW := Aside0.mk hnew
              clear hnew
              go_wp2
              go_roundw
              case measure => (first | (show t.size - (wrap64 ((k:Int)+1)).toNat < t.size - ((k:Int)).toNat; rw [wrap_id _ (by omega) (by omega)]; omega) | (show t.size - ((k:Int)+1).toNat < t.size - ((k:Int)).toNat; omega))
              case rel => exact ⟨k + 1, by omega, by go_num, ⟨by rw [HNEW.out]; (with_reducible repeat (first | apply Kd.R_alloc | apply Kd.R_drewN | apply Kd.R_drew)); exact HO3.out⟩, ⟨by rw [HNEW.out]; (with_reducible repeat (first | apply Kd.R_alloc | apply Kd.R_drewN | apply Kd.R_drew)); exact HP3.out⟩, ⟨by rw [HNEW.out]; (with_reducible repeat (first | apply DecAt.alloc | apply DecAt.drewN | apply DecAt.drew)); exact HD3.out⟩, ⟨by (with_reducible repeat (first | apply only_alloc | apply only_drewN | apply only_drew)); exact HG3.out⟩⟩
          · have hnew : St.upto t ⟨d, [], []⟩ (k + 1) = (⟨⟨a1, h1, n1, l1, u1, r1⟩, cs, fs⟩ : St) := by rw [hstep, step_zero, hst]; unfold St.fin; rw [if_neg hn]
            clear hstep hst
            have hnb : (h1 == n1) = false := beq_eq_false_iff_ne.mpr hn
            go_wp2_with (go_at_call 26; refine (begin_calls g _ c _ (by (with_reducible repeat (first | apply DecAt.alloc | apply DecAt.drewN | apply DecAt.drew)); exact HDk.out) hbr.1 hbr.2).mono ?_; rw [hd0, hb]; rintro e w1 ⟨rfl, hd1, hg1⟩; obtain ⟨⟨_, _, _, _, _, _⟩, hf1⟩ := hd1.facts; have HC1 := Aside0.mk (R_dec (by (with_reducible repeat (first | apply Kd.R_alloc | apply Kd.R_drewN | apply Kd.R_drew)); exact HC.out) hg1 hlt); have HF1 := Aside0.mk (R_dec (by (with_reducible repeat (first | apply Kd.R_alloc | apply Kd.R_drewN | apply Kd.R_drew)); exact HF.out) hg1 hlt); have HG1 := Aside0.mk (only_then (by (with_reducible repeat (first | apply only_alloc | apply only_drewN | apply only_drew)); exact HG.out) hg1 (fun b e => .inl (by cases e; rfl))); have HD1 := Aside0.mk hd1; clear hd1 hg1)
            go_quiet (fail)
            go_wp2
            go_wp2
            all_goals
              (try simp only [Exit.jump, Exit.inBlock, Exit.then])
              (try go_at_K)
              clear hs hd0 hbr hx
              have HNEW := Aside0.mk hnew
              clear hnew
              go_wp2
              go_roundw
              case measure => (first | (show t.size - (wrap64 ((k:Int)+1)).toNat < t.size - ((k:Int)).toNat; rw [wrap_id _ (by omega) (by omega)]; omega) | (show t.size - ((k:Int)+1).toNat < t.size - ((k:Int)).toNat; omega))
              case rel => exact ⟨k + 1, by omega, by go_num, ⟨by rw [HNEW.out]; (with_reducible repeat (first | apply Kd.R_alloc | apply Kd.R_drewN | apply Kd.R_drew)); exact HC1.out⟩, ⟨by rw [HNEW.out]; (with_reducible repeat (first | apply Kd.R_alloc | apply Kd.R_drewN | apply Kd.R_drew)); exact HF1.out⟩, ⟨by rw [HNEW.out]; (with_reducible repeat (first | apply DecAt.alloc | apply DecAt.drewN | apply DecAt.drew)); exact HD1.out⟩, ⟨by (with_reducible repeat (first | apply only_alloc | apply only_drewN | apply only_drew)); exact HG1.out⟩⟩
        · have hbf : begOk c = false := by simpa using hb
          have hnew : St.upto t ⟨d, [], []⟩ (k + 1) = (⟨⟨wrap64 (a1 + 1), 0, n1, l1, u1, r1⟩, cs ++ [⟨65533, a1, wrap64 (a1 + 1)⟩], fs ++ [⟨1, a1⟩]⟩ : St) := by rw [hstep, step_zero]; unfold St.start; rw [if_neg hb]; show St.bad ⟨Dec.begin ⟨a, 0, n, l, u, r⟩ c, _, _⟩ 1 = _; rw [hd0]; rfl
          clear hstep
          go_wp2_with (first | (go_at_call 26; refine (begin_calls g _ c _ (by (with_reducible repeat (first | apply DecAt.alloc | apply DecAt.drewN | apply DecAt.drew)); exact HDk.out) hbr.1 hbr.2).mono ?_; rw [hd0, hbf]; rintro e w1 ⟨rfl, hd1, hg1⟩; obtain ⟨⟨_, _, _, _, _, _⟩, hf1⟩ := hd1.facts; have HC1 := Aside0.mk (R_dec (by (with_reducible repeat (first | apply Kd.R_alloc | apply Kd.R_drewN | apply Kd.R_drew)); exact HC.out) hg1 hlt); have HF1 := Aside0.mk (R_dec (by (with_reducible repeat (first | apply Kd.R_alloc | apply Kd.R_drewN | apply Kd.R_drew)); exact HF.out) hg1 hlt); have HG1 := Aside0.mk (only_then (by (with_reducible repeat (first | apply only_alloc | apply only_drewN | apply only_drew)); exact HG.out) hg1 (fun b e => .inl (by cases e; rfl))); have HD1 := Aside0.mk hd1; clear hd1 hg1) | ((with_reducible refine gate_builtin (b := .append) (xs := #[(.tmp 30), .tmp 36]) rfl ?_); go_must (at_builtin; refine Kd.R_append k39 w.heap.size rfl (.tmp 30) (.tmp 36) 24 39 (.agg #[(.int .i64 0), (.int .i64 0)]) 16 rfl Try.underlying24 info39 rfl (by decide) (by omega) u7 fs (⟨1, a1⟩ : S39) [.int .i64 1, .int .i64 a1] (fun _ => True) (fun _ => False) rfl rfl ?aP (fun _ hk => hk.elim) ?aF ?aO (Below.refl _ _) ?aS ?aL ?_; (case aP => exact k39_mkM _ _ _ (⟨1, a1⟩ : S39)); (case aF => exact (fun _ _ => trivial)); (case aO => exact (by (with_reducible repeat (first | apply Kd.R_alloc | apply Kd.R_drewN | apply Kd.R_drew)); exact HF1.out)); (case aS => exact size_of_only (by (with_reducible repeat (first | apply only_alloc | apply only_drewN | apply only_drew)); exact HG1.out)); (case aL => (try simp only [List.length_append, List.length_cons, List.length_nil]); omega); intro v2 w2 ho hb hg hat; have HO2 := Aside0.mk ho; have HP2 := Aside0.mk (Kd.R_over' (by (with_reducible repeat (first | apply Kd.R_alloc | apply Kd.R_drewN | apply Kd.R_drew)); exact HC1.out) (Kd.R_typed (by (with_reducible repeat (first | apply Kd.R_alloc | apply Kd.R_drewN | apply Kd.R_drew)); exact HF1.out)) (by decide) hg); have HD2 := Aside0.mk (DecAt.below (by (with_reducible repeat (first | apply DecAt.alloc | apply DecAt.drewN | apply DecAt.drew)); exact HD1.out) hb hlt); have HG2 := Aside0.mk (only_belowB (by (with_reducible repeat (first | apply only_alloc | apply only_drewN | apply only_drew)); exact HG1.out) hb (Nat.le_refl _)); obtain ⟨⟨_, _, _, _, _, _⟩, hf2⟩ := HD2.out.facts; clear ho hb hg hat)) | (go_at_call 27; refine (told_calls g _ _ _ _ _ _ _ _ _ (by (with_reducible repeat (first | apply DecAt.alloc | apply DecAt.drewN | apply DecAt.drew)); exact HD2.out)).mono ?_; rintro e w3 ⟨rfl, hd3, hg3⟩; obtain ⟨⟨_, _, _, _, _, _⟩, hf3⟩ := hd3.facts; have HC3 := Aside0.mk (R_dec (by (with_reducible repeat (first | apply Kd.R_alloc | apply Kd.R_drewN | apply Kd.R_drew)); exact HP2.out) hg3 hlt); have HF3 := Aside0.mk (R_dec (by (with_reducible repeat (first | apply Kd.R_alloc | apply Kd.R_drewN | apply Kd.R_drew)); exact HO2.out) hg3 hlt); have HG3 := Aside0.mk (only_then (by (with_reducible repeat (first | apply only_alloc | apply only_drewN | apply only_drew)); exact HG2.out) hg3 (fun b e => .inl (by cases e; rfl))); have HD3 := Aside0.mk hd3; clear hd3 hg3) | ((with_reducible refine gate_builtin (b := .append) (xs := #[(.tmp 38), .tmp 41]) rfl ?_); go_must (at_builtin; refine Kd.R_append k36 w.heap.size rfl (.tmp 38) (.tmp 41) 23 36 (.agg #[(.int .i64 0), (.int .i64 0), (.int .i64 0)]) 24 rfl Try.underlying23 info36 rfl (by decide) (by omega) u6 cs (⟨65533, a1, wrap64 (a1 + 1)⟩ : S36) [.int .i64 65533, .int .i64 a1, .int .i64 (wrap64 (a1 + 1))] (fun _ => True) (fun _ => False) rfl rfl ?aP (fun _ hk => hk.elim) ?aF ?aO (Below.refl _ _) ?aS ?aL ?_; (case aP => exact k36_mkM _ _ _ (⟨65533, a1, wrap64 (a1 + 1)⟩ : S36)); (case aF => exact (fun _ _ => trivial)); (case aO => exact (by (with_reducible repeat (first | apply Kd.R_alloc | apply Kd.R_drewN | apply Kd.R_drew)); exact HC3.out)); (case aS => exact size_of_only (by (with_reducible repeat (first | apply only_alloc | apply only_drewN | apply only_drew)); exact HG3.out)); (case aL => (try simp only [List.length_append, List.length_cons, List.length_nil]); omega); intro v4 w4 ho hb hg hat; have HO4 := Aside0.mk ho; have HP4 := Aside0.mk (Kd.R_over' (by (with_reducible repeat (first | apply Kd.R_alloc | apply Kd.R_drewN | apply Kd.R_drew)); exact HF3.out) (Kd.R_typed (by (with_reducible repeat (first | apply Kd.R_alloc | apply Kd.R_drewN | apply Kd.R_drew)); exact HC3.out)) (by decide) hg); have HD4 := Aside0.mk (DecAt.below (by (with_reducible repeat (first | apply DecAt.alloc | apply DecAt.drewN | apply DecAt.drew)); exact HD3.out) hb hlt); have HG4 := Aside0.mk (only_belowB (by (with_reducible repeat (first | apply only_alloc | apply only_drewN | apply only_drew)); exact HG3.out) hb (Nat.le_refl _)); obtain ⟨⟨_, _, _, _, _, _⟩, hf4⟩ := HD4.out.facts; clear ho hb hg hat)))
          all_goals
            (try simp only [Exit.jump, Exit.inBlock, Exit.then])
            (try go_at_K)
            clear hs hd0 hbr hx
            have HNEW := Aside0.mk hnew
            clear hnew
            go_wp2
            go_roundw
            case measure => (first | (show t.size - (wrap64 ((k:Int)+1)).toNat < t.size - ((k:Int)).toNat; rw [wrap_id _ (by omega) (by omega)]; omega) | (show t.size - ((k:Int)+1).toNat < t.size - ((k:Int)).toNat; omega))
            case rel => exact ⟨k + 1, by omega, by go_num, ⟨by rw [HNEW.out]; (with_reducible repeat (first | apply Kd.R_alloc | apply Kd.R_drewN | apply Kd.R_drew)); exact HO4.out⟩, ⟨by rw [HNEW.out]; (with_reducible repeat (first | apply Kd.R_alloc | apply Kd.R_drewN | apply Kd.R_drew)); exact HP4.out⟩, ⟨by rw [HNEW.out]; (with_reducible repeat (first | apply DecAt.alloc | apply DecAt.drewN | apply DecAt.drew)); exact HD4.out⟩, ⟨by (with_reducible repeat (first | apply only_alloc | apply only_drewN | apply only_drew)); exact HG4.out⟩⟩
      · have h0b : (h == 0) = false := beq_eq_false_iff_ne.mpr h0
        by_cases hr1 : c < l
        · have e1 := step_out a h n l u r cs fs c h0 (.inl hr1)
          go_wp2_with (first | ((with_reducible refine gate_builtin (b := .append) (xs := #[(.tmp 57), .tmp 63]) rfl ?_); go_must (at_builtin; refine Kd.R_append k39 w.heap.size rfl (.tmp 57) (.tmp 63) 24 39 (.agg #[(.int .i64 0), (.int .i64 0)]) 16 rfl Try.underlying24 info39 rfl (by decide) (by omega) u7 fs (⟨1, a⟩ : S39) [.int .i64 1, .int .i64 a] (fun _ => True) (fun _ => False) rfl rfl ?aP (fun _ hk => hk.elim) ?aF ?aO (Below.refl _ _) ?aS ?aL ?_; (case aP => exact k39_mkM _ _ _ (⟨1, a⟩ : S39)); (case aF => exact (fun _ _ => trivial)); (case aO => exact (by (with_reducible repeat (first | apply Kd.R_alloc | apply Kd.R_drewN | apply Kd.R_drew)); exact HF.out)); (case aS => exact size_of_only (by (with_reducible repeat (first | apply only_alloc | apply only_drewN | apply only_drew)); exact HG.out)); (case aL => (try simp only [List.length_append, List.length_cons, List.length_nil]); omega); intro v1 w1 ho hb hg hat; have HO1 := Aside0.mk ho; have HP1 := Aside0.mk (Kd.R_over' (by (with_reducible repeat (first | apply Kd.R_alloc | apply Kd.R_drewN | apply Kd.R_drew)); exact HC.out) (Kd.R_typed (by (with_reducible repeat (first | apply Kd.R_alloc | apply Kd.R_drewN | apply Kd.R_drew)); exact HF.out)) (by decide) hg); have HD1 := Aside0.mk (DecAt.below (by (with_reducible repeat (first | apply DecAt.alloc | apply DecAt.drewN | apply DecAt.drew)); exact HDk.out) hb hlt); have HG1 := Aside0.mk (only_belowB (by (with_reducible repeat (first | apply only_alloc | apply only_drewN | apply only_drew)); exact HG.out) hb (Nat.le_refl _)); obtain ⟨⟨_, _, _, _, _, _⟩, hf1⟩ := HD1.out.facts; clear ho hb hg hat)) | (go_at_call 27; refine (told_calls g _ _ _ _ _ _ _ _ _ (by (with_reducible repeat (first | apply DecAt.alloc | apply DecAt.drewN | apply DecAt.drew)); exact HD1.out)).mono ?_; rintro e w2 ⟨rfl, hd2, hg2⟩; obtain ⟨⟨_, _, _, _, _, _⟩, hf2⟩ := hd2.facts; have HC2 := Aside0.mk (R_dec (by (with_reducible repeat (first | apply Kd.R_alloc | apply Kd.R_drewN | apply Kd.R_drew)); exact HP1.out) hg2 hlt); have HF2 := Aside0.mk (R_dec (by (with_reducible repeat (first | apply Kd.R_alloc | apply Kd.R_drewN | apply Kd.R_drew)); exact HO1.out) hg2 hlt); have HG2 := Aside0.mk (only_then (by (with_reducible repeat (first | apply only_alloc | apply only_drewN | apply only_drew)); exact HG1.out) hg2 (fun b e => .inl (by cases e; rfl))); have HD2 := Aside0.mk hd2; clear hd2 hg2) | ((with_reducible refine gate_builtin (b := .append) (xs := #[(.tmp 65), .tmp 72]) rfl ?_); go_must (at_builtin; refine Kd.R_append k36 w.heap.size rfl (.tmp 65) (.tmp 72) 23 36 (.agg #[(.int .i64 0), (.int .i64 0), (.int .i64 0)]) 24 rfl Try.underlying23 info36 rfl (by decide) (by omega) u6 cs (⟨65533, a, wrap64 (a + h)⟩ : S36) [.int .i64 65533, .int .i64 a, .int .i64 (wrap64 (a + h))] (fun _ => True) (fun _ => False) rfl rfl ?aP (fun _ hk => hk.elim) ?aF ?aO (Below.refl _ _) ?aS ?aL ?_; (case aP => exact k36_mkM _ _ _ (⟨65533, a, wrap64 (a + h)⟩ : S36)); (case aF => exact (fun _ _ => trivial)); (case aO => exact (by (with_reducible repeat (first | apply Kd.R_alloc | apply Kd.R_drewN | apply Kd.R_drew)); exact HC2.out)); (case aS => exact size_of_only (by (with_reducible repeat (first | apply only_alloc | apply only_drewN | apply only_drew)); exact HG2.out)); (case aL => (try simp only [List.length_append, List.length_cons, List.length_nil]); omega); intro v3 w3 ho hb hg hat; have HO3 := Aside0.mk ho; have HP3 := Aside0.mk (Kd.R_over' (by (with_reducible repeat (first | apply Kd.R_alloc | apply Kd.R_drewN | apply Kd.R_drew)); exact HF2.out) (Kd.R_typed (by (with_reducible repeat (first | apply Kd.R_alloc | apply Kd.R_drewN | apply Kd.R_drew)); exact HC2.out)) (by decide) hg); have HD3 := Aside0.mk (DecAt.below (by (with_reducible repeat (first | apply DecAt.alloc | apply DecAt.drewN | apply DecAt.drew)); exact HD2.out) hb hlt); have HG3 := Aside0.mk (only_belowB (by (with_reducible repeat (first | apply only_alloc | apply only_drewN | apply only_drew)); exact HG2.out) hb (Nat.le_refl _)); obtain ⟨⟨_, _, _, _, _, _⟩, hf3⟩ := HD3.out.facts; clear ho hb hg hat)))
          apply wp_goto
          refine ⟨rfl, ?_⟩
          show Code.wp _ _ _ _ _
          generalize hd0 : Dec.begin ⟨(wrap64 (a + h)), 0, n, l, u, r⟩ c = d1 at *
          obtain ⟨a1, h1, n1, l1, u1, r1⟩ := d1
          by_cases hb : begOk c = true
          · have hst : St.start ⟨⟨(wrap64 (a + h)), 0, n, l, u, r⟩, (cs ++ [⟨65533, a, wrap64 (a + h)⟩]), (fs ++ [⟨1, a⟩])⟩ c = St.fin ⟨⟨a1, h1, n1, l1, u1, r1⟩, (cs ++ [⟨65533, a, wrap64 (a + h)⟩]), (fs ++ [⟨1, a⟩])⟩ := by unfold St.start; rw [if_pos hb]; show St.fin ⟨Dec.begin ⟨(wrap64 (a + h)), 0, n, l, u, r⟩ c, _, _⟩ = _; rw [hd0]
            by_cases hn : h1 = n1
            · subst hn
              have hnew : St.upto t ⟨d, [], []⟩ (k + 1) = (⟨⟨wrap64 (a1 + h1), 0, h1, l1, u1, r1⟩, (cs ++ [⟨65533, a, wrap64 (a + h)⟩]) ++ [⟨r1, a1, wrap64 (a1 + h1)⟩], (fs ++ [⟨1, a⟩])⟩ : St) := by rw [hstep, e1, hst]; unfold St.fin; rw [if_pos rfl]; rfl
              clear hstep hst
              go_wp2_with (go_at_call 26; refine (begin_calls g _ c _ (by (with_reducible repeat (first | apply DecAt.alloc | apply DecAt.drewN | apply DecAt.drew)); exact HD3.out) hbr.1 hbr.2).mono ?_; rw [hd0, hb]; rintro e w4 ⟨rfl, hd4, hg4⟩; obtain ⟨⟨_, _, _, _, _, _⟩, hf4⟩ := hd4.facts; have HC4 := Aside0.mk (R_dec (by (with_reducible repeat (first | apply Kd.R_alloc | apply Kd.R_drewN | apply Kd.R_drew)); exact HO3.out) hg4 hlt); have HF4 := Aside0.mk (R_dec (by (with_reducible repeat (first | apply Kd.R_alloc | apply Kd.R_drewN | apply Kd.R_drew)); exact HP3.out) hg4 hlt); have HG4 := Aside0.mk (only_then (by (with_reducible repeat (first | apply only_alloc | apply only_drewN | apply only_drew)); exact HG3.out) hg4 (fun b e => .inl (by cases e; rfl))); have HD4 := Aside0.mk hd4; clear hd4 hg4)
              go_quiet (fail)
              go_wp2
              go_wp2
              go_region_law (first | (refine goes_ Try.func27 (by kernel_rfl) rfl #[.pointer (some ⟨g, 0, none⟩), .int .i64 r1, .int .i64 h1] (by rfl) rfl rfl (by simp only [List.map_toArray, List.map_cons, List.map_nil]; rfl) ?_; refine (told_calls g _ _ _ _ _ _ _ _ _ (by (with_reducible repeat (first | apply DecAt.alloc | apply DecAt.drewN | apply DecAt.drew)); exact HD4.out)).mono ?_; rintro e w5 ⟨rfl, hd5, hg5⟩; refine ⟨_, rfl, ?_⟩; obtain ⟨⟨_, _, _, _, _, _⟩, hf5⟩ := hd5.facts; have HC5 := Aside0.mk (R_dec (by (with_reducible repeat (first | apply Kd.R_alloc | apply Kd.R_drewN | apply Kd.R_drew)); exact HC4.out) hg5 hlt); have HF5 := Aside0.mk (R_dec (by (with_reducible repeat (first | apply Kd.R_alloc | apply Kd.R_drewN | apply Kd.R_drew)); exact HF4.out) hg5 hlt); have HG5 := Aside0.mk (only_then (by (with_reducible repeat (first | apply only_alloc | apply only_drewN | apply only_drew)); exact HG4.out) hg5 (fun b e => .inl (by cases e; rfl))); have HD5 := Aside0.mk hd5; clear hd5 hg5) | (refine Kd.R_append_step k36 w.heap.size rfl (.tmp 108) (.tmp 119) 23 36 (.agg #[(.int .i64 0), (.int .i64 0), (.int .i64 0)]) 24 rfl Try.underlying23 info36 rfl (by decide) (by omega) v3 (cs ++ [⟨65533, a, wrap64 (a + h)⟩]) (⟨r1, a1, wrap64 (a1 + h1)⟩ : S36) [.int .i64 (r1), .int .i64 a1, .int .i64 (wrap64 (a1 + h1))] (fun _ => True) (fun _ => False) rfl rfl ?aP (fun _ hk => hk.elim) ?aF ?aO (Below.refl _ _) ?aS ?aL ?_; (case aP => exact k36_mkM _ _ _ (⟨r1, a1, wrap64 (a1 + h1)⟩ : S36)); (case aF => exact (fun _ _ => trivial)); (case aO => exact (by (with_reducible repeat (first | apply Kd.R_alloc | apply Kd.R_drewN | apply Kd.R_drew)); exact HC5.out)); (case aS => exact size_of_only (by (with_reducible repeat (first | apply only_alloc | apply only_drewN | apply only_drew)); exact HG5.out)); (case aL => (try simp only [List.length_append, List.length_cons, List.length_nil]); omega); intro v6 w6 ho hb hg hat; have HO6 := Aside0.mk ho; have HP6 := Aside0.mk (Kd.R_over' (by (with_reducible repeat (first | apply Kd.R_alloc | apply Kd.R_drewN | apply Kd.R_drew)); exact HF5.out) (Kd.R_typed (by (with_reducible repeat (first | apply Kd.R_alloc | apply Kd.R_drewN | apply Kd.R_drew)); exact HC5.out)) (by decide) hg); have HD6 := Aside0.mk (DecAt.below (by (with_reducible repeat (first | apply DecAt.alloc | apply DecAt.drewN | apply DecAt.drew)); exact HD5.out) hb hlt); have HG6 := Aside0.mk (only_belowB (by (with_reducible repeat (first | apply only_alloc | apply only_drewN | apply only_drew)); exact HG5.out) hb (Nat.le_refl _)); obtain ⟨⟨_, _, _, _, _, _⟩, hf6⟩ := HD6.out.facts; clear ho hb hg hat))
              all_goals go_wp2
              all_goals
                (try simp only [Exit.jump, Exit.inBlock, Exit.then])
                (try go_at_K)
                clear hs hd0 hbr hx
                have HNEW := Aside0.mk hnew
                clear hnew
                go_wp2
                go_roundw
                case measure => (first | (show t.size - (wrap64 ((k:Int)+1)).toNat < t.size - ((k:Int)).toNat; rw [wrap_id _ (by omega) (by omega)]; omega) | (show t.size - ((k:Int)+1).toNat < t.size - ((k:Int)).toNat; omega))
                case rel => exact ⟨k + 1, by omega, by go_num, ⟨by rw [HNEW.out]; (with_reducible repeat (first | apply Kd.R_alloc | apply Kd.R_drewN | apply Kd.R_drew)); exact HO6.out⟩, ⟨by rw [HNEW.out]; (with_reducible repeat (first | apply Kd.R_alloc | apply Kd.R_drewN | apply Kd.R_drew)); exact HP6.out⟩, ⟨by rw [HNEW.out]; (with_reducible repeat (first | apply DecAt.alloc | apply DecAt.drewN | apply DecAt.drew)); exact HD6.out⟩, ⟨by (with_reducible repeat (first | apply only_alloc | apply only_drewN | apply only_drew)); exact HG6.out⟩⟩
            · have hnew : St.upto t ⟨d, [], []⟩ (k + 1) = (⟨⟨a1, h1, n1, l1, u1, r1⟩, (cs ++ [⟨65533, a, wrap64 (a + h)⟩]), (fs ++ [⟨1, a⟩])⟩ : St) := by rw [hstep, e1, hst]; unfold St.fin; rw [if_neg hn]
              clear hstep hst
              have hnb : (h1 == n1) = false := beq_eq_false_iff_ne.mpr hn
              go_wp2_with (go_at_call 26; refine (begin_calls g _ c _ (by (with_reducible repeat (first | apply DecAt.alloc | apply DecAt.drewN | apply DecAt.drew)); exact HD3.out) hbr.1 hbr.2).mono ?_; rw [hd0, hb]; rintro e w4 ⟨rfl, hd4, hg4⟩; obtain ⟨⟨_, _, _, _, _, _⟩, hf4⟩ := hd4.facts; have HC4 := Aside0.mk (R_dec (by (with_reducible repeat (first | apply Kd.R_alloc | apply Kd.R_drewN | apply Kd.R_drew)); exact HO3.out) hg4 hlt); have HF4 := Aside0.mk (R_dec (by (with_reducible repeat (first | apply Kd.R_alloc | apply Kd.R_drewN | apply Kd.R_drew)); exact HP3.out) hg4 hlt); have HG4 := Aside0.mk (only_then (by (with_reducible repeat (first | apply only_alloc | apply only_drewN | apply only_drew)); exact HG3.out) hg4 (fun b e => .inl (by cases e; rfl))); have HD4 := Aside0.mk hd4; clear hd4 hg4)
              go_quiet (fail)
              go_wp2
              go_wp2
              all_goals
                (try simp only [Exit.jump, Exit.inBlock, Exit.then])
                (try go_at_K)
                clear hs hd0 hbr hx
                have HNEW := Aside0.mk hnew
                clear hnew
                go_wp2
                go_roundw
                case measure => (first | (show t.size - (wrap64 ((k:Int)+1)).toNat < t.size - ((k:Int)).toNat; rw [wrap_id _ (by omega) (by omega)]; omega) | (show t.size - ((k:Int)+1).toNat < t.size - ((k:Int)).toNat; omega))
                case rel => exact ⟨k + 1, by omega, by go_num, ⟨by rw [HNEW.out]; (with_reducible repeat (first | apply Kd.R_alloc | apply Kd.R_drewN | apply Kd.R_drew)); exact HC4.out⟩, ⟨by rw [HNEW.out]; (with_reducible repeat (first | apply Kd.R_alloc | apply Kd.R_drewN | apply Kd.R_drew)); exact HF4.out⟩, ⟨by rw [HNEW.out]; (with_reducible repeat (first | apply DecAt.alloc | apply DecAt.drewN | apply DecAt.drew)); exact HD4.out⟩, ⟨by (with_reducible repeat (first | apply only_alloc | apply only_drewN | apply only_drew)); exact HG4.out⟩⟩
          · have hbf : begOk c = false := by simpa using hb
            have hnew : St.upto t ⟨d, [], []⟩ (k + 1) = (⟨⟨wrap64 (a1 + 1), 0, n1, l1, u1, r1⟩, (cs ++ [⟨65533, a, wrap64 (a + h)⟩]) ++ [⟨65533, a1, wrap64 (a1 + 1)⟩], (fs ++ [⟨1, a⟩]) ++ [⟨1, a1⟩]⟩ : St) := by rw [hstep, e1]; unfold St.start; rw [if_neg hb]; show St.bad ⟨Dec.begin ⟨(wrap64 (a + h)), 0, n, l, u, r⟩ c, _, _⟩ 1 = _; rw [hd0]; rfl
            clear hstep
            go_wp2_with (first | (go_at_call 26; refine (begin_calls g _ c _ (by (with_reducible repeat (first | apply DecAt.alloc | apply DecAt.drewN | apply DecAt.drew)); exact HD3.out) hbr.1 hbr.2).mono ?_; rw [hd0, hbf]; rintro e w4 ⟨rfl, hd4, hg4⟩; obtain ⟨⟨_, _, _, _, _, _⟩, hf4⟩ := hd4.facts; have HC4 := Aside0.mk (R_dec (by (with_reducible repeat (first | apply Kd.R_alloc | apply Kd.R_drewN | apply Kd.R_drew)); exact HO3.out) hg4 hlt); have HF4 := Aside0.mk (R_dec (by (with_reducible repeat (first | apply Kd.R_alloc | apply Kd.R_drewN | apply Kd.R_drew)); exact HP3.out) hg4 hlt); have HG4 := Aside0.mk (only_then (by (with_reducible repeat (first | apply only_alloc | apply only_drewN | apply only_drew)); exact HG3.out) hg4 (fun b e => .inl (by cases e; rfl))); have HD4 := Aside0.mk hd4; clear hd4 hg4) | ((with_reducible refine gate_builtin (b := .append) (xs := #[(.tmp 30), .tmp 36]) rfl ?_); go_must (at_builtin; refine Kd.R_append k39 w.heap.size rfl (.tmp 30) (.tmp 36) 24 39 (.agg #[(.int .i64 0), (.int .i64 0)]) 16 rfl Try.underlying24 info39 rfl (by decide) (by omega) v1 (fs ++ [⟨1, a⟩]) (⟨1, a1⟩ : S39) [.int .i64 1, .int .i64 a1] (fun _ => True) (fun _ => False) rfl rfl ?aP (fun _ hk => hk.elim) ?aF ?aO (Below.refl _ _) ?aS ?aL ?_; (case aP => exact k39_mkM _ _ _ (⟨1, a1⟩ : S39)); (case aF => exact (fun _ _ => trivial)); (case aO => exact (by (with_reducible repeat (first | apply Kd.R_alloc | apply Kd.R_drewN | apply Kd.R_drew)); exact HF4.out)); (case aS => exact size_of_only (by (with_reducible repeat (first | apply only_alloc | apply only_drewN | apply only_drew)); exact HG4.out)); (case aL => (try simp only [List.length_append, List.length_cons, List.length_nil]); omega); intro v5 w5 ho hb hg hat; have HO5 := Aside0.mk ho; have HP5 := Aside0.mk (Kd.R_over' (by (with_reducible repeat (first | apply Kd.R_alloc | apply Kd.R_drewN | apply Kd.R_drew)); exact HC4.out) (Kd.R_typed (by (with_reducible repeat (first | apply Kd.R_alloc | apply Kd.R_drewN | apply Kd.R_drew)); exact HF4.out)) (by decide) hg); have HD5 := Aside0.mk (DecAt.below (by (with_reducible repeat (first | apply DecAt.alloc | apply DecAt.drewN | apply DecAt.drew)); exact HD4.out) hb hlt); have HG5 := Aside0.mk (only_belowB (by (with_reducible repeat (first | apply only_alloc | apply only_drewN | apply only_drew)); exact HG4.out) hb (Nat.le_refl _)); obtain ⟨⟨_, _, _, _, _, _⟩, hf5⟩ := HD5.out.facts; clear ho hb hg hat)) | (go_at_call 27; refine (told_calls g _ _ _ _ _ _ _ _ _ (by (with_reducible repeat (first | apply DecAt.alloc | apply DecAt.drewN | apply DecAt.drew)); exact HD5.out)).mono ?_; rintro e w6 ⟨rfl, hd6, hg6⟩; obtain ⟨⟨_, _, _, _, _, _⟩, hf6⟩ := hd6.facts; have HC6 := Aside0.mk (R_dec (by (with_reducible repeat (first | apply Kd.R_alloc | apply Kd.R_drewN | apply Kd.R_drew)); exact HP5.out) hg6 hlt); have HF6 := Aside0.mk (R_dec (by (with_reducible repeat (first | apply Kd.R_alloc | apply Kd.R_drewN | apply Kd.R_drew)); exact HO5.out) hg6 hlt); have HG6 := Aside0.mk (only_then (by (with_reducible repeat (first | apply only_alloc | apply only_drewN | apply only_drew)); exact HG5.out) hg6 (fun b e => .inl (by cases e; rfl))); have HD6 := Aside0.mk hd6; clear hd6 hg6) | ((with_reducible refine gate_builtin (b := .append) (xs := #[(.tmp 38), .tmp 41]) rfl ?_); go_must (at_builtin; refine Kd.R_append k36 w.heap.size rfl (.tmp 38) (.tmp 41) 23 36 (.agg #[(.int .i64 0), (.int .i64 0), (.int .i64 0)]) 24 rfl Try.underlying23 info36 rfl (by decide) (by omega) v3 (cs ++ [⟨65533, a, wrap64 (a + h)⟩]) (⟨65533, a1, wrap64 (a1 + 1)⟩ : S36) [.int .i64 65533, .int .i64 a1, .int .i64 (wrap64 (a1 + 1))] (fun _ => True) (fun _ => False) rfl rfl ?aP (fun _ hk => hk.elim) ?aF ?aO (Below.refl _ _) ?aS ?aL ?_; (case aP => exact k36_mkM _ _ _ (⟨65533, a1, wrap64 (a1 + 1)⟩ : S36)); (case aF => exact (fun _ _ => trivial)); (case aO => exact (by (with_reducible repeat (first | apply Kd.R_alloc | apply Kd.R_drewN | apply Kd.R_drew)); exact HC6.out)); (case aS => exact size_of_only (by (with_reducible repeat (first | apply only_alloc | apply only_drewN | apply only_drew)); exact HG6.out)); (case aL => (try simp only [List.length_append, List.length_cons, List.length_nil]); omega); intro v7 w7 ho hb hg hat; have HO7 := Aside0.mk ho; have HP7 := Aside0.mk (Kd.R_over' (by (with_reducible repeat (first | apply Kd.R_alloc | apply Kd.R_drewN | apply Kd.R_drew)); exact HF6.out) (Kd.R_typed (by (with_reducible repeat (first | apply Kd.R_alloc | apply Kd.R_drewN | apply Kd.R_drew)); exact HC6.out)) (by decide) hg); have HD7 := Aside0.mk (DecAt.below (by (with_reducible repeat (first | apply DecAt.alloc | apply DecAt.drewN | apply DecAt.drew)); exact HD6.out) hb hlt); have HG7 := Aside0.mk (only_belowB (by (with_reducible repeat (first | apply only_alloc | apply only_drewN | apply only_drew)); exact HG6.out) hb (Nat.le_refl _)); obtain ⟨⟨_, _, _, _, _, _⟩, hf7⟩ := HD7.out.facts; clear ho hb hg hat)))
            all_goals
              (try simp only [Exit.jump, Exit.inBlock, Exit.then])
              (try go_at_K)
              clear hs hd0 hbr hx
              have HNEW := Aside0.mk hnew
              clear hnew
              go_wp2
              go_roundw
              case measure => (first | (show t.size - (wrap64 ((k:Int)+1)).toNat < t.size - ((k:Int)).toNat; rw [wrap_id _ (by omega) (by omega)]; omega) | (show t.size - ((k:Int)+1).toNat < t.size - ((k:Int)).toNat; omega))
              case rel => exact ⟨k + 1, by omega, by go_num, ⟨by rw [HNEW.out]; (with_reducible repeat (first | apply Kd.R_alloc | apply Kd.R_drewN | apply Kd.R_drew)); exact HO7.out⟩, ⟨by rw [HNEW.out]; (with_reducible repeat (first | apply Kd.R_alloc | apply Kd.R_drewN | apply Kd.R_drew)); exact HP7.out⟩, ⟨by rw [HNEW.out]; (with_reducible repeat (first | apply DecAt.alloc | apply DecAt.drewN | apply DecAt.drew)); exact HD7.out⟩, ⟨by (with_reducible repeat (first | apply only_alloc | apply only_drewN | apply only_drew)); exact HG7.out⟩⟩
        · by_cases hr2 : u < c
          · have e1 := step_out a h n l u r cs fs c h0 (.inr hr2)
            go_wp2_with (first | ((with_reducible refine gate_builtin (b := .append) (xs := #[(.tmp 57), .tmp 63]) rfl ?_); go_must (at_builtin; refine Kd.R_append k39 w.heap.size rfl (.tmp 57) (.tmp 63) 24 39 (.agg #[(.int .i64 0), (.int .i64 0)]) 16 rfl Try.underlying24 info39 rfl (by decide) (by omega) u7 fs (⟨1, a⟩ : S39) [.int .i64 1, .int .i64 a] (fun _ => True) (fun _ => False) rfl rfl ?aP (fun _ hk => hk.elim) ?aF ?aO (Below.refl _ _) ?aS ?aL ?_; (case aP => exact k39_mkM _ _ _ (⟨1, a⟩ : S39)); (case aF => exact (fun _ _ => trivial)); (case aO => exact (by (with_reducible repeat (first | apply Kd.R_alloc | apply Kd.R_drewN | apply Kd.R_drew)); exact HF.out)); (case aS => exact size_of_only (by (with_reducible repeat (first | apply only_alloc | apply only_drewN | apply only_drew)); exact HG.out)); (case aL => (try simp only [List.length_append, List.length_cons, List.length_nil]); omega); intro v1 w1 ho hb hg hat; have HO1 := Aside0.mk ho; have HP1 := Aside0.mk (Kd.R_over' (by (with_reducible repeat (first | apply Kd.R_alloc | apply Kd.R_drewN | apply Kd.R_drew)); exact HC.out) (Kd.R_typed (by (with_reducible repeat (first | apply Kd.R_alloc | apply Kd.R_drewN | apply Kd.R_drew)); exact HF.out)) (by decide) hg); have HD1 := Aside0.mk (DecAt.below (by (with_reducible repeat (first | apply DecAt.alloc | apply DecAt.drewN | apply DecAt.drew)); exact HDk.out) hb hlt); have HG1 := Aside0.mk (only_belowB (by (with_reducible repeat (first | apply only_alloc | apply only_drewN | apply only_drew)); exact HG.out) hb (Nat.le_refl _)); obtain ⟨⟨_, _, _, _, _, _⟩, hf1⟩ := HD1.out.facts; clear ho hb hg hat)) | (go_at_call 27; refine (told_calls g _ _ _ _ _ _ _ _ _ (by (with_reducible repeat (first | apply DecAt.alloc | apply DecAt.drewN | apply DecAt.drew)); exact HD1.out)).mono ?_; rintro e w2 ⟨rfl, hd2, hg2⟩; obtain ⟨⟨_, _, _, _, _, _⟩, hf2⟩ := hd2.facts; have HC2 := Aside0.mk (R_dec (by (with_reducible repeat (first | apply Kd.R_alloc | apply Kd.R_drewN | apply Kd.R_drew)); exact HP1.out) hg2 hlt); have HF2 := Aside0.mk (R_dec (by (with_reducible repeat (first | apply Kd.R_alloc | apply Kd.R_drewN | apply Kd.R_drew)); exact HO1.out) hg2 hlt); have HG2 := Aside0.mk (only_then (by (with_reducible repeat (first | apply only_alloc | apply only_drewN | apply only_drew)); exact HG1.out) hg2 (fun b e => .inl (by cases e; rfl))); have HD2 := Aside0.mk hd2; clear hd2 hg2) | ((with_reducible refine gate_builtin (b := .append) (xs := #[(.tmp 65), .tmp 72]) rfl ?_); go_must (at_builtin; refine Kd.R_append k36 w.heap.size rfl (.tmp 65) (.tmp 72) 23 36 (.agg #[(.int .i64 0), (.int .i64 0), (.int .i64 0)]) 24 rfl Try.underlying23 info36 rfl (by decide) (by omega) u6 cs (⟨65533, a, wrap64 (a + h)⟩ : S36) [.int .i64 65533, .int .i64 a, .int .i64 (wrap64 (a + h))] (fun _ => True) (fun _ => False) rfl rfl ?aP (fun _ hk => hk.elim) ?aF ?aO (Below.refl _ _) ?aS ?aL ?_; (case aP => exact k36_mkM _ _ _ (⟨65533, a, wrap64 (a + h)⟩ : S36)); (case aF => exact (fun _ _ => trivial)); (case aO => exact (by (with_reducible repeat (first | apply Kd.R_alloc | apply Kd.R_drewN | apply Kd.R_drew)); exact HC2.out)); (case aS => exact size_of_only (by (with_reducible repeat (first | apply only_alloc | apply only_drewN | apply only_drew)); exact HG2.out)); (case aL => (try simp only [List.length_append, List.length_cons, List.length_nil]); omega); intro v3 w3 ho hb hg hat; have HO3 := Aside0.mk ho; have HP3 := Aside0.mk (Kd.R_over' (by (with_reducible repeat (first | apply Kd.R_alloc | apply Kd.R_drewN | apply Kd.R_drew)); exact HF2.out) (Kd.R_typed (by (with_reducible repeat (first | apply Kd.R_alloc | apply Kd.R_drewN | apply Kd.R_drew)); exact HC2.out)) (by decide) hg); have HD3 := Aside0.mk (DecAt.below (by (with_reducible repeat (first | apply DecAt.alloc | apply DecAt.drewN | apply DecAt.drew)); exact HD2.out) hb hlt); have HG3 := Aside0.mk (only_belowB (by (with_reducible repeat (first | apply only_alloc | apply only_drewN | apply only_drew)); exact HG2.out) hb (Nat.le_refl _)); obtain ⟨⟨_, _, _, _, _, _⟩, hf3⟩ := HD3.out.facts; clear ho hb hg hat)))
            apply wp_goto
            refine ⟨rfl, ?_⟩
            show Code.wp _ _ _ _ _
            generalize hd0 : Dec.begin ⟨(wrap64 (a + h)), 0, n, l, u, r⟩ c = d1 at *
            obtain ⟨a1, h1, n1, l1, u1, r1⟩ := d1
            by_cases hb : begOk c = true
            · have hst : St.start ⟨⟨(wrap64 (a + h)), 0, n, l, u, r⟩, (cs ++ [⟨65533, a, wrap64 (a + h)⟩]), (fs ++ [⟨1, a⟩])⟩ c = St.fin ⟨⟨a1, h1, n1, l1, u1, r1⟩, (cs ++ [⟨65533, a, wrap64 (a + h)⟩]), (fs ++ [⟨1, a⟩])⟩ := by unfold St.start; rw [if_pos hb]; show St.fin ⟨Dec.begin ⟨(wrap64 (a + h)), 0, n, l, u, r⟩ c, _, _⟩ = _; rw [hd0]
              by_cases hn : h1 = n1
              · subst hn
                have hnew : St.upto t ⟨d, [], []⟩ (k + 1) = (⟨⟨wrap64 (a1 + h1), 0, h1, l1, u1, r1⟩, (cs ++ [⟨65533, a, wrap64 (a + h)⟩]) ++ [⟨r1, a1, wrap64 (a1 + h1)⟩], (fs ++ [⟨1, a⟩])⟩ : St) := by rw [hstep, e1, hst]; unfold St.fin; rw [if_pos rfl]; rfl
                clear hstep hst
                go_wp2_with (go_at_call 26; refine (begin_calls g _ c _ (by (with_reducible repeat (first | apply DecAt.alloc | apply DecAt.drewN | apply DecAt.drew)); exact HD3.out) hbr.1 hbr.2).mono ?_; rw [hd0, hb]; rintro e w4 ⟨rfl, hd4, hg4⟩; obtain ⟨⟨_, _, _, _, _, _⟩, hf4⟩ := hd4.facts; have HC4 := Aside0.mk (R_dec (by (with_reducible repeat (first | apply Kd.R_alloc | apply Kd.R_drewN | apply Kd.R_drew)); exact HO3.out) hg4 hlt); have HF4 := Aside0.mk (R_dec (by (with_reducible repeat (first | apply Kd.R_alloc | apply Kd.R_drewN | apply Kd.R_drew)); exact HP3.out) hg4 hlt); have HG4 := Aside0.mk (only_then (by (with_reducible repeat (first | apply only_alloc | apply only_drewN | apply only_drew)); exact HG3.out) hg4 (fun b e => .inl (by cases e; rfl))); have HD4 := Aside0.mk hd4; clear hd4 hg4)
                go_quiet (fail)
                go_wp2
                go_wp2
                go_region_law (first | (refine goes_ Try.func27 (by kernel_rfl) rfl #[.pointer (some ⟨g, 0, none⟩), .int .i64 r1, .int .i64 h1] (by rfl) rfl rfl (by simp only [List.map_toArray, List.map_cons, List.map_nil]; rfl) ?_; refine (told_calls g _ _ _ _ _ _ _ _ _ (by (with_reducible repeat (first | apply DecAt.alloc | apply DecAt.drewN | apply DecAt.drew)); exact HD4.out)).mono ?_; rintro e w5 ⟨rfl, hd5, hg5⟩; refine ⟨_, rfl, ?_⟩; obtain ⟨⟨_, _, _, _, _, _⟩, hf5⟩ := hd5.facts; have HC5 := Aside0.mk (R_dec (by (with_reducible repeat (first | apply Kd.R_alloc | apply Kd.R_drewN | apply Kd.R_drew)); exact HC4.out) hg5 hlt); have HF5 := Aside0.mk (R_dec (by (with_reducible repeat (first | apply Kd.R_alloc | apply Kd.R_drewN | apply Kd.R_drew)); exact HF4.out) hg5 hlt); have HG5 := Aside0.mk (only_then (by (with_reducible repeat (first | apply only_alloc | apply only_drewN | apply only_drew)); exact HG4.out) hg5 (fun b e => .inl (by cases e; rfl))); have HD5 := Aside0.mk hd5; clear hd5 hg5) | (refine Kd.R_append_step k36 w.heap.size rfl (.tmp 108) (.tmp 119) 23 36 (.agg #[(.int .i64 0), (.int .i64 0), (.int .i64 0)]) 24 rfl Try.underlying23 info36 rfl (by decide) (by omega) v3 (cs ++ [⟨65533, a, wrap64 (a + h)⟩]) (⟨r1, a1, wrap64 (a1 + h1)⟩ : S36) [.int .i64 (r1), .int .i64 a1, .int .i64 (wrap64 (a1 + h1))] (fun _ => True) (fun _ => False) rfl rfl ?aP (fun _ hk => hk.elim) ?aF ?aO (Below.refl _ _) ?aS ?aL ?_; (case aP => exact k36_mkM _ _ _ (⟨r1, a1, wrap64 (a1 + h1)⟩ : S36)); (case aF => exact (fun _ _ => trivial)); (case aO => exact (by (with_reducible repeat (first | apply Kd.R_alloc | apply Kd.R_drewN | apply Kd.R_drew)); exact HC5.out)); (case aS => exact size_of_only (by (with_reducible repeat (first | apply only_alloc | apply only_drewN | apply only_drew)); exact HG5.out)); (case aL => (try simp only [List.length_append, List.length_cons, List.length_nil]); omega); intro v6 w6 ho hb hg hat; have HO6 := Aside0.mk ho; have HP6 := Aside0.mk (Kd.R_over' (by (with_reducible repeat (first | apply Kd.R_alloc | apply Kd.R_drewN | apply Kd.R_drew)); exact HF5.out) (Kd.R_typed (by (with_reducible repeat (first | apply Kd.R_alloc | apply Kd.R_drewN | apply Kd.R_drew)); exact HC5.out)) (by decide) hg); have HD6 := Aside0.mk (DecAt.below (by (with_reducible repeat (first | apply DecAt.alloc | apply DecAt.drewN | apply DecAt.drew)); exact HD5.out) hb hlt); have HG6 := Aside0.mk (only_belowB (by (with_reducible repeat (first | apply only_alloc | apply only_drewN | apply only_drew)); exact HG5.out) hb (Nat.le_refl _)); obtain ⟨⟨_, _, _, _, _, _⟩, hf6⟩ := HD6.out.facts; clear ho hb hg hat))
                all_goals go_wp2
                all_goals
                  (try simp only [Exit.jump, Exit.inBlock, Exit.then])
                  (try go_at_K)
                  clear hs hd0 hbr hx
                  have HNEW := Aside0.mk hnew
                  clear hnew
                  go_wp2
                  go_roundw
                  case measure => (first | (show t.size - (wrap64 ((k:Int)+1)).toNat < t.size - ((k:Int)).toNat; rw [wrap_id _ (by omega) (by omega)]; omega) | (show t.size - ((k:Int)+1).toNat < t.size - ((k:Int)).toNat; omega))
                  case rel => exact ⟨k + 1, by omega, by go_num, ⟨by rw [HNEW.out]; (with_reducible repeat (first | apply Kd.R_alloc | apply Kd.R_drewN | apply Kd.R_drew)); exact HO6.out⟩, ⟨by rw [HNEW.out]; (with_reducible repeat (first | apply Kd.R_alloc | apply Kd.R_drewN | apply Kd.R_drew)); exact HP6.out⟩, ⟨by rw [HNEW.out]; (with_reducible repeat (first | apply DecAt.alloc | apply DecAt.drewN | apply DecAt.drew)); exact HD6.out⟩, ⟨by (with_reducible repeat (first | apply only_alloc | apply only_drewN | apply only_drew)); exact HG6.out⟩⟩
              · have hnew : St.upto t ⟨d, [], []⟩ (k + 1) = (⟨⟨a1, h1, n1, l1, u1, r1⟩, (cs ++ [⟨65533, a, wrap64 (a + h)⟩]), (fs ++ [⟨1, a⟩])⟩ : St) := by rw [hstep, e1, hst]; unfold St.fin; rw [if_neg hn]
                clear hstep hst
                have hnb : (h1 == n1) = false := beq_eq_false_iff_ne.mpr hn
                go_wp2_with (go_at_call 26; refine (begin_calls g _ c _ (by (with_reducible repeat (first | apply DecAt.alloc | apply DecAt.drewN | apply DecAt.drew)); exact HD3.out) hbr.1 hbr.2).mono ?_; rw [hd0, hb]; rintro e w4 ⟨rfl, hd4, hg4⟩; obtain ⟨⟨_, _, _, _, _, _⟩, hf4⟩ := hd4.facts; have HC4 := Aside0.mk (R_dec (by (with_reducible repeat (first | apply Kd.R_alloc | apply Kd.R_drewN | apply Kd.R_drew)); exact HO3.out) hg4 hlt); have HF4 := Aside0.mk (R_dec (by (with_reducible repeat (first | apply Kd.R_alloc | apply Kd.R_drewN | apply Kd.R_drew)); exact HP3.out) hg4 hlt); have HG4 := Aside0.mk (only_then (by (with_reducible repeat (first | apply only_alloc | apply only_drewN | apply only_drew)); exact HG3.out) hg4 (fun b e => .inl (by cases e; rfl))); have HD4 := Aside0.mk hd4; clear hd4 hg4)
                go_quiet (fail)
                go_wp2
                go_wp2
                all_goals
                  (try simp only [Exit.jump, Exit.inBlock, Exit.then])
                  (try go_at_K)
                  clear hs hd0 hbr hx
                  have HNEW := Aside0.mk hnew
                  clear hnew
                  go_wp2
                  go_roundw
                  case measure => (first | (show t.size - (wrap64 ((k:Int)+1)).toNat < t.size - ((k:Int)).toNat; rw [wrap_id _ (by omega) (by omega)]; omega) | (show t.size - ((k:Int)+1).toNat < t.size - ((k:Int)).toNat; omega))
                  case rel => exact ⟨k + 1, by omega, by go_num, ⟨by rw [HNEW.out]; (with_reducible repeat (first | apply Kd.R_alloc | apply Kd.R_drewN | apply Kd.R_drew)); exact HC4.out⟩, ⟨by rw [HNEW.out]; (with_reducible repeat (first | apply Kd.R_alloc | apply Kd.R_drewN | apply Kd.R_drew)); exact HF4.out⟩, ⟨by rw [HNEW.out]; (with_reducible repeat (first | apply DecAt.alloc | apply DecAt.drewN | apply DecAt.drew)); exact HD4.out⟩, ⟨by (with_reducible repeat (first | apply only_alloc | apply only_drewN | apply only_drew)); exact HG4.out⟩⟩
            · have hbf : begOk c = false := by simpa using hb
              have hnew : St.upto t ⟨d, [], []⟩ (k + 1) = (⟨⟨wrap64 (a1 + 1), 0, n1, l1, u1, r1⟩, (cs ++ [⟨65533, a, wrap64 (a + h)⟩]) ++ [⟨65533, a1, wrap64 (a1 + 1)⟩], (fs ++ [⟨1, a⟩]) ++ [⟨1, a1⟩]⟩ : St) := by rw [hstep, e1]; unfold St.start; rw [if_neg hb]; show St.bad ⟨Dec.begin ⟨(wrap64 (a + h)), 0, n, l, u, r⟩ c, _, _⟩ 1 = _; rw [hd0]; rfl
              clear hstep
              go_wp2_with (first | (go_at_call 26; refine (begin_calls g _ c _ (by (with_reducible repeat (first | apply DecAt.alloc | apply DecAt.drewN | apply DecAt.drew)); exact HD3.out) hbr.1 hbr.2).mono ?_; rw [hd0, hbf]; rintro e w4 ⟨rfl, hd4, hg4⟩; obtain ⟨⟨_, _, _, _, _, _⟩, hf4⟩ := hd4.facts; have HC4 := Aside0.mk (R_dec (by (with_reducible repeat (first | apply Kd.R_alloc | apply Kd.R_drewN | apply Kd.R_drew)); exact HO3.out) hg4 hlt); have HF4 := Aside0.mk (R_dec (by (with_reducible repeat (first | apply Kd.R_alloc | apply Kd.R_drewN | apply Kd.R_drew)); exact HP3.out) hg4 hlt); have HG4 := Aside0.mk (only_then (by (with_reducible repeat (first | apply only_alloc | apply only_drewN | apply only_drew)); exact HG3.out) hg4 (fun b e => .inl (by cases e; rfl))); have HD4 := Aside0.mk hd4; clear hd4 hg4) | ((with_reducible refine gate_builtin (b := .append) (xs := #[(.tmp 30), .tmp 36]) rfl ?_); go_must (at_builtin; refine Kd.R_append k39 w.heap.size rfl (.tmp 30) (.tmp 36) 24 39 (.agg #[(.int .i64 0), (.int .i64 0)]) 16 rfl Try.underlying24 info39 rfl (by decide) (by omega) v1 (fs ++ [⟨1, a⟩]) (⟨1, a1⟩ : S39) [.int .i64 1, .int .i64 a1] (fun _ => True) (fun _ => False) rfl rfl ?aP (fun _ hk => hk.elim) ?aF ?aO (Below.refl _ _) ?aS ?aL ?_; (case aP => exact k39_mkM _ _ _ (⟨1, a1⟩ : S39)); (case aF => exact (fun _ _ => trivial)); (case aO => exact (by (with_reducible repeat (first | apply Kd.R_alloc | apply Kd.R_drewN | apply Kd.R_drew)); exact HF4.out)); (case aS => exact size_of_only (by (with_reducible repeat (first | apply only_alloc | apply only_drewN | apply only_drew)); exact HG4.out)); (case aL => (try simp only [List.length_append, List.length_cons, List.length_nil]); omega); intro v5 w5 ho hb hg hat; have HO5 := Aside0.mk ho; have HP5 := Aside0.mk (Kd.R_over' (by (with_reducible repeat (first | apply Kd.R_alloc | apply Kd.R_drewN | apply Kd.R_drew)); exact HC4.out) (Kd.R_typed (by (with_reducible repeat (first | apply Kd.R_alloc | apply Kd.R_drewN | apply Kd.R_drew)); exact HF4.out)) (by decide) hg); have HD5 := Aside0.mk (DecAt.below (by (with_reducible repeat (first | apply DecAt.alloc | apply DecAt.drewN | apply DecAt.drew)); exact HD4.out) hb hlt); have HG5 := Aside0.mk (only_belowB (by (with_reducible repeat (first | apply only_alloc | apply only_drewN | apply only_drew)); exact HG4.out) hb (Nat.le_refl _)); obtain ⟨⟨_, _, _, _, _, _⟩, hf5⟩ := HD5.out.facts; clear ho hb hg hat)) | (go_at_call 27; refine (told_calls g _ _ _ _ _ _ _ _ _ (by (with_reducible repeat (first | apply DecAt.alloc | apply DecAt.drewN | apply DecAt.drew)); exact HD5.out)).mono ?_; rintro e w6 ⟨rfl, hd6, hg6⟩; obtain ⟨⟨_, _, _, _, _, _⟩, hf6⟩ := hd6.facts; have HC6 := Aside0.mk (R_dec (by (with_reducible repeat (first | apply Kd.R_alloc | apply Kd.R_drewN | apply Kd.R_drew)); exact HP5.out) hg6 hlt); have HF6 := Aside0.mk (R_dec (by (with_reducible repeat (first | apply Kd.R_alloc | apply Kd.R_drewN | apply Kd.R_drew)); exact HO5.out) hg6 hlt); have HG6 := Aside0.mk (only_then (by (with_reducible repeat (first | apply only_alloc | apply only_drewN | apply only_drew)); exact HG5.out) hg6 (fun b e => .inl (by cases e; rfl))); have HD6 := Aside0.mk hd6; clear hd6 hg6) | ((with_reducible refine gate_builtin (b := .append) (xs := #[(.tmp 38), .tmp 41]) rfl ?_); go_must (at_builtin; refine Kd.R_append k36 w.heap.size rfl (.tmp 38) (.tmp 41) 23 36 (.agg #[(.int .i64 0), (.int .i64 0), (.int .i64 0)]) 24 rfl Try.underlying23 info36 rfl (by decide) (by omega) v3 (cs ++ [⟨65533, a, wrap64 (a + h)⟩]) (⟨65533, a1, wrap64 (a1 + 1)⟩ : S36) [.int .i64 65533, .int .i64 a1, .int .i64 (wrap64 (a1 + 1))] (fun _ => True) (fun _ => False) rfl rfl ?aP (fun _ hk => hk.elim) ?aF ?aO (Below.refl _ _) ?aS ?aL ?_; (case aP => exact k36_mkM _ _ _ (⟨65533, a1, wrap64 (a1 + 1)⟩ : S36)); (case aF => exact (fun _ _ => trivial)); (case aO => exact (by (with_reducible repeat (first | apply Kd.R_alloc | apply Kd.R_drewN | apply Kd.R_drew)); exact HC6.out)); (case aS => exact size_of_only (by (with_reducible repeat (first | apply only_alloc | apply only_drewN | apply only_drew)); exact HG6.out)); (case aL => (try simp only [List.length_append, List.length_cons, List.length_nil]); omega); intro v7 w7 ho hb hg hat; have HO7 := Aside0.mk ho; have HP7 := Aside0.mk (Kd.R_over' (by (with_reducible repeat (first | apply Kd.R_alloc | apply Kd.R_drewN | apply Kd.R_drew)); exact HF6.out) (Kd.R_typed (by (with_reducible repeat (first | apply Kd.R_alloc | apply Kd.R_drewN | apply Kd.R_drew)); exact HC6.out)) (by decide) hg); have HD7 := Aside0.mk (DecAt.below (by (with_reducible repeat (first | apply DecAt.alloc | apply DecAt.drewN | apply DecAt.drew)); exact HD6.out) hb hlt); have HG7 := Aside0.mk (only_belowB (by (with_reducible repeat (first | apply only_alloc | apply only_drewN | apply only_drew)); exact HG6.out) hb (Nat.le_refl _)); obtain ⟨⟨_, _, _, _, _, _⟩, hf7⟩ := HD7.out.facts; clear ho hb hg hat)))
              all_goals
                (try simp only [Exit.jump, Exit.inBlock, Exit.then])
                (try go_at_K)
                clear hs hd0 hbr hx
                have HNEW := Aside0.mk hnew
                clear hnew
                go_wp2
                go_roundw
                case measure => (first | (show t.size - (wrap64 ((k:Int)+1)).toNat < t.size - ((k:Int)).toNat; rw [wrap_id _ (by omega) (by omega)]; omega) | (show t.size - ((k:Int)+1).toNat < t.size - ((k:Int)).toNat; omega))
                case rel => exact ⟨k + 1, by omega, by go_num, ⟨by rw [HNEW.out]; (with_reducible repeat (first | apply Kd.R_alloc | apply Kd.R_drewN | apply Kd.R_drew)); exact HO7.out⟩, ⟨by rw [HNEW.out]; (with_reducible repeat (first | apply Kd.R_alloc | apply Kd.R_drewN | apply Kd.R_drew)); exact HP7.out⟩, ⟨by rw [HNEW.out]; (with_reducible repeat (first | apply DecAt.alloc | apply DecAt.drewN | apply DecAt.drew)); exact HD7.out⟩, ⟨by (with_reducible repeat (first | apply only_alloc | apply only_drewN | apply only_drew)); exact HG7.out⟩⟩
          · have e1 := step_in a h n l u r cs fs c h0 (by omega)
            have hd0 : True := trivial
            by_cases hn : wrap64 (h + 1) = n
            · subst hn
              have hnew : St.upto t ⟨d, [], []⟩ (k + 1) = (⟨⟨wrap64 (a + (wrap64 (h + 1))), 0, (wrap64 (h + 1)), 128, 191, (Go.bits .or .i64 (wrap64 (r * 64)) (c % 64))⟩, cs ++ [⟨(Go.bits .or .i64 (wrap64 (r * 64)) (c % 64)), a, wrap64 (a + (wrap64 (h + 1)))⟩], fs⟩ : St) := by rw [hstep, e1]; unfold St.fin; rw [if_pos rfl]; rfl
              clear hstep e1
              go_wp2
              have p1 := HDk.out.set5 (Go.bits .or .i64 (wrap64 (r * 64)) (c % 64))
              have p2 := p1.set1 (wrap64 (h + 1))
              have p3 := p2.set3 128
              have p4 := p3.set4 191
              have hg9 : wr.grownBy ((((wr.setCell ⟨g, 5, none⟩ (.int .i64 (Go.bits .or .i64 (wrap64 (r * 64)) (c % 64)))).setCell ⟨g, 1, none⟩ (.int .i64 (wrap64 (h + 1)))).setCell ⟨g, 3, none⟩ (.int .u8 128)).setCell ⟨g, 4, none⟩ (.int .u8 191)) (some g) := by (iterate 4 refine only_setCell ?_ (.inl rfl) _); exact World.grownBy.refl wr _
              clear p1 p2 p3
              obtain ⟨w9, hw9⟩ : ∃ w9, w9 = ((((wr.setCell ⟨g, 5, none⟩ (.int .i64 (Go.bits .or .i64 (wrap64 (r * 64)) (c % 64)))).setCell ⟨g, 1, none⟩ (.int .i64 (wrap64 (h + 1)))).setCell ⟨g, 3, none⟩ (.int .u8 128)).setCell ⟨g, 4, none⟩ (.int .u8 191)) := ⟨_, rfl⟩
              rw [← hw9] at p4 hg9 ⊢
              clear hw9
              have HC9 := Aside0.mk (R_dec HC.out hg9 hlt)
              have HF9 := Aside0.mk (R_dec HF.out hg9 hlt)
              have HG9 := Aside0.mk (only_then HG.out hg9 (fun b e => .inl (by cases e; rfl)))
              have HD9 := Aside0.mk p4
              obtain ⟨⟨b0, b1, b2, b3, b4, b5⟩, hf9⟩ := HD9.out.facts
              clear p4 hg9 c0 c1 c2 c3 c4 c5 hf
              go_quiet (fail)
              go_wp2
              go_wp2
              go_region_law (first | (refine goes_ Try.func27 (by kernel_rfl) rfl #[.pointer (some ⟨g, 0, none⟩), .int .i64 (Go.bits .or .i64 (wrap64 (r * 64)) (c % 64)), .int .i64 (wrap64 (h + 1))] (by rfl) rfl rfl (by simp only [List.map_toArray, List.map_cons, List.map_nil]; rfl) ?_; refine (told_calls g _ _ _ _ _ _ _ _ _ (by (with_reducible repeat (first | apply DecAt.alloc | apply DecAt.drewN | apply DecAt.drew)); exact HD9.out)).mono ?_; rintro e w21 ⟨rfl, hd21, hg21⟩; refine ⟨_, rfl, ?_⟩; obtain ⟨⟨_, _, _, _, _, _⟩, hf21⟩ := hd21.facts; have HC21 := Aside0.mk (R_dec (by (with_reducible repeat (first | apply Kd.R_alloc | apply Kd.R_drewN | apply Kd.R_drew)); exact HC9.out) hg21 hlt); have HF21 := Aside0.mk (R_dec (by (with_reducible repeat (first | apply Kd.R_alloc | apply Kd.R_drewN | apply Kd.R_drew)); exact HF9.out) hg21 hlt); have HG21 := Aside0.mk (only_then (by (with_reducible repeat (first | apply only_alloc | apply only_drewN | apply only_drew)); exact HG9.out) hg21 (fun b e => .inl (by cases e; rfl))); have HD21 := Aside0.mk hd21; clear hd21 hg21) | (refine Kd.R_append_step k36 w.heap.size rfl (.tmp 108) (.tmp 119) 23 36 (.agg #[(.int .i64 0), (.int .i64 0), (.int .i64 0)]) 24 rfl Try.underlying23 info36 rfl (by decide) (by omega) u6 cs (⟨(Go.bits .or .i64 (wrap64 (r * 64)) (c % 64)), a, wrap64 (a + (wrap64 (h + 1)))⟩ : S36) [.int .i64 ((Go.bits .or .i64 (wrap64 (r * 64)) (c % 64))), .int .i64 a, .int .i64 (wrap64 (a + (wrap64 (h + 1))))] (fun _ => True) (fun _ => False) rfl rfl ?aP (fun _ hk => hk.elim) ?aF ?aO (Below.refl _ _) ?aS ?aL ?_; (case aP => exact k36_mkM _ _ _ (⟨(Go.bits .or .i64 (wrap64 (r * 64)) (c % 64)), a, wrap64 (a + (wrap64 (h + 1)))⟩ : S36)); (case aF => exact (fun _ _ => trivial)); (case aO => exact (by (with_reducible repeat (first | apply Kd.R_alloc | apply Kd.R_drewN | apply Kd.R_drew)); exact HC21.out)); (case aS => exact size_of_only (by (with_reducible repeat (first | apply only_alloc | apply only_drewN | apply only_drew)); exact HG21.out)); (case aL => (try simp only [List.length_append, List.length_cons, List.length_nil]); omega); intro v22 w22 ho hb hg hat; have HO22 := Aside0.mk ho; have HP22 := Aside0.mk (Kd.R_over' (by (with_reducible repeat (first | apply Kd.R_alloc | apply Kd.R_drewN | apply Kd.R_drew)); exact HF21.out) (Kd.R_typed (by (with_reducible repeat (first | apply Kd.R_alloc | apply Kd.R_drewN | apply Kd.R_drew)); exact HC21.out)) (by decide) hg); have HD22 := Aside0.mk (DecAt.below (by (with_reducible repeat (first | apply DecAt.alloc | apply DecAt.drewN | apply DecAt.drew)); exact HD21.out) hb hlt); have HG22 := Aside0.mk (only_belowB (by (with_reducible repeat (first | apply only_alloc | apply only_drewN | apply only_drew)); exact HG21.out) hb (Nat.le_refl _)); obtain ⟨⟨_, _, _, _, _, _⟩, hf22⟩ := HD22.out.facts; clear ho hb hg hat))
              all_goals go_wp2
              all_goals
                (try simp only [Exit.jump, Exit.inBlock, Exit.then])
                (try go_at_K)
                clear hs hd0 hbr hx
                have HNEW := Aside0.mk hnew
                clear hnew
                go_wp2
                go_roundw
                case measure => (first | (show t.size - (wrap64 ((k:Int)+1)).toNat < t.size - ((k:Int)).toNat; rw [wrap_id _ (by omega) (by omega)]; omega) | (show t.size - ((k:Int)+1).toNat < t.size - ((k:Int)).toNat; omega))
                case rel => exact ⟨k + 1, by omega, by go_num, ⟨by rw [HNEW.out]; (with_reducible repeat (first | apply Kd.R_alloc | apply Kd.R_drewN | apply Kd.R_drew)); exact HO22.out⟩, ⟨by rw [HNEW.out]; (with_reducible repeat (first | apply Kd.R_alloc | apply Kd.R_drewN | apply Kd.R_drew)); exact HP22.out⟩, ⟨by rw [HNEW.out]; (with_reducible repeat (first | apply DecAt.alloc | apply DecAt.drewN | apply DecAt.drew)); exact HD22.out⟩, ⟨by (with_reducible repeat (first | apply only_alloc | apply only_drewN | apply only_drew)); exact HG22.out⟩⟩
            · have hnb : (wrap64 (h + 1) == n) = false := beq_eq_false_iff_ne.mpr hn
              have hnew : St.upto t ⟨d, [], []⟩ (k + 1) = (⟨⟨a, (wrap64 (h + 1)), n, 128, 191, (Go.bits .or .i64 (wrap64 (r * 64)) (c % 64))⟩, cs, fs⟩ : St) := by rw [hstep, e1]; unfold St.fin; rw [if_neg hn]
              clear hstep e1
              go_wp2
              have p1 := HDk.out.set5 (Go.bits .or .i64 (wrap64 (r * 64)) (c % 64))
              have p2 := p1.set1 (wrap64 (h + 1))
              have p3 := p2.set3 128
              have p4 := p3.set4 191
              have hg9 : wr.grownBy ((((wr.setCell ⟨g, 5, none⟩ (.int .i64 (Go.bits .or .i64 (wrap64 (r * 64)) (c % 64)))).setCell ⟨g, 1, none⟩ (.int .i64 (wrap64 (h + 1)))).setCell ⟨g, 3, none⟩ (.int .u8 128)).setCell ⟨g, 4, none⟩ (.int .u8 191)) (some g) := by (iterate 4 refine only_setCell ?_ (.inl rfl) _); exact World.grownBy.refl wr _
              clear p1 p2 p3
              obtain ⟨w9, hw9⟩ : ∃ w9, w9 = ((((wr.setCell ⟨g, 5, none⟩ (.int .i64 (Go.bits .or .i64 (wrap64 (r * 64)) (c % 64)))).setCell ⟨g, 1, none⟩ (.int .i64 (wrap64 (h + 1)))).setCell ⟨g, 3, none⟩ (.int .u8 128)).setCell ⟨g, 4, none⟩ (.int .u8 191)) := ⟨_, rfl⟩
              rw [← hw9] at p4 hg9 ⊢
              clear hw9
              have HC9 := Aside0.mk (R_dec HC.out hg9 hlt)
              have HF9 := Aside0.mk (R_dec HF.out hg9 hlt)
              have HG9 := Aside0.mk (only_then HG.out hg9 (fun b e => .inl (by cases e; rfl)))
              have HD9 := Aside0.mk p4
              obtain ⟨⟨b0, b1, b2, b3, b4, b5⟩, hf9⟩ := HD9.out.facts
              clear p4 hg9 c0 c1 c2 c3 c4 c5 hf
              go_quiet (fail)
              go_wp2
              go_wp2
              all_goals
                (try simp only [Exit.jump, Exit.inBlock, Exit.then])
                (try go_at_K)
                clear hs hd0 hbr hx
                have HNEW := Aside0.mk hnew
                clear hnew
                go_wp2
                go_roundw
                case measure => (first | (show t.size - (wrap64 ((k:Int)+1)).toNat < t.size - ((k:Int)).toNat; rw [wrap_id _ (by omega) (by omega)]; omega) | (show t.size - ((k:Int)+1).toNat < t.size - ((k:Int)).toNat; omega))
                case rel => exact ⟨k + 1, by omega, by go_num, ⟨by rw [HNEW.out]; (with_reducible repeat (first | apply Kd.R_alloc | apply Kd.R_drewN | apply Kd.R_drew)); exact HC9.out⟩, ⟨by rw [HNEW.out]; (with_reducible repeat (first | apply Kd.R_alloc | apply Kd.R_drewN | apply Kd.R_drew)); exact HF9.out⟩, ⟨by rw [HNEW.out]; (with_reducible repeat (first | apply DecAt.alloc | apply DecAt.drewN | apply DecAt.drew)); exact HD9.out⟩, ⟨by (with_reducible repeat (first | apply only_alloc | apply only_drewN | apply only_drew)); exact HG9.out⟩⟩
    · obtain rfl : k = t.size := by omega
      go_wp2
      go_ret2
      exact ⟨_, _, rfl, HC.out, HF.out, HDk.out, HG.out⟩
end Go.Proofs.Ytdmkhcmkfhojgaa.P
