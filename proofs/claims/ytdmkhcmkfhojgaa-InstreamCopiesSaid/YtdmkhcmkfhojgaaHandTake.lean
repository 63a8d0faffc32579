/- instream: take. -/
import Derived.Test.YtdmkhcmkfhojgaaHandTell
import Derived.Deep.DeepCutAuto
namespace Go.Proofs.Ytdmkhcmkfhojgaa.P
open Go.RowKit Go.Proofs.YtdmkhcmkfhojgaaW.PrintWords Go.Proofs.YtdmkhcmkfhojgaaW.PrintLast Go.Proofs.YtdmkhcmkfhojgaaW.PrintMore Go.Proofs.Ytdmkhcmkfhojgaa.Blk
set_option linter.unusedVariables false

def badOf (r : Int) : Int := (instream_Bad.f 10 r).getD 0
theorem ite_ex {α : Type} {c : Prop} [Decidable c] {a b : Option α} (ha : ∃ x, a = some x) (hb : ∃ x, b = some x) : ∃ x, (if c then a else b) = some x := by
  split
  · exact ha
  · exact hb
theorem bad_some (r : Int) : instream_Bad.f 10 r = some (badOf r) := by
  have h : ∃ x, instream_Bad.f 10 r = some x := by
    unfold instream_Bad.f
    simp only [instream_Bad.j0, instream_Bad.j1, instream_Bad.j2]
    repeat' (first | exact ⟨_, rfl⟩ | refine ite_ex ?_ ?_)
  obtain ⟨x, hx⟩ := h
  unfold badOf
  rw [hx]; rfl

/-- what take has: does a 13 wait, and which; what it has told; the faults that are not told yet -/
structure TS where
  waits : Bool
  cr : S36
  out : List S36
  f : List S39
  odd : List S39
def TS.hit (s : TS) (c : S36) : Bool := match s.odd with
  | o :: _ => decide (o.f1 = c.f1)
  | [] => false
def TS.fault (s : TS) (c : S36) : TS :=
  if s.hit c = true then ⟨s.waits, s.cr, s.out, s.f ++ [(rd_T39 s.odd 0)], s.odd.drop 1⟩
  else if 0 < badOf c.f0 then ⟨s.waits, s.cr, s.out, s.f ++ [⟨badOf c.f0, c.f1⟩], s.odd⟩ else s
def TS.rest (s : TS) (c : S36) : TS :=
  if c.f0 = 13 then ⟨true, ⟨10, c.f1, c.f2⟩, s.out, s.f, s.odd⟩
  else if c.f0 = 0 then ⟨s.waits, s.cr, s.out ++ [⟨65533, c.f1, c.f2⟩], s.f, s.odd⟩
  else ⟨s.waits, s.cr, s.out ++ [⟨c.f0, c.f1, c.f2⟩], s.f, s.odd⟩
def TS.char (s : TS) (c : S36) : TS :=
  if s.waits = true then
    if c.f0 = 10 then ⟨false, ⟨s.cr.f0, s.cr.f1, c.f2⟩, s.out ++ [⟨s.cr.f0, s.cr.f1, c.f2⟩], s.f, s.odd⟩
    else TS.rest ⟨false, s.cr, s.out ++ [⟨s.cr.f0, s.cr.f1, s.cr.f2⟩], s.f, s.odd⟩ c
  else s.rest c
def TS.step (s : TS) (c : S36) : TS := (s.fault c).char c
def TS.upto (l : List S36) (s : TS) : Nat → TS
  | 0 => s
  | k + 1 => (TS.upto l s k).step (rd_T36 l k)

theorem fault_len (s : TS) (c : S36) : (s.fault c).out.length = s.out.length ∧ (s.fault c).f.length ≤ s.f.length + 1 ∧ (s.fault c).odd.length ≤ s.odd.length := by
  unfold TS.fault
  split
  · simp
  · split <;> simp
theorem rest_len (s : TS) (c : S36) : (s.rest c).out.length ≤ s.out.length + 1 ∧ (s.rest c).f.length = s.f.length ∧ (s.rest c).odd.length = s.odd.length := by
  unfold TS.rest
  repeat' split
  all_goals simp
theorem char_len (s : TS) (c : S36) : (s.char c).out.length ≤ s.out.length + 2 ∧ (s.char c).f.length = s.f.length ∧ (s.char c).odd.length = s.odd.length := by
  unfold TS.char
  split
  · split
    · simp
    · have := rest_len ⟨false, s.cr, s.out ++ [⟨s.cr.f0, s.cr.f1, s.cr.f2⟩], s.f, s.odd⟩ c
      simp at this ⊢
      omega
  · have := rest_len s c
    omega
theorem ts_len (l : List S36) (s : TS) (k : Nat) : (TS.upto l s k).out.length ≤ s.out.length + 2 * k ∧ (TS.upto l s k).f.length ≤ s.f.length + k ∧ (TS.upto l s k).odd.length ≤ s.odd.length := by
  induction k with
  | zero => simp [TS.upto]
  | succ k ih =>
    have h1 := fault_len (TS.upto l s k) (rd_T36 l k)
    have h2 := char_len ((TS.upto l s k).fault (rd_T36 l k)) (rd_T36 l k)
    have e : TS.upto l s (k + 1) = ((TS.upto l s k).fault (rd_T36 l k)).char (rd_T36 l k) := rfl
    rw [e]
    omega

theorem reads_dec {α : Type} {d : Kd α} {e g base : Nat} {w : World} {v : Value} {xs : List α} (h : d.R e w base (fun _ => True) v xs) (hg : g < base) : ∃ A c, v = .slice A xs.length c ∧ xs.length ≤ c ∧ ∀ w1, w.grownBy w1 (some g) → d.C w1 A xs.length xs := by
  obtain ⟨A, c, e1, hl, hC⟩ := Kd.R_reads h
  refine ⟨A, c, e1, hl, fun w1 h1 => ?_⟩
  obtain ⟨A', c', e2, _, hC2⟩ := Kd.R_reads (R_dec h h1 hg)
  rw [e1] at e2
  cases e2
  exact hC2

/-- what a round holds -/
def Rnd (w : World) (g gc : Nat) (pd : Value) (z : S36) (s : TS) (v9 vo : Value) (wc : World) : Prop :=
  Blk wc gc 36 #[.int .i64 z.f0, .int .i64 z.f1, .int .i64 z.f2] ∧ Kd.R k39 39 wc w.heap.size (fun _ => True) v9 s.f ∧ Blk wc w.heap.size 23 #[vo] ∧ Kd.R k36 36 wc w.heap.size (fun k => k ≠ gc) vo s.out ∧ TkAt wc g pd ⟨s.waits, s.cr⟩ ∧ w.grownBy wc (some g)
section
variable {w wc w1 : World} {g gc : Nat} {pd v9 vo : Value} {z : S36} {s : TS}
theorem Rnd.drewN (h : Rnd w g gc pd z s v9 vo wc) (n : Nat) : Rnd w g gc pd z s v9 vo (wc.drewN n) :=
  ⟨Blk.drewN h.1 n, Kd.R_drewN h.2.1 n, Blk.drewN h.2.2.1 n, Kd.R_drewN h.2.2.2.1 n, Blk.drewN h.2.2.2.2.1 n, only_drewN h.2.2.2.2.2 n⟩
theorem Rnd.fapp {v1 : Value} {f' : List S39} (od : List S39) (h : Rnd w g gc pd z s v9 vo wc) (hg1 : wc.grownBy w1 v9.ownBlock) (hb : Below w.heap.size wc w1) (ho : Kd.R k39 39 w1 w.heap.size (fun _ => True) v1 f') : Rnd w g gc pd z ⟨s.waits, s.cr, s.out, f', od⟩ v1 vo w1 :=
  ⟨Blk.grown h.1 hg1 (Kd.R_ne h.2.1 h.1 (by decide)), ho, Blk.grown h.2.2.1 hg1 (Kd.R_ne h.2.1 h.2.2.1 (by decide)), Kd.R_over' h.2.2.2.1 (Kd.R_typed h.2.1) (by decide) hg1, Blk.grown h.2.2.2.2.1 hg1 (Kd.R_ne h.2.1 h.2.2.2.2.1 (by decide)), only_belowB h.2.2.2.2.2 hb (Nat.le_refl _)⟩
theorem Rnd.drawn (h : Rnd w g gc pd z s v9 vo wc) (hd : Drawn0 wc w1) : Rnd w g gc pd z s v9 vo w1 := by
  obtain ⟨n, rfl⟩ := hd.out
  exact h.drewN n
theorem Rnd.odd' (od : List S39) (h : Rnd w g gc pd z s v9 vo wc) : Rnd w g gc pd z ⟨s.waits, s.cr, s.out, s.f, od⟩ v9 vo wc := h
theorem Rnd.size (h : Rnd w g gc pd z s v9 vo wc) : w.heap.size ≤ wc.heap.size := h.2.2.2.2.2.size
theorem blk_ne {t t' : TypeId} {a b : Nat} {cs cs' : Array Value} (h : Blk wc a t cs) (h' : Blk wc b t' cs') (ht : t ≠ t') : a ≠ b := by
  rintro rfl
  unfold Blk at h h'
  rw [h] at h'
  injection h' with h'
  injection h' with _ h'
  exact ht h'
theorem Rnd.setg (i : Nat) (u : Value) (b' : Bool) (cr' : S36) (he : (Tk.cells pd ⟨s.waits, s.cr⟩).setIfInBounds i u = Tk.cells pd ⟨b', cr'⟩) (h : Rnd w g gc pd z s v9 vo wc) : Rnd w g gc pd z ⟨b', cr', s.out, s.f, s.odd⟩ v9 vo (wc.setCell ⟨g, i, none⟩ u) := by
  have n1 : gc ≠ g := blk_ne h.1 h.2.2.2.2.1 (by decide)
  have n2 : w.heap.size ≠ g := blk_ne h.2.2.1 h.2.2.2.2.1 (by decide)
  refine ⟨Blk.far h.1 (p := ⟨g, i, none⟩) n1 u, Kd.R_set h.2.1 h.2.2.2.2.1 (by decide) i u, Blk.far h.2.2.1 (p := ⟨g, i, none⟩) n2 u, Kd.R_set h.2.2.2.1 h.2.2.2.2.1 (by decide) i u, ?_, only_setCell h.2.2.2.2.2 (.inl rfl) u⟩
  have := Blk.set_ h.2.2.2.2.1 i u
  rw [he] at this
  exact this
theorem Rnd.setz (i : Nat) (u : Value) (z' : S36) (he : (#[.int .i64 z.f0, .int .i64 z.f1, .int .i64 z.f2] : Array Value).setIfInBounds i u = #[.int .i64 z'.f0, .int .i64 z'.f1, .int .i64 z'.f2]) (hgc : w.heap.size < gc) (h : Rnd w g gc pd z s v9 vo wc) : Rnd w g gc pd z' s v9 vo (wc.setCell ⟨gc, i, none⟩ u) := by
  have n1 : g ≠ gc := (blk_ne h.1 h.2.2.2.2.1 (by decide)).symm
  have n2 : w.heap.size ≠ gc := by omega
  refine ⟨?_, Kd.R_set h.2.1 h.1 (by decide) i u, Blk.far h.2.2.1 (p := ⟨gc, i, none⟩) n2 u, Kd.R_far h.2.2.2.1 (p := ⟨gc, i, none⟩) (fun k hk => hk) u, Blk.far h.2.2.2.2.1 (p := ⟨gc, i, none⟩) n1 u, only_setCell h.2.2.2.2.2 (.inr (Nat.le_of_lt hgc)) u⟩
  have := Blk.set_ h.1 i u
  rw [he] at this
  exact this
theorem Rnd.told {v' : Value} {w2 : World} {c : S36} (hgc : w.heap.size < gc) (h : Rnd w g gc pd z s v9 vo wc) (hw : w2 = w1.setCell ⟨w.heap.size, 0, none⟩ v') (hg1 : wc.grownBy w1 vo.ownBlock) (hr : Kd.R k36 36 w2 w.heap.size (fun k => k ≠ gc) v' (s.out ++ [c])) (hb : Blk w2 w.heap.size 23 #[v']) (hbl : Below w.heap.size wc w2) :
    Rnd w g gc pd z ⟨s.waits, s.cr, s.out ++ [c], s.f, s.odd⟩ v9 v' w2 := by
  subst hw
  have n2 : g ≠ w.heap.size := (blk_ne h.2.2.1 h.2.2.2.2.1 (by decide)).symm
  have b1 : Blk w1 w.heap.size 23 #[vo] := Blk.grown h.2.2.1 hg1 (Kd.R_ne h.2.2.2.1 h.2.2.1 (by decide))
  exact ⟨Blk.far (Blk.grown h.1 hg1 (fun e => h.2.2.2.1.1 gc e.symm rfl)) (p := ⟨w.heap.size, 0, none⟩) (by show gc ≠ w.heap.size; omega) _, Kd.R_set (Kd.R_over' h.2.1 (Kd.R_typed h.2.2.2.1) (by decide) hg1) b1 (by decide) 0 _, hb, hr, Blk.far (Blk.grown h.2.2.2.2.1 hg1 (Kd.R_ne h.2.2.2.1 h.2.2.2.2.1 (by decide))) (p := ⟨w.heap.size, 0, none⟩) n2 _, only_belowB h.2.2.2.2.2 hbl (Nat.le_refl _)⟩
theorem Rnd.facts (h : Rnd w g gc pd z s v9 vo wc) : (wc.cell? ⟨gc, 0, none⟩ = some (.int .i64 z.f0) ∧ wc.cell? ⟨gc, 1, none⟩ = some (.int .i64 z.f1) ∧ wc.cell? ⟨gc, 2, none⟩ = some (.int .i64 z.f2)) ∧
    (wc.cell? ⟨g, 1, none⟩ = some (.bool s.waits) ∧ wc.cell? ⟨g, 2, none⟩ = some (.int .i64 s.cr.f0) ∧ wc.cell? ⟨g, 3, none⟩ = some (.int .i64 s.cr.f1) ∧ wc.cell? ⟨g, 4, none⟩ = some (.int .i64 s.cr.f2)) ∧
    (∀ i, wc.frozen? ⟨gc, i, none⟩ = false) ∧ (∀ i, wc.frozen? ⟨g, i, none⟩ = false) ∧ gc ≠ g :=
  ⟨⟨(Blk.cell h.1 0).trans rfl, (Blk.cell h.1 1).trans rfl, (Blk.cell h.1 2).trans rfl⟩, ⟨(Blk.cell h.2.2.2.2.1 1).trans rfl, (Blk.cell h.2.2.2.2.1 2).trans rfl, (Blk.cell h.2.2.2.2.1 3).trans rfl, (Blk.cell h.2.2.2.2.1 4).trans rfl⟩, Blk.frozen h.1, Blk.frozen h.2.2.2.2.1, blk_ne h.1 h.2.2.2.2.1 (by decide)⟩
theorem Rnd.fresh (h : Rnd w g gc pd z s v9 vo wc) : ∀ k, wc.heap.size ≤ k → k ≠ gc := fun k hk => by have := Blk.lt h.1; omega
theorem Rnd.tell (hgc : w.heap.size < gc) (h : Rnd w g gc pd z s v9 vo wc) (hl : s.out.length < 1000000000000) (c0 c1 c2 : Int) :
    Calls Try.prog 24 #[.agg #[.int .i64 c0, .int .i64 c1, .int .i64 c2], .pointer (some ⟨w.heap.size, 0, none⟩)] wc fun e w' => e = .returned (.tuple #[]) ∧ ∃ v', Rnd w g gc pd z ⟨s.waits, s.cr, s.out ++ [⟨c0, c1, c2⟩], s.f, s.odd⟩ v9 v' w' := by
  refine (tell_calls w.heap.size w.heap.size vo s.out c0 c1 c2 (fun k => k ≠ gc) wc h.2.2.1 h.2.2.2.1 h.size (Nat.le_refl _) h.fresh hl).mono ?_
  rintro e w' ⟨rfl, v', w1, hw, hg1, hr, hb, hbl⟩
  exact ⟨rfl, v', Rnd.told hgc h hw hg1 hr hb hbl⟩
theorem Rnd.start {wr : World} (hf : Kd.R k39 39 wr w.heap.size (fun _ => True) v9 s.f) (hb : Blk wr w.heap.size 23 #[vo]) (hu : Kd.R k36 36 wr w.heap.size (fun _ => True) vo s.out) (hs : TkAt wr g pd ⟨s.waits, s.cr⟩) (hg : w.grownBy wr (some g)) :
    Rnd w g wr.heap.size pd z s v9 vo (wr.alloc (.cells #[.int .i64 z.f0, .int .i64 z.f1, .int .i64 z.f2] 36)) :=
  ⟨Blk.new wr 36 _, Kd.R_alloc hf _, Blk.alloc hb _, Kd.R_mono (Kd.R_alloc (Kd.R_elderB hu _ (Nat.le_refl _)) _) (fun _ h => h.2), Blk.alloc hs _, only_alloc hg _⟩
end

set_option maxRecDepth 10000 in
set_option maxHeartbeats 4000000 in
theorem take_calls (g : Nat) (pd : Value) (x : Tk) (vl vo : Value) (l : List S36) (odd : List S39) (base : Nat) (w : World) (hx : TkAt w g pd x) (hl : Kd.R k36 36 w base (fun _ => True) vl l) (ho : Kd.R k39 39 w base (fun _ => True) vo odd) (hg : g < base) (hll : l.length ≤ 100000000000) (hol : odd.length ≤ 100000000000) :
    Calls Try.prog 19 #[.pointer (some ⟨g, 0, none⟩), vl, vo] w fun e w' => ∃ v0 v1 : Value, e = .returned (.tuple #[v0, v1]) ∧
      Kd.R k36 36 w' w.heap.size (fun _ => True) v0 (TS.upto l ⟨x.waits, x.cr, [], [], odd⟩ l.length).out ∧ Kd.R k39 39 w' w.heap.size (fun _ => True) v1 (TS.upto l ⟨x.waits, x.cr, [], [], odd⟩ l.length).f ∧
      TkAt w' g pd ⟨(TS.upto l ⟨x.waits, x.cr, [], [], odd⟩ l.length).waits, (TS.upto l ⟨x.waits, x.cr, [], [], odd⟩ l.length).cr⟩ ∧ w.grownBy w' (some g) := by
  obtain ⟨A, c, rfl, hc, HLr⟩ := reads_dec hl hg
  obtain ⟨A2, c2, rfl, hc2, HOr⟩ := reads_dec ho hg
  have hglt := Blk.lt hx
  have HX := Aside0.mk hx
  have HL := Aside0.mk HLr
  have HOO := Aside0.mk HOr
  clear hl ho hx HLr HOr
  go_enter Try.func19, Try.ntmps19
  go_wp2
  go_loopw [2, 9, 17] (fun v2 v9 v17 wr => ∃ k : Nat, k ≤ l.length ∧ v17 = .int .i64 (k : Int) ∧ (∃ A3 c3, v2 = .slice A3 (TS.upto l ⟨x.waits, x.cr, [], [], odd⟩ k).odd.length c3 ∧ Aside0 ((TS.upto l ⟨x.waits, x.cr, [], [], odd⟩ k).odd.length ≤ c3) ∧ Aside0 (∀ w1, w.grownBy w1 (some g) → Kd.C k39 w1 A3 (TS.upto l ⟨x.waits, x.cr, [], [], odd⟩ k).odd.length (TS.upto l ⟨x.waits, x.cr, [], [], odd⟩ k).odd)) ∧ Aside0 (Kd.R k39 39 wr w.heap.size (fun _ => True) v9 (TS.upto l ⟨x.waits, x.cr, [], [], odd⟩ k).f) ∧ (∃ vo, Aside0 (Blk wr w.heap.size 23 #[vo]) ∧ Aside0 (Kd.R k36 36 wr w.heap.size (fun _ => True) vo (TS.upto l ⟨x.waits, x.cr, [], [], odd⟩ k).out)) ∧ Aside0 (TkAt wr g pd ⟨(TS.upto l ⟨x.waits, x.cr, [], [], odd⟩ k).waits, (TS.upto l ⟨x.waits, x.cr, [], [], odd⟩ k).cr⟩) ∧ Aside0 (w.grownBy wr (some g))) (fun _ _ v17 _ => l.length - (intOf v17).toNat)
  case atStart => exact ⟨0, Nat.zero_le _, rfl, ⟨A2, c2, rfl, ⟨hc2⟩, HOO⟩, ⟨Kd.R_nil _ _ _ _ _⟩, ⟨_, ⟨Blk.new w 23 _⟩, ⟨Kd.R_nil _ _ _ _ _⟩⟩, ⟨Blk.alloc HX.out _⟩, ⟨only_alloc (World.grownBy.refl w _) _⟩⟩
  case round =>
    obtain ⟨k, hk, rfl, ⟨A3, c3, rfl, hc3, HO3⟩, HF, ⟨vo, HB, HU⟩, HS, HG⟩ := hrel
    by_cases hlt : k < l.length
    · have hlen := ts_len l ⟨x.waits, x.cr, [], [], odd⟩ k
      have hstep : TS.upto l ⟨x.waits, x.cr, [], [], odd⟩ (k + 1) = (TS.upto l ⟨x.waits, x.cr, [], [], odd⟩ k).step (rd_T36 l k) := rfl
      have HST := Aside0.mk hstep
      clear hstep
      generalize hs : TS.upto l ⟨x.waits, x.cr, [], [], odd⟩ k = s at *
      clear hs
      simp only [List.length_nil, Nat.zero_add] at hlen
      obtain ⟨ad, e, hx0, hx1, hx2⟩ := at_T36 (HL.out wr HG.out) (k : Int) (by omega) (by omega)
      cases e
      simp only [Int.toNat_natCast] at hx0 hx1 hx2
      generalize hz : rd_T36 l (k : Int) = z at *
      clear hz
      obtain ⟨z0, z1, z2⟩ := z
      have R0 := Aside0.mk (Rnd.start (z := ⟨z0, z1, z2⟩) HF.out HB.out HU.out HS.out HG.out)
      have hgc : w.heap.size < wr.heap.size := Blk.lt HB.out
      clear HF HB HU HS
      go_upto_region 7 with (fail)
      simp only at R0
      obtain ⟨w1, hw1⟩ : ∃ w1, w1 = wr.alloc (.cells #[.int .i64 z0, .int .i64 z1, .int .i64 z2] 36) := ⟨_, rfl⟩
      rw [← hw1] at R0 ⊢
      clear hw1 hx0 hx1 hx2 HG
      generalize wr.heap.size = gc at *
      go_cut [32] (fun v32 wc => v32 = .bool (s.hit ⟨z0, z1, z2⟩) ∧ Aside0 (Rnd w g gc pd ⟨z0, z1, z2⟩ s u9 vo wc))
      case first =>
        obtain ⟨sw, scr, sout, sf, sodd⟩ := s
        have y0 : w1.cell? ⟨gc, 0, none⟩ = some (.int .i64 z0) := (Blk.cell R0.out.1 0).trans rfl
        have y1 : w1.cell? ⟨gc, 1, none⟩ = some (.int .i64 z1) := (Blk.cell R0.out.1 1).trans rfl
        cases sodd with
        | nil =>
          have hl0 : ([] : List S39).length = 0 := rfl
          simp only [hl0] at hc3 HO3 ⊢
          go_quiet (fail)
          go_wp2
          go_meet
          case rel => exact ⟨rfl, ⟨Rnd.drewN R0.out _⟩⟩
        | cons o os =>
          obtain ⟨ad2, e, ho0, ho1⟩ := at_T39 (HO3.out w1 R0.out.2.2.2.2.2) 0 (by simp) (by simp)
          cases e
          have p0 : w1.cell? ad2 = some (.int .i64 o.f0) := ho0
          have p1 : w1.cell? ⟨ad2.block, ad2.off + 1, none⟩ = some (.int .i64 o.f1) := ho1
          clear ho0 ho1
          simp only [List.length_cons] at hc3 ⊢
          have hl1 : ((os.length : Int) + 1 > 0) := by omega
          by_cases hq : o.f1 = z1
          · have hqb : (o.f1 == z1) = true := beq_iff_eq.mpr hq
            have hh : TS.hit ⟨sw, scr, sout, sf, o :: os⟩ ⟨z0, z1, z2⟩ = true := decide_eq_true hq
            clear hq
            go_quiet (fail)
            go_wp2
            go_meet
            case rel => exact ⟨by rw [hh], ⟨Rnd.drewN R0.out _⟩⟩
          · have hqb : (o.f1 == z1) = false := beq_eq_false_iff_ne.mpr hq
            have hh : TS.hit ⟨sw, scr, sout, sf, o :: os⟩ ⟨z0, z1, z2⟩ = false := decide_eq_false hq
            clear hq
            go_quiet (fail)
            go_wp2
            go_meet
            case rel => exact ⟨by rw [hh], ⟨Rnd.drewN R0.out _⟩⟩
      case rest =>
        obtain ⟨rfl, R1⟩ := hcut
        go_upto_if 32 with (fail)
        go_cut [2, 9] (fun v2 v9 wc => (∃ A4 c4, v2 = .slice A4 (s.fault ⟨z0, z1, z2⟩).odd.length c4 ∧ Aside0 ((s.fault ⟨z0, z1, z2⟩).odd.length ≤ c4) ∧ Aside0 (∀ w1, w.grownBy w1 (some g) → Kd.C k39 w1 A4 (s.fault ⟨z0, z1, z2⟩).odd.length (s.fault ⟨z0, z1, z2⟩).odd)) ∧ Aside0 (Rnd w g gc pd ⟨z0, z1, z2⟩ (s.fault ⟨z0, z1, z2⟩) v9 vo wc))
        case first =>
          cases hh : s.hit ⟨z0, z1, z2⟩ with
          | true =>
            obtain ⟨sw, scr, sout, sf, sodd⟩ := s
            cases sodd with
            | nil => cases hh
            | cons o os =>
              have hfl : TS.fault ⟨sw, scr, sout, sf, o :: os⟩ ⟨z0, z1, z2⟩ = ⟨sw, scr, sout, sf ++ [o], os⟩ := by unfold TS.fault; rw [if_pos hh]; rfl
              have HFL := Aside0.mk hfl
              clear hfl hh
              obtain ⟨ad2, e, ho0, ho1⟩ := at_T39 (HO3.out wc R1.out.2.2.2.2.2) 0 (by simp) (by simp)
              cases e
              have p0 : wc.cell? ad2 = some (.int .i64 o.f0) := ho0
              have p1 : wc.cell? ⟨ad2.block, ad2.off + 1, none⟩ = some (.int .i64 o.f1) := ho1
              clear ho0 ho1
              simp only [List.length_cons] at hc3 ⊢
              have hl1 : ((os.length : Int) + 1 > 0) := by omega
              go_wp2_with (first | ((with_reducible refine gate_builtin (b := .append) (xs := #[.tmp 33, .tmp 37]) rfl ?_); at_builtin; refine Kd.R_append k39 (w0 := wc) w.heap.size rfl (.tmp 33) (.tmp 37) 24 39 (.agg #[(.int .i64 0), (.int .i64 0)]) 16 rfl Try.underlying24 info39 rfl (by decide) (by omega) u9 sf o [.int .i64 o.f0, .int .i64 o.f1] (fun _ => True) (fun _ => False) rfl rfl ?aP (fun _ hk => hk.elim) ?aF ?aO ?aB ?aS ?aL ?_; (case aP => exact k39_mkM _ _ _ o); (case aF => exact (fun _ _ => trivial)); (case aO => exact R1.out.2.1); (case aB => exact (Below.refl _ _)); (case aS => exact R1.out.size); (case aL => simp only at hlen; omega); intro v1 w2 ho1 hb1 hg1 hat; have R2 := Aside0.mk (Rnd.fapp os R1.out hg1 hb1 ho1); clear ho1 hb1 hg1 hat))
              all_goals
                go_meet
                case rel =>
                  rw [HFL.out]
                  have hd := fun w' hw' => Kd.C_drop (m := 1) (HO3.out w' hw') (by simp) hc3.out
                  have hle := hc3.out
                  refine ⟨⟨_, _, rfl, ⟨?_⟩, ⟨fun w' hw' => ?_⟩⟩, R2⟩
                  · simp only; omega
                  · first
                      | (have h9 := hd w' hw'; rw [if_pos (by first | assumption | omega)] at h9; exact h9)
                      | (have h9 := hd w' hw'; rw [if_neg (by first | assumption | omega)] at h9; exact h9)
          | false =>
            have hfl : TS.fault s ⟨z0, z1, z2⟩ = if 0 < badOf z0 then ⟨s.waits, s.cr, s.out, s.f ++ [⟨badOf z0, z1⟩], s.odd⟩ else s := by unfold TS.fault; rw [if_neg (by rw [hh]; decide)]
            have HFL := Aside0.mk hfl
            clear hfl hh
            have y0 : wc.cell? ⟨gc, 0, none⟩ = some (.int .i64 z0) := (Blk.cell R1.out.1 0).trans rfl
            have y1 : wc.cell? ⟨gc, 1, none⟩ = some (.int .i64 z1) := (Blk.cell R1.out.1 1).trans rfl
            generalize hbd : badOf z0 = bd at *
            have HBD := Aside0.mk hbd
            clear hbd
            by_cases hpos : 0 < bd
            · go_wp2_with (first | (go_at_call 25; refine (instream_Bad.calls 10 z0 bd _ (by rw [bad_some, HBD.out])).mono ?_; rintro e w2 ⟨rfl, hdr⟩; have R2 := Aside0.mk (Rnd.drawn R1.out hdr); have q1 : w2.cell? ⟨gc, 1, none⟩ = some (.int .i64 z1) := (Blk.cell R2.out.1 1).trans rfl; clear hdr) | ((with_reducible refine gate_builtin (b := .append) (xs := #[.tmp 46, .tmp 51]) rfl ?_); at_builtin; refine Kd.R_append k39 (w0 := w2) w.heap.size rfl (.tmp 46) (.tmp 51) 24 39 (.agg #[(.int .i64 0), (.int .i64 0)]) 16 rfl Try.underlying24 info39 rfl (by decide) (by omega) u9 s.f (⟨bd, z1⟩ : S39) [.int .i64 bd, .int .i64 z1] (fun _ => True) (fun _ => False) rfl rfl ?aP (fun _ hk => hk.elim) ?aF ?aO ?aB ?aS ?aL ?_; (case aP => exact k39_mkM _ _ _ (⟨bd, z1⟩ : S39)); (case aF => exact (fun _ _ => trivial)); (case aO => exact R2.out.2.1); (case aB => exact (Below.refl _ _)); (case aS => exact R2.out.size); (case aL => omega); intro v1 w3 ho1 hb1 hg1 hat; have R3 := Aside0.mk (Rnd.fapp s.odd R2.out hg1 hb1 ho1); clear ho1 hb1 hg1 hat))
              go_meet
              case rel =>
                rw [HFL.out, if_pos hpos]
                exact ⟨⟨_, _, rfl, hc3, HO3⟩, R3⟩
            · go_wp2_with (go_at_call 25; refine (instream_Bad.calls 10 z0 bd _ (by rw [bad_some, HBD.out])).mono ?_; rintro e w2 ⟨rfl, hdr⟩; have R2 := Aside0.mk (Rnd.drawn R1.out hdr); have q1 : w2.cell? ⟨gc, 1, none⟩ = some (.int .i64 z1) := (Blk.cell R2.out.1 1).trans rfl; clear hdr)
              go_meet
              case rel =>
                rw [HFL.out, if_neg (by omega)]
                exact ⟨⟨_, _, rfl, hc3, HO3⟩, R2⟩
        case rest =>
          obtain ⟨⟨A4, c4, rfl, hc4, HO4⟩, R2⟩ := hcut
          have HST2 : Aside0 (TS.upto l ⟨x.waits, x.cr, [], [], odd⟩ (k + 1) = (s.fault ⟨z0, z1, z2⟩).char ⟨z0, z1, z2⟩) := ⟨HST.out⟩
          have hlen2 := fault_len s ⟨z0, z1, z2⟩
          generalize s.fault ⟨z0, z1, z2⟩ = s1 at *
          obtain ⟨sw, scr, sout, sf, sodd⟩ := s1
          simp only at hlen2 HO4 hc4 ⊢
          have hol : sout.length < 900000000000 := by omega
          clear HST hlen hlen2 HO3 hc3 R1 R0
          obtain ⟨⟨y0, y1, y2⟩, ⟨x1, x2, x3, x4⟩, hfc, hfg, hne⟩ := R2.out.facts
          simp only at y0 y1 y2 x1 x2 x3 x4
          obtain ⟨r0, r1, r2⟩ := scr
          simp only at x2 x3 x4
          cases sw with
          | true =>
            by_cases h10 : z0 = 10
            · subst h10
              have t1 := Rnd.setg 1 (.bool false) false ⟨r0, r1, r2⟩ (by simp [Tk.cells]) R2.out
              have t2 := Rnd.setg 4 (.int .i64 z2) false ⟨r0, r1, z2⟩ (by simp [Tk.cells]) t1
              have T2 := Aside0.mk t2
              clear t1 t2
              go_wp2_with (go_at_call 24; refine (Rnd.tell hgc T2.out (by simp only; omega) _ _ _).mono ?_; rintro e w2 ⟨rfl, v', hR⟩; have R3 := Aside0.mk hR; clear hR)
              have E := HST2.out.trans (show TS.char ⟨true, ⟨r0, r1, r2⟩, sout, sf, sodd⟩ ⟨10, z1, z2⟩ = ⟨false, ⟨r0, r1, z2⟩, sout ++ [⟨r0, r1, z2⟩], sf, sodd⟩ by simp [TS.char])
              refine ⟨⟨k + 1, by omega, by go_num, ⟨A4, c4, by rw [E], ⟨by rw [E]; exact hc4.out⟩, ⟨by rw [E]; exact HO4.out⟩⟩, ⟨by rw [E]; exact R3.out.2.1⟩, ⟨v', ⟨R3.out.2.2.1⟩, ⟨by rw [E]; exact Kd.R_mono R3.out.2.2.2.1 (fun _ _ => trivial)⟩⟩, ⟨by rw [E]; exact R3.out.2.2.2.2.1⟩, ⟨R3.out.2.2.2.2.2⟩⟩, ?_⟩
              simp [intOf]; omega
            · have h10b : (z0 == 10) = false := beq_eq_false_iff_ne.mpr h10
              have t1 := Rnd.setg 1 (.bool false) false ⟨r0, r1, r2⟩ (by simp [Tk.cells]) R2.out
              have T2 := Aside0.mk t1
              clear t1
              by_cases h13 : z0 = 13
              · subst h13
                go_wp2_with (go_at_call 24; refine (Rnd.tell hgc T2.out (by simp only; omega) _ _ _).mono ?_; rintro e w2 ⟨rfl, v', hR⟩; have R3 := Aside0.mk hR; clear hR; obtain ⟨⟨q0, q1, q2⟩, ⟨j1, j2, j3, j4⟩, hfc2, hfg2, hne2⟩ := Rnd.facts R3.out; simp only at q0 q1 q2 j1 j2 j3 j4)
                have E := HST2.out.trans (show TS.char ⟨true, ⟨r0, r1, r2⟩, sout, sf, sodd⟩ ⟨13, z1, z2⟩ = ⟨true, ⟨10, z1, z2⟩, sout ++ [⟨r0, r1, r2⟩], sf, sodd⟩ by simp [TS.char, TS.rest])
                have u1 := Rnd.setz 0 (.int .i64 10) ⟨10, z1, z2⟩ (by simp) hgc R3.out
                have u2 := Rnd.setg 2 (.int .i64 10) false ⟨10, r1, r2⟩ (by simp [Tk.cells]) u1
                have u3 := Rnd.setg 3 (.int .i64 z1) false ⟨10, z1, r2⟩ (by simp [Tk.cells]) u2
                have u4 := Rnd.setg 4 (.int .i64 z2) false ⟨10, z1, z2⟩ (by simp [Tk.cells]) u3
                have u5 := Rnd.setg 1 (.bool true) true ⟨10, z1, z2⟩ (by simp [Tk.cells]) u4
                clear u1 u2 u3 u4
                refine ⟨⟨k + 1, by omega, by go_num, ⟨A4, c4, by rw [E], ⟨by rw [E]; exact hc4.out⟩, ⟨by rw [E]; exact HO4.out⟩⟩, ⟨by rw [E]; exact u5.2.1⟩, ⟨v', ⟨u5.2.2.1⟩, ⟨by rw [E]; exact Kd.R_mono u5.2.2.2.1 (fun _ _ => trivial)⟩⟩, ⟨by rw [E]; exact u5.2.2.2.2.1⟩, ⟨u5.2.2.2.2.2⟩⟩, ?_⟩
                simp [intOf]; omega
              · have h13b : (z0 == 13) = false := beq_eq_false_iff_ne.mpr h13
                by_cases h0 : z0 = 0
                · subst h0
                  go_wp2_with (first | (have gA := T2.out; clear gA; go_at_call 24; refine (Rnd.tell hgc T2.out (by simp only; omega) _ _ _).mono ?_; rintro e w2 ⟨rfl, v', hR⟩; have R3 := Aside0.mk hR; clear hR T2; obtain ⟨⟨q0, q1, q2⟩, ⟨j1, j2, j3, j4⟩, hfc2, hfg2, hne2⟩ := Rnd.facts R3.out; simp only at q0 q1 q2 j1 j2 j3 j4; have T4 := Aside0.mk (Rnd.setz 0 (.int .i64 65533) ⟨65533, z1, z2⟩ (by simp) hgc R3.out)) | (have gA := T4.out; clear gA; go_at_call 24; refine (Rnd.tell hgc T4.out (by simp only [List.length_append, List.length_cons, List.length_nil]; omega) _ _ _).mono ?_; rintro e w3 ⟨rfl, v2, hR⟩; have R5 := Aside0.mk hR; clear hR T4))
                  have E := HST2.out.trans (show TS.char ⟨true, ⟨r0, r1, r2⟩, sout, sf, sodd⟩ ⟨0, z1, z2⟩ = ⟨false, ⟨r0, r1, r2⟩, (sout ++ [⟨r0, r1, r2⟩]) ++ [⟨65533, z1, z2⟩], sf, sodd⟩ by simp [TS.char, TS.rest])
                  refine ⟨⟨k + 1, by omega, by go_num, ⟨A4, c4, by rw [E], ⟨by rw [E]; exact hc4.out⟩, ⟨by rw [E]; exact HO4.out⟩⟩, ⟨by rw [E]; exact R5.out.2.1⟩, ⟨v2, ⟨R5.out.2.2.1⟩, ⟨by rw [E]; exact Kd.R_mono R5.out.2.2.2.1 (fun _ _ => trivial)⟩⟩, ⟨by rw [E]; exact R5.out.2.2.2.2.1⟩, ⟨R5.out.2.2.2.2.2⟩⟩, ?_⟩
                  simp [intOf]; omega
                · have h0b : (z0 == 0) = false := beq_eq_false_iff_ne.mpr h0
                  go_wp2_with (first | (have gA := T2.out; clear gA; go_at_call 24; refine (Rnd.tell hgc T2.out (by simp only; omega) _ _ _).mono ?_; rintro e w2 ⟨rfl, v', hR⟩; have R3 := Aside0.mk hR; clear hR T2; obtain ⟨⟨q0, q1, q2⟩, ⟨j1, j2, j3, j4⟩, hfc2, hfg2, hne2⟩ := Rnd.facts R3.out; simp only at q0 q1 q2 j1 j2 j3 j4; have T4 := R3) | (have gA := T4.out; clear gA; go_at_call 24; refine (Rnd.tell hgc T4.out (by simp only [List.length_append, List.length_cons, List.length_nil]; omega) _ _ _).mono ?_; rintro e w3 ⟨rfl, v2, hR⟩; have R5 := Aside0.mk hR; clear hR T4))
                  have E := HST2.out.trans (show TS.char ⟨true, ⟨r0, r1, r2⟩, sout, sf, sodd⟩ ⟨z0, z1, z2⟩ = ⟨false, ⟨r0, r1, r2⟩, (sout ++ [⟨r0, r1, r2⟩]) ++ [⟨z0, z1, z2⟩], sf, sodd⟩ by simp [TS.char, TS.rest, h10, h13, h0])
                  refine ⟨⟨k + 1, by omega, by go_num, ⟨A4, c4, by rw [E], ⟨by rw [E]; exact hc4.out⟩, ⟨by rw [E]; exact HO4.out⟩⟩, ⟨by rw [E]; exact R5.out.2.1⟩, ⟨v2, ⟨R5.out.2.2.1⟩, ⟨by rw [E]; exact Kd.R_mono R5.out.2.2.2.1 (fun _ _ => trivial)⟩⟩, ⟨by rw [E]; exact R5.out.2.2.2.2.1⟩, ⟨R5.out.2.2.2.2.2⟩⟩, ?_⟩
                  simp [intOf]; omega
          | false =>
            by_cases h13 : z0 = 13
            · subst h13
              go_wp2_with (fail)
              have E := HST2.out.trans (show TS.char ⟨false, ⟨r0, r1, r2⟩, sout, sf, sodd⟩ ⟨13, z1, z2⟩ = ⟨true, ⟨10, z1, z2⟩, sout, sf, sodd⟩ by simp [TS.char, TS.rest])
              have u1 := Rnd.setz 0 (.int .i64 10) ⟨10, z1, z2⟩ (by simp) hgc R2.out
              have u2 := Rnd.setg 2 (.int .i64 10) false ⟨10, r1, r2⟩ (by simp [Tk.cells]) u1
              have u3 := Rnd.setg 3 (.int .i64 z1) false ⟨10, z1, r2⟩ (by simp [Tk.cells]) u2
              have u4 := Rnd.setg 4 (.int .i64 z2) false ⟨10, z1, z2⟩ (by simp [Tk.cells]) u3
              have u5 := Rnd.setg 1 (.bool true) true ⟨10, z1, z2⟩ (by simp [Tk.cells]) u4
              clear u1 u2 u3 u4
              refine ⟨⟨k + 1, by omega, by go_num, ⟨A4, c4, by rw [E], ⟨by rw [E]; exact hc4.out⟩, ⟨by rw [E]; exact HO4.out⟩⟩, ⟨by rw [E]; exact u5.2.1⟩, ⟨vo, ⟨u5.2.2.1⟩, ⟨by rw [E]; exact Kd.R_mono u5.2.2.2.1 (fun _ _ => trivial)⟩⟩, ⟨by rw [E]; exact u5.2.2.2.2.1⟩, ⟨u5.2.2.2.2.2⟩⟩, ?_⟩
              simp [intOf]; omega
            · have h13b : (z0 == 13) = false := beq_eq_false_iff_ne.mpr h13
              by_cases h0 : z0 = 0
              · subst h0
                have T4 := Aside0.mk (Rnd.setz 0 (.int .i64 65533) ⟨65533, z1, z2⟩ (by simp) hgc R2.out)
                go_wp2_with (go_at_call 24; refine (Rnd.tell hgc T4.out (by simp only; omega) _ _ _).mono ?_; rintro e w3 ⟨rfl, v2, hR⟩; have R5 := Aside0.mk hR; clear hR T4)
                have E := HST2.out.trans (show TS.char ⟨false, ⟨r0, r1, r2⟩, sout, sf, sodd⟩ ⟨0, z1, z2⟩ = ⟨false, ⟨r0, r1, r2⟩, sout ++ [⟨65533, z1, z2⟩], sf, sodd⟩ by simp [TS.char, TS.rest])
                refine ⟨⟨k + 1, by omega, by go_num, ⟨A4, c4, by rw [E], ⟨by rw [E]; exact hc4.out⟩, ⟨by rw [E]; exact HO4.out⟩⟩, ⟨by rw [E]; exact R5.out.2.1⟩, ⟨v2, ⟨R5.out.2.2.1⟩, ⟨by rw [E]; exact Kd.R_mono R5.out.2.2.2.1 (fun _ _ => trivial)⟩⟩, ⟨by rw [E]; exact R5.out.2.2.2.2.1⟩, ⟨R5.out.2.2.2.2.2⟩⟩, ?_⟩
                simp [intOf]; omega
              · have h0b : (z0 == 0) = false := beq_eq_false_iff_ne.mpr h0
                go_wp2_with (go_at_call 24; refine (Rnd.tell hgc R2.out (by simp only; omega) _ _ _).mono ?_; rintro e w3 ⟨rfl, v2, hR⟩; have R5 := Aside0.mk hR; clear hR)
                have E := HST2.out.trans (show TS.char ⟨false, ⟨r0, r1, r2⟩, sout, sf, sodd⟩ ⟨z0, z1, z2⟩ = ⟨false, ⟨r0, r1, r2⟩, sout ++ [⟨z0, z1, z2⟩], sf, sodd⟩ by simp [TS.char, TS.rest, h13, h0])
                refine ⟨⟨k + 1, by omega, by go_num, ⟨A4, c4, by rw [E], ⟨by rw [E]; exact hc4.out⟩, ⟨by rw [E]; exact HO4.out⟩⟩, ⟨by rw [E]; exact R5.out.2.1⟩, ⟨v2, ⟨R5.out.2.2.1⟩, ⟨by rw [E]; exact Kd.R_mono R5.out.2.2.2.1 (fun _ _ => trivial)⟩⟩, ⟨by rw [E]; exact R5.out.2.2.2.2.1⟩, ⟨R5.out.2.2.2.2.2⟩⟩, ?_⟩
                simp [intOf]; omega
    · obtain rfl : k = l.length := by omega
      have hb0 := (Blk.cell HB.out 0).trans rfl
      go_wp2
      go_ret2
      exact ⟨_, _, rfl, HU.out, HF.out, HS.out, HG.out⟩
end Go.Proofs.Ytdmkhcmkfhojgaa.P
