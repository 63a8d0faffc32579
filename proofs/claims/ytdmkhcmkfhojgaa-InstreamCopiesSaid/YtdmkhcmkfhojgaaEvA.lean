/- The decoder's characters and faults as one row of events; instream's take over them; the reference's way over them. -/
import Derived.Test.YtdmkhcmkfhojgaaHandChars
namespace Go.Proofs.Ytdmkhcmkfhojgaa.Pure
open Go.RowKit Go.Proofs.Ytdmkhcmkfhojgaa.P Go.Proofs.YtdmkhcmkfhojgaaW.PrintWords Go.Proofs.YtdmkhcmkfhojgaaW.PrintLast Go.Proofs.YtdmkhcmkfhojgaaW.PrintMore
set_option linter.unusedVariables false

theorem wrapI (x : Int) (h1 : -9223372036854775808 ≤ x) (h2 : x ≤ 9223372036854775807) : wrap64 x = x := by unfold wrap64; omega
abbrev Evt := S36 × Option S39
def CS (e : List Evt) : List S36 := e.map (·.1)
def FM (e : List Evt) : List S39 := e.filterMap (·.2)
def Chain : List Evt → Int → Int → Prop
  | [], lo, hi => lo ≤ hi
  | e :: es, lo, hi => lo ≤ e.1.f1 ∧ (∀ f, e.2 = some f → f.f1 = e.1.f1 ∧ e.1.f0 = 65533) ∧ Chain es (e.1.f1 + 1) hi
theorem chain_mono : ∀ {es : List Evt} {lo lo' hi : Int}, lo' ≤ lo → Chain es lo hi → Chain es lo' hi
  | [], lo, lo', hi, h, hc => by unfold Chain at *; omega
  | e :: es, lo, lo', hi, h, hc => ⟨by have := hc.1; omega, hc.2⟩
theorem chain_append : ∀ {es fs : List Evt} {lo mi hi : Int}, Chain es lo mi → Chain fs mi hi → Chain (es ++ fs) lo hi
  | [], fs, lo, mi, hi, h, k => chain_mono h k
  | e :: es, fs, lo, mi, hi, h, k => ⟨h.1, h.2.1, chain_append h.2.2 k⟩
theorem chain_one {c : S36} {f : Option S39} {lo hi : Int} (h1 : lo ≤ c.f1) (h2 : c.f1 + 1 ≤ hi) (hf : ∀ x, f = some x → x.f1 = c.f1 ∧ c.f0 = 65533) : Chain [(c, f)] lo hi := ⟨h1, hf, h2⟩
theorem chain_le : ∀ {es : List Evt} {lo hi : Int}, Chain es lo hi → lo ≤ hi
  | [], lo, hi, h => h
  | e :: es, lo, hi, h => by have := h.1; have := chain_le h.2.2; omega
theorem chain_fm : ∀ {es : List Evt} {lo hi : Int}, Chain es lo hi → ∀ f, f ∈ FM es → lo ≤ f.f1
  | [], lo, hi, h, f, hf => by simp [FM] at hf
  | e :: es, lo, hi, h, f, hf => by
    unfold FM at hf
    rw [List.filterMap_cons] at hf
    obtain ⟨c, fo⟩ := e
    cases fo with
    | none =>
      simp only at hf
      have := chain_fm h.2.2 f hf
      have := h.1
      omega
    | some x =>
      simp only [List.mem_cons] at hf
      rcases hf with rfl | hf
      · have := (h.2.1 f rfl).1
        have := h.1
        omega
      · have := chain_fm h.2.2 f hf
        have := h.1
        omega
theorem CS_append (a b : List Evt) : CS (a ++ b) = CS a ++ CS b := List.map_append ..
theorem FM_append (a b : List Evt) : FM (a ++ b) = FM a ++ FM b := List.filterMap_append ..

/-- what a decoder has told, event by event; how many bytes it has taken -/
structure InvD (s : St) (lo n : Int) : Prop where
  have0 : 0 ≤ s.d.have_
  sum : s.d.at_ + s.d.have_ = n
  evs : ∃ es, s.cs = CS es ∧ s.fs = FM es ∧ Chain es lo s.d.at_

theorem inv_tell {s : St} {lo n : Int} (x : Int) (h : InvD s lo n) (h1 : 1 ≤ s.d.have_) (hn : n ≤ 1000000000000) (h0 : -1000000000000 ≤ s.d.at_) : InvD (s.tell x s.d.have_) lo n := by
  have hw : wrap64 (s.d.at_ + s.d.have_) = s.d.at_ + s.d.have_ := wrapI _ (by have := h.sum; have := h.have0; omega) (by have := h.sum; omega)
  obtain ⟨es, e1, e2, e3⟩ := h.evs
  refine ⟨Int.le_refl _, ?_, es ++ [(⟨x, s.d.at_, wrap64 (s.d.at_ + s.d.have_)⟩, none)], ?_, ?_, ?_⟩
  · show wrap64 (s.d.at_ + s.d.have_) + 0 = n
    rw [hw]; have := h.sum; omega
  · simp [St.tell, e1, CS]
  · simp [St.tell, e2, FM]
  · show Chain _ lo (wrap64 (s.d.at_ + s.d.have_))
    rw [hw]
    exact chain_append e3 (chain_one (Int.le_refl _) (by simp only; omega) (fun x h => by cases h))
theorem inv_bad {s : St} {lo n : Int} (sz : Int) (h : InvD s lo n) (h1 : 1 ≤ sz) (hs : s.d.at_ + sz = n) (hn : n ≤ 1000000000000) (h0 : -1000000000000 ≤ s.d.at_) : InvD (s.bad sz) lo n := by
  have hw : wrap64 (s.d.at_ + sz) = s.d.at_ + sz := wrapI _ (by omega) (by omega)
  obtain ⟨es, e1, e2, e3⟩ := h.evs
  refine ⟨Int.le_refl _, ?_, es ++ [(⟨65533, s.d.at_, wrap64 (s.d.at_ + sz)⟩, some ⟨1, s.d.at_⟩)], ?_, ?_, ?_⟩
  · show wrap64 (s.d.at_ + sz) + 0 = n
    rw [hw]; omega
  · simp [St.bad, e1, CS]
  · simp [St.bad, e2, FM]
  · show Chain _ lo (wrap64 (s.d.at_ + sz))
    rw [hw]
    exact chain_append e3 (chain_one (Int.le_refl _) (by simp only; omega) (fun x h => by cases h; exact ⟨rfl, rfl⟩))
theorem inv_fin {s : St} {lo n : Int} (h : InvD s lo n) (h1 : 1 ≤ s.d.have_) (hn : n ≤ 1000000000000) (h0 : -1000000000000 ≤ s.d.at_) : InvD s.fin lo n := by
  unfold St.fin
  split
  · rename_i he
    rw [← he]
    exact inv_tell s.d.r h h1 hn h0
  · exact h
theorem begin_at (d : Dec) (c : Int) : (d.begin c).at_ = d.at_ := by
  unfold Dec.begin
  repeat' split
  all_goals rfl
theorem begin_have (d : Dec) (c : Int) (h0 : 0 ≤ c) : (d.begin c).have_ = if begOk c = true then 1 else d.have_ := by
  unfold Dec.begin begOk
  by_cases c1 : c < 128
  · rw [if_pos c1, if_pos (decide_eq_true (by omega))]
  by_cases c2 : c < 194
  · rw [if_neg c1, if_pos c2, if_neg (by simp; omega)]
  by_cases c3 : c < 224
  · rw [if_neg c1, if_neg c2, if_pos c3, if_pos (decide_eq_true (by omega))]
  by_cases c4 : c < 240
  · rw [if_neg c1, if_neg c2, if_neg c3, if_pos c4, if_pos (decide_eq_true (by omega))]
  by_cases c5 : c < 245
  · rw [if_neg c1, if_neg c2, if_neg c3, if_neg c4, if_pos c5, if_pos (decide_eq_true (by omega))]
  · rw [if_neg c1, if_neg c2, if_neg c3, if_neg c4, if_neg c5, if_neg (by simp; omega)]
theorem inv_start {s : St} {lo n : Int} (c : Int) (hc : 0 ≤ c) (h : InvD s lo n) (hz : s.d.have_ = 0) (hn : n + 1 ≤ 1000000000000) (h0 : -1000000000000 ≤ s.d.at_) : InvD (s.start c) lo (n + 1) := by
  have ha := begin_at s.d c
  have hh := begin_have s.d c hc
  have hsum := h.sum
  unfold St.start
  by_cases hb : begOk c = true
  · rw [if_pos hb]
    rw [if_pos hb] at hh
    refine inv_fin ⟨?_, ?_, ?_⟩ ?_ hn ?_
    · simp only; omega
    · simp only; omega
    · simp only [ha]; exact h.evs
    · simp only; omega
    · simp only; omega
  · rw [if_neg hb]
    rw [if_neg hb] at hh
    have h2 : InvD ⟨s.d.begin c, s.cs, s.fs⟩ lo n := ⟨by simp only; omega, by simp only; omega, by simp only [ha]; exact h.evs⟩
    have hw : wrap64 (s.d.at_ + 1) = s.d.at_ + 1 := wrapI _ (by omega) (by omega)
    obtain ⟨es, e1, e2, e3⟩ := h.evs
    refine ⟨Int.le_refl _, ?_, es ++ [(⟨65533, s.d.at_, wrap64 (s.d.at_ + 1)⟩, some ⟨1, s.d.at_⟩)], ?_, ?_, ?_⟩
    · show wrap64 ((s.d.begin c).at_ + 1) + 0 = n + 1
      rw [ha, hw]; omega
    · simp [St.bad, e1, CS, ha]
    · simp [St.bad, e2, FM, ha]
    · show Chain _ lo (wrap64 ((s.d.begin c).at_ + 1))
      rw [ha, hw]
      exact chain_append e3 (chain_one (Int.le_refl _) (by simp only; omega) (fun x h => by cases h; exact ⟨rfl, rfl⟩))
theorem inv_step {s : St} {lo n : Int} (c : Int) (hc : 0 ≤ c) (h : InvD s lo n) (hlo : -1000000000000 ≤ lo) (hn : n + 1 ≤ 1000000000000) : InvD (s.step c) lo (n + 1) := by
  have h0 : -1000000000000 ≤ s.d.at_ := by
    obtain ⟨es, e1, e2, e3⟩ := h.evs
    have := chain_le e3
    omega
  have hsum := h.sum
  have hh := h.have0
  unfold St.step
  by_cases hz : s.d.have_ = 0
  · rw [if_pos hz]; exact inv_start c hc h hz hn h0
  · rw [if_neg hz]
    by_cases hr : c < s.d.low ∨ s.d.high < c
    · rw [if_pos hr]
      have h1 := inv_bad s.d.have_ h (by omega) hsum (by omega) h0
      refine inv_start c hc h1 rfl hn ?_
      show -1000000000000 ≤ wrap64 (s.d.at_ + s.d.have_)
      rw [wrapI _ (by omega) (by omega)]; omega
    · rw [if_neg hr]
      have hw : wrap64 (s.d.have_ + 1) = s.d.have_ + 1 := wrapI _ (by omega) (by omega)
      refine inv_fin ⟨?_, ?_, h.evs⟩ ?_ hn h0
      · show 0 ≤ wrap64 (s.d.have_ + 1); omega
      · show s.d.at_ + wrap64 (s.d.have_ + 1) = n + 1; omega
      · show 1 ≤ wrap64 (s.d.have_ + 1); omega
theorem inv_upto (t : ByteArray) (d : Dec) (n : Int) (h0 : 0 ≤ d.have_) (hs : d.at_ + d.have_ = n) (ha : -1000000000000 ≤ d.at_) (hn : n + t.size ≤ 1000000000000) : ∀ k : Nat, k ≤ t.size → InvD (St.upto t ⟨d, [], []⟩ k) d.at_ (n + k)
  | 0, _ => ⟨h0, by show d.at_ + d.have_ = n + ((0 : Nat) : Int); omega, [], rfl, rfl, Int.le_refl _⟩
  | k + 1, hk => by
    have ih := inv_upto t d n h0 hs ha hn k (by omega)
    have := inv_step (bt t k) (bt_range t (k : Int)).1 ih ha (by omega)
    have e : n + ((k + 1 : Nat) : Int) = n + (k : Int) + 1 := by omega
    rw [e]
    exact this
theorem end_evs (d : Dec) (h0 : 0 ≤ d.have_) (hn : d.at_ + d.have_ ≤ 1000000000000) (ha : -1000000000000 ≤ d.at_) : ∃ es, d.endC = CS es ∧ d.endF = FM es ∧ Chain es d.at_ (d.at_ + d.have_) := by
  unfold Dec.endC Dec.endF
  by_cases hz : d.have_ = 0
  · rw [if_pos hz, if_pos hz]
    exact ⟨[], rfl, rfl, by show d.at_ ≤ _; omega⟩
  · rw [if_neg hz, if_neg hz]
    exact ⟨[(⟨65533, d.at_, wrap64 (d.at_ + d.have_)⟩, some ⟨1, d.at_⟩)], rfl, rfl, chain_one (Int.le_refl _) (by simp only; omega) (fun x h => by cases h; exact ⟨rfl, rfl⟩)⟩
end Go.Proofs.Ytdmkhcmkfhojgaa.Pure
