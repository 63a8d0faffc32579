/- attrs.Sorted: the elements in order, in a row of its own. -/
import Derived.Test.YtkmioljfjjmcpaaSortStable
import Derived.Test.YtkmioljfjjmcpaaHandClone
namespace Go.Proofs.Ytkmioljfjjmcpaa.P
open Go.RowKit Go.Proofs.YtkmioljfjjmcpaaW.PrintWords Go.Proofs.YtkmioljfjjmcpaaW.PrintLast Go.Proofs.YtkmioljfjjmcpaaW.PrintMore Go.Proofs.Ytkmioljfjjmcpaa.Blk
set_option linter.unusedVariables false
set_option linter.unusedSimpArgs false
/-- x's place: behind all that are not behind it -/
def plE (x : E) : List E → Nat
  | [] => 0
  | y :: l => if lt x y then 0 else plE x l + 1
theorem plE_le (x : E) : ∀ l, plE x l ≤ l.length
  | [] => Nat.le_refl _
  | y :: l => by unfold plE; split <;> simp [plE_le x l]
def insE (x : E) (l : List E) : List E := mv l x (plE x l)
theorem insE_perm (x : E) (l : List E) : (insE x l).Perm (x :: l) := mv_perm l x _
theorem plE_lt (x : E) : ∀ (l : List E) (k : Nat) (y : E), k < plE x l → l[k]? = some y → lt x y = false
  | [], k, y, h, hk => by simp at hk
  | z :: l, k, y, h, hk => by
    unfold plE at h
    cases hq : lt x z with
    | true => rw [if_pos hq] at h; omega
    | false =>
      rw [if_neg (by rw [hq]; simp)] at h
      cases k with
      | zero => simp at hk; subst hk; exact hq
      | succ k => exact plE_lt x l k y (by omega) (by simpa using hk)
theorem plE_at (x : E) : ∀ (l : List E) (y : E), l[plE x l]? = some y → lt x y = true
  | [], y, hk => by simp at hk
  | z :: l, y, hk => by
    unfold plE at hk
    cases hq : lt x z with
    | true => rw [if_pos hq] at hk; simp at hk; subst hk; exact hq
    | false =>
      rw [if_neg (by rw [hq]; simp)] at hk
      exact plE_at x l y (by simpa using hk)
theorem plE_eq (x : E) (l : List E) (k : Nat) (hk : k ≤ l.length) (h1 : ∀ j y, j < k → l[j]? = some y → lt x y = false) (h2 : ∀ y, l[k]? = some y → lt x y = true) : plE x l = k := by
  rcases Nat.lt_trichotomy (plE x l) k with h | h | h
  · obtain ⟨y, hy⟩ : ∃ y, l[plE x l]? = some y := ⟨_, List.getElem?_eq_getElem (by omega)⟩
    have := plE_at x l y hy
    rw [h1 _ y h hy] at this; cases this
  · exact h
  · obtain ⟨y, hy⟩ : ∃ y, l[k]? = some y := ⟨_, List.getElem?_eq_getElem (by have := plE_le x l; omega)⟩
    have := plE_lt x l k y h hy
    rw [h2 y hy] at this; cases this
theorem insE_srt (x : E) {l : List E} (h : Srt l) : Srt (insE x l) := by
  unfold insE mv
  refine srt_append (srt_take h _) (List.pairwise_cons.2 ⟨fun y hy => ?_, srt_drop h _⟩) ?_
  · obtain ⟨k, hk⟩ := List.getElem?_of_mem hy
    rw [List.getElem?_drop] at hk
    have hkl := (List.getElem?_eq_some_iff.1 hk).1
    obtain ⟨v, hv⟩ : ∃ v, l[plE x l]? = some v := ⟨_, List.getElem?_eq_getElem (by omega)⟩
    exact (lt_le (plE_at x l v hv)).trans (srt_get h (by omega) hv hk)
  · intro y hy z hz
    obtain ⟨k, hk⟩ := List.getElem?_of_mem hy
    have hkl := (List.getElem?_eq_some_iff.1 hk).1
    rw [List.length_take] at hkl
    rw [List.getElem?_take_of_lt (by omega)] at hk
    have h1 : Le y x := plE_lt x l k y (by omega) hk
    rcases List.mem_cons.1 hz with rfl | hz
    · exact h1
    · obtain ⟨k2, hk2⟩ := List.getElem?_of_mem hz
      rw [List.getElem?_drop] at hk2
      exact srt_get h (by omega) hk hk2
def sortE (l : List E) : List E := l.foldl (fun o x => insE x o) []
theorem fold_srt : ∀ (l o : List E), Srt o → Srt (l.foldl (fun o x => insE x o) o)
  | [], o, h => h
  | x :: l, o, h => fold_srt l _ (insE_srt x h)
theorem fold_perm : ∀ (l o : List E), (l.foldl (fun o x => insE x o) o).Perm (l ++ o)
  | [], o => List.Perm.refl _
  | x :: l, o => by
    refine (fold_perm l (insE x o)).trans ?_
    refine (List.Perm.append_left l (insE_perm x o)).trans ?_
    exact List.perm_middle
theorem sortE_srt (l : List E) : Srt (sortE l) := fold_srt l [] List.Pairwise.nil
theorem sortE_perm (l : List E) : (sortE l).Perm l := by
  have := fold_perm l []
  rwa [List.append_nil] at this
theorem sortE_uniq {l M : List E} (h1 : M.Perm l) (h2 : Srt M) : M = sortE l := srt_unique M _ h2 (sortE_srt l) (h1.trans (sortE_perm l).symm)
theorem sortE_len (l : List E) : (sortE l).length = l.length := (sortE_perm l).length_eq
theorem belowMono {B B' : Nat} {w W : World} (h : Below B w W) (hb : B' ≤ B) : Below B' w W := ⟨h.os, h.tape, h.output, h.size, fun k hk => h.block k (Nat.lt_of_lt_of_le hk hb)⟩
theorem belowTrans {B : Nat} {w w1 w2 : World} (h : Below B w w1) (k : Below B w1 w2) : Below B w w2 := ⟨k.os.trans h.os, k.tape.trans h.tape, k.output.trans h.output, Nat.le_trans h.size k.size, fun i hi => (k.block i hi).trans (h.block i hi)⟩
/-- a row of one's own, as the sort sees it -/
theorem sort_of_row {w : World} {base g n c : Nat} {ok : Nat → Prop} {l : List E} (h : Kd.R k24 24 w base ok (.slice (some ⟨g, 0, none⟩) n c) l) : n = l.length ∧ n ≤ c ∧ c ≤ maxLen ∧ base ≤ g ∧ SortAt w g (c * 2) l w := by
  obtain ⟨h0, inner, ⟨hl, ho⟩, hr1, hr2⟩ := h
  rcases ho with ⟨h1, _⟩ | ⟨g', cap, cur, he, hbg, hh, hnc, hcm, hcs, ht⟩
  · cases h1
  · injection he with e1 e2 e3
    injection e1 with e1
    injection e1 with e1
    subst e1; subst e3
    have hs : k24.sz = 2 := rfl
    rw [hs] at hl hr1 hr2 hcs ht
    refine ⟨e2, by omega, hcm, hbg, ⟨cur, hh, hcs, by omega, ?_⟩, World.grownBy.refl w _, Blk.lt (show Blk w g 24 cur from hh)⟩
    intro j x hx
    have hj := (List.getElem?_eq_some_iff.1 hx).1
    have h5 := k24_openM (hr2 j x hx)
    rw [← ht, List.drop_take, List.take_take] at h5
    have a0 : (List.take (min 2 (l.length * 2 - j * 2)) (List.drop (j * 2) cur.toList))[0]? = some (.string x.f0) := by rw [h5]; rfl
    have a1 : (List.take (min 2 (l.length * 2 - j * 2)) (List.drop (j * 2) cur.toList))[1]? = some (.string x.f1) := by rw [h5]; rfl
    rw [List.getElem?_take_of_lt (by omega), List.getElem?_drop, Nat.add_zero, Array.getElem?_toList] at a0
    rw [List.getElem?_take_of_lt (by omega), List.getElem?_drop, Array.getElem?_toList] at a1
    exact ⟨a0, a1⟩
theorem row_of_sort {w0 w : World} {base g n c : Nat} {ok : Nat → Prop} {l : List E} (hok : ok g) (hbg : base ≤ g) (hn : n = l.length) (hnc : n ≤ c) (hcm : c ≤ maxLen) (h : SortAt w0 g (c * 2) l w) : Kd.R k24 24 w base ok (.slice (some ⟨g, 0, none⟩) n c) l := by
  obtain ⟨⟨cur, hh, hcs, hl, hc⟩, _, _⟩ := h
  have hs : k24.sz = 2 := rfl
  refine ⟨fun k hk => ?_, cur.toList.take (l.length * 2), ⟨by rw [hs, List.length_take, Array.length_toList (xs := cur)]; omega, .inr ⟨g, c, cur, by rw [hn], hbg, hh, by omega, hcm, by rw [hs]; exact hcs, by rw [hs]⟩⟩, by rw [hs, List.length_take, Array.length_toList (xs := cur)]; omega, ?_⟩
  · have : g = k := by simpa [Value.ownBlock] using hk
    rw [← this]; exact hok
  · intro j x hx
    have hj := (List.getElem?_eq_some_iff.1 hx).1
    obtain ⟨a0, a1⟩ := hc j x hx
    have h6 : (List.drop (j * k24.sz) (cur.toList.take (l.length * 2))).take k24.sz = [.string x.f0, .string x.f1] := by
      rw [hs, List.drop_take, List.take_take, show min 2 (l.length * 2 - j * 2) = 2 by omega]
      have b0 : j * 2 < cur.toList.length := by rw [Array.length_toList (xs := cur)]; omega
      have b1 : j * 2 + 1 < cur.toList.length := by rw [Array.length_toList (xs := cur)]; omega
      rw [List.drop_eq_getElem_cons b0, List.drop_eq_getElem_cons b1]
      rw [← Array.getElem?_toList, List.getElem?_eq_getElem b0] at a0
      rw [← Array.getElem?_toList, List.getElem?_eq_getElem b1] at a1
      rw [Option.some.inj a0, Option.some.inj a1]
      rfl
    rw [h6]
    exact k24_mkM _ _ _ _
set_option maxRecDepth 100000 in
set_option maxHeartbeats 1000000 in
theorem ins_nil (w : World) : Calls Try.prog 34 #[.slice none 0 0, .int .i64 0, .int .i64 0, clo] w fun e w' => e = .returned (.tuple #[]) ∧ w' = w := by
  go_enter Try.func34, Try.ntmps34
  go_wp2
  go_loopw [8] (fun v wr2 => v = .int .i64 1 ∧ wr2 = w) (fun _ _ => 0)
  case atStart => exact ⟨rfl, rfl⟩
  case round =>
    obtain ⟨rfl, h1⟩ := hrel
    obtain rfl := h1.symm
    go_wp2
    go_end0
    exact ⟨rfl, rfl⟩
set_option maxRecDepth 100000 in
set_option maxHeartbeats 1000000 in
theorem stb_nil (w : World) : Calls Try.prog 32 #[.slice none 0 0, .int .i64 0, clo] w fun e w' => e = .returned (.tuple #[]) ∧ w' = w := by
  go_enter Try.func32, Try.ntmps32
  go_wp2
  go_loopw [7, 8] (fun v7 v8 wr2 => v7 = .int .i64 0 ∧ v8 = .int .i64 20 ∧ wr2 = w) (fun _ _ _ => 0)
  case atStart => exact ⟨rfl, rfl, rfl⟩
  case round =>
    obtain ⟨rfl, rfl, h1⟩ := hrel
    obtain rfl := h1.symm
    go_wp2_with (go_at_call 34; refine (ins_nil _).mono ?_; rintro e w1 ⟨rfl, h2⟩; obtain rfl := h2.symm)
    go_loopw [6] (fun v wr2 => v = .int .i64 20 ∧ wr2 = w) (fun _ _ => 0)
    case atStart => exact ⟨rfl, rfl⟩
    case round =>
      obtain ⟨rfl, h1⟩ := hrel
      obtain rfl := h1.symm
      go_wp2
      go_end0
      exact ⟨rfl, rfl⟩
theorem ssf_nil (w : World) : Calls Try.prog 25 #[.slice none 0 0, clo] w fun e w' => e = .returned (.tuple #[]) ∧ Below w.heap.size w w' := by
  go_enter Try.func25, Try.ntmps25
  go_wp2_with (go_at_call 32; refine (stb_nil _).mono ?_; rintro e w1 ⟨rfl, h2⟩; obtain rfl := h2.symm)
  go_end0
  exact ⟨rfl, Below.refl _ _⟩
theorem ssf_row {w : World} {base : Nat} {ok : Nat → Prop} {v : Value} {l : List E} (h : Kd.R k24 24 w base ok v l) (hl : l.length ≤ 1000000000000) (hw : base ≤ w.heap.size) :
    Calls Try.prog 25 #[v, clo] w fun e w' => e = .returned (.tuple #[]) ∧ Kd.R k24 24 w' base ok v (sortE l) ∧ Below base w w' := by
  obtain ⟨A, c, rfl⟩ := Kd.R_slice h
  obtain ⟨inner, ho⟩ := Kd.R_own h
  rcases ho.2 with ⟨h1, h2⟩ | ⟨g, cap, cur, he, _⟩
  · injection h1 with e1 e2 e3
    subst e1; subst e3
    have : l = [] := List.length_eq_zero_iff.1 h2
    subst this
    refine (ssf_nil w).mono ?_
    rintro e w1 ⟨rfl, hb⟩
    exact ⟨rfl, Kd.R_nil _ _ _ _ _, belowMono hb hw⟩
  · injection he with e1 e2 e3
    subst e1; subst e3
    obtain ⟨hn, hnc, hcm, hbg, hs⟩ := sort_of_row h
    have hok : ok g := h.1 g rfl
    refine (ssf_calls l rfl hl w hs).mono ?_
    rintro e w1 ⟨rfl, M, hM, hsr, hat⟩
    obtain rfl := sortE_uniq hM hsr
    have hg := hat.2.1
    exact ⟨rfl, row_of_sort hok hbg (sortE_len l).symm hnc hcm hat, (Below.refl base w).grown hg hw (fun b e => by cases e; exact hbg)⟩
/-! ### attrs.Sorted -/
def attrs_Sorted.f (l0 : List (S24)) : Option (List (S24)) := if l0.length * 32 ≤ 140737488355328 ∧ l0.length ≤ 1000000000000 then some (sortE l0) else none
set_option maxRecDepth 100000 in
set_option maxHeartbeats 1000000 in
theorem attrs_Sorted.calls (A0 : Option Addr) (c0 : Nat) (l0 : List (S24)) (r : List (S24)) (w : World) (hr0 : Kd.C k24 w A0 l0.length l0) (hc0 : l0.length ≤ c0) (h : attrs_Sorted.f l0 = some r) :
    Calls Try.prog 19 #[.slice A0 l0.length c0] w fun e w' => ∃ v0_ : Value, e = .returned (v0_) ∧ Kd.R k24 24 w' w.heap.size (fun _ => True) v0_ r ∧ Below w.heap.size w w' := by
  unfold attrs_Sorted.f at h
  by_cases hl : l0.length * 32 ≤ 140737488355328 ∧ l0.length ≤ 1000000000000
  · rw [if_pos hl] at h
    obtain rfl := Option.some.inj h
    have hf : api_Attr_22.f l0 = some l0 := if_pos hl.1
    have H0 := Aside0.mk (And.intro hr0 (And.intro hc0 hf))
    have HL := Aside0.mk hl.2
    clear h hl hf hr0 hc0
    go_enter Try.func19, Try.ntmps19
    go_wp2_with (first
      | (go_at_call 22; refine (api_Attr_22.calls A0 c0 l0 l0 w H0.out.1 H0.out.2.1 H0.out.2.2).mono ?_; rintro e w1 ⟨v1, rfl, hr1, hb1⟩; have HR1 := Aside0.mk hr1; have HB1 := Aside0.mk hb1; clear hr1 hb1 H0)
      | (go_at_call 25; refine (ssf_row HR1.out HL.out HB1.out.size).mono ?_; rintro e w2 ⟨rfl, hr2, hb2⟩; have HR2 := Aside0.mk hr2; have HB2 := Aside0.mk hb2; clear hr2 hb2 HR1))
    go_ret
    exact ⟨_, rfl, HR2.out, belowTrans HB1.out HB2.out⟩
  · rw [if_neg hl] at h; cases h
end Go.Proofs.Ytkmioljfjjmcpaa.P
