/- What comes in, read as one of the print's kinds: for every input that can be read as data at a type, a plain value of that type's kind, with the bounds that the reach gives. -/
import Derived.Test.YtdciombpffkcjaaWWords
import Derived.SizedLaws
import Derived.ChangeSlices
import Derived.ChangeArms
import Derived.ChangeOld
import Derived.DataReads
namespace Go.Proofs.Ytdciombpffkcjaa.Open
open Go.ChangeShapes Go.WideShapes Go.Proofs.YtdciombpffkcjaaW.PrintWords

/-- None of the data's rows and strings is heavier than the reach. -/
def Light {H : Type} (P : Program) (t : TypeId) (d : DataW H) : Prop := ∀ n ∈ d.weights P t, n ≤ 140737488351232

def Opens {α : Type} (P : Program) (N : Nat) (t : TypeId) (d : Kd α) (ok : α → Prop) : Prop :=
  ∀ (H : Type) (enc : TypeId × Value → H) (w : World) (sp : Nat → Bool) (held : Bool) (cs : List Value) (y : DataW H × List MemPlace) (fuel : Nat), fuel ≤ N →
    DataW.trod enc P w 0 sp held fuel t cs = some y → Light P t y.1 → ∃ x, d.K w x cs ∧ ok x

theorem Opens.imp {α : Type} {P : Program} {N : Nat} {t : TypeId} {d : Kd α} {ok ok' : α → Prop} (h : Opens P N t d ok) (hi : ∀ x, ok x → ok' x) : Opens P N t d ok' := by
  intro H enc w sp held cs y fuel hf ht hl
  obtain ⟨x, h1, h2⟩ := h H enc w sp held cs y fuel hf ht hl
  exact ⟨x, h1, hi x h2⟩

theorem opens_int {P : Program} {t : TypeId} {k : IntKind} (ht : P.underlying t = some (.int k)) (N : Nat) : Opens P N t (Kd.int k) (fun x => (Lit.int k x).wf = true) := by
  intro H enc w sp held cs y fuel hf h hl
  obtain ⟨n, rfl, _, hw⟩ := DataW.trod_int ht h
  exact ⟨n, rfl, hw⟩

theorem opens_bool {P : Program} {t : TypeId} (ht : P.underlying t = some .bool) (N : Nat) : Opens P N t Kd.bool (fun _ => True) := by
  intro H enc w sp held cs y fuel hf h hl
  obtain ⟨n, rfl, _⟩ := DataW.trod_bool ht h
  exact ⟨n, rfl, trivial⟩

theorem opens_string {P : Program} {t : TypeId} (ht : P.underlying t = some .string) (N : Nat) : Opens P N t Kd.string (fun s => s.size ≤ 140737488351232) := by
  intro H enc w sp held cs y fuel hf h hl
  obtain ⟨s, rfl, rfl, _⟩ := DataW.trod_string ht h
  refine ⟨s, rfl, ?_⟩
  have := hl s.data.toList.length (by simp [DataW.weights])
  simpa using this

theorem exists_list {α : Type} {p : Nat → α → Prop} : ∀ (n : Nat), (∀ i, i < n → ∃ x, p i x) → ∃ xs : List α, xs.length = n ∧ ∀ i x, xs[i]? = some x → p i x
  | 0, _ => ⟨[], rfl, fun i x h => by simp at h⟩
  | n + 1, h => by
    obtain ⟨xs, hl, hx⟩ := exists_list n (fun i hi => h i (by omega))
    obtain ⟨x, hp⟩ := h n (by omega)
    refine ⟨xs ++ [x], by simp [hl], fun i z hz => ?_⟩
    rcases Nat.lt_or_ge i xs.length with hi | hi
    · rw [List.getElem?_append_left hi] at hz
      exact hx i z hz
    · have hi' : i = n := by
        have := (List.getElem?_eq_some_iff.1 hz).1
        rw [List.length_append, List.length_singleton] at this
        omega
      subst hi'
      have : x = z := by
        rw [List.getElem?_append_right hi, hl] at hz
        simpa using hz
      subst this
      exact hp

theorem weights_all {H : Type} {P : Program} {e : TypeId} : ∀ {l : List (DataW H)} {d : DataW H}, d ∈ l → ∀ n ∈ d.weights P e, n ∈ DataW.weightsAll P e l
  | [], _, h, _, _ => by simp at h
  | x :: r, d, h, n, hn => by
    rw [DataW.weightsAll, List.mem_append]
    rcases List.mem_cons.1 h with rfl | h
    · exact .inl hn
    · exact .inr (weights_all h n hn)

theorem opens_slice {α : Type} {P : Program} {N : Nat} {t e : TypeId} {d : Kd α} {ok : α → Prop} {B : Nat} (ht : P.underlying t = some (.slice e)) (hc : P.cellsOf e = d.sz) (hB : P.bytesOf e = B) (h : Opens P N e d ok) :
    Opens P N t (Kd.slice e d) (fun xs => xs.length * B ≤ 140737488351232 ∧ ∀ x ∈ xs, ok x) := by
  intro H enc w sp held cs y fuel hf hd hl
  rcases DataW.trod_slice ht hd with ⟨rfl, rfl⟩ | ⟨a, len, cap, elems, rest, n, hfu, rfl, rfl, hb, hle, hm, hlen, hel, _⟩
  · exact ⟨[], ⟨none, 0, rfl, Nat.le_refl _, rfl, by simp, fun hp => absurd hp (by simp)⟩, by simp, fun x hx => by simp at hx⟩
  · have hw : (elems.length + rest.length) * B ≤ 140737488351232 := by
      refine hl _ ?_
      simp [DataW.weights, ht, hB]
    have hwe : ∀ z ∈ elems, Light P e z.1 := by
      intro z hz q hq
      refine hl q ?_
      simp only [DataW.weights, ht]
      refine List.mem_cons_of_mem _ (List.mem_append_left _ (weights_all (List.mem_map_of_mem hz) q hq))
    obtain ⟨xs, hxl, hxs⟩ := exists_list (p := fun i x => (∃ c, c.length = d.sz ∧ d.K w x c ∧ ∀ j u, c[j]? = some u → w.cell? (a.add (i * d.sz + j)) = some u) ∧ ok x) len (fun i hi => by
      obtain ⟨z, hz⟩ : ∃ z, elems[i]? = some z := ⟨_, List.getElem?_eq_getElem (by omega)⟩
      have hi2 := hel i hi
      rw [hz] at hi2
      obtain ⟨cs', hcs, htr⟩ := Option.bind_eq_some_iff.1 hi2
      obtain ⟨x, hk, ho⟩ := h H enc w sp held cs' z n (by omega) htr (hwe z (List.mem_of_getElem? hz))
      obtain ⟨_, hl', hcell⟩ := World.cells?_some hcs
      refine ⟨x, ⟨cs', by rw [hl', hc], hk, fun j u hu => ?_⟩, ho⟩
      have hj : j < cs'.length := (List.getElem?_eq_some_iff.1 hu).1
      rw [← hu, ← hcell j (by omega)]
      rw [← hc]
      congr 1
      unfold Addr.add
      by_cases hi0 : i * P.cellsOf e = 0 <;> by_cases hj0 : j = 0 <;> simp [hi0, hj0, Nat.add_assoc])
    refine ⟨xs, ⟨some a, cap, by rw [hxl], by omega, rfl, by unfold maxLen at hm; omega, fun _ => ⟨a, rfl, fun j p hj => (hxs j p hj).1⟩⟩, ?_, fun x hx => ?_⟩
    · rw [hxl, ← hlen]
      exact Nat.le_trans (Nat.mul_le_mul_right _ (by omega)) hw
    · obtain ⟨j, hj⟩ := List.getElem?_of_mem hx
      exact (hxs j x hj).2

/-- Fields in line, from cell o on. -/
def OpensL {α : Type} (P : Program) (N : Nat) (fs : List Field) (o : Nat) (d : Kd α) (ok : α → Prop) : Prop :=
  ∀ (H : Type) (enc : TypeId × Value → H) (w : World) (sp : Nat → Bool) (held : Bool) (cs : List Value) (ys : List (DataW H × List MemPlace)) (n : Nat), n ≤ N → ys.length = fs.length →
    (∀ (i : Nat) f y, fs[i]? = some f → ys[i]? = some y → DataW.trod enc P w 0 sp held n f.type ((cs.drop f.offset).take (P.cellsOf f.type)) = some y ∧ Light P f.type y.1) →
    cs.length = o + d.sz → ∃ x, d.K w x (cs.drop o) ∧ ok x

theorem opensL_one {α : Type} {P : Program} {N o : Nat} {f : Field} {d : Kd α} {ok : α → Prop} (ho : f.offset = o) (hc : P.cellsOf f.type = d.sz) (h : Opens P N f.type d ok) : OpensL P N [f] o d ok := by
  intro H enc w sp held cs ys n hn hy hf hl
  match ys, hy with
  | [y], _ =>
    obtain ⟨ht, hw⟩ := hf 0 f y rfl rfl
    rw [ho, hc, List.take_of_length_le (by rw [List.length_drop]; omega)] at ht
    exact h H enc w sp held _ y n hn ht hw

theorem opensL_cons {α β : Type} {P : Program} {N o : Nat} {f : Field} {fs : List Field} {a : Kd α} {b : Kd β} {oka : α → Prop} {okb : β → Prop} (ho : f.offset = o) (hc : P.cellsOf f.type = a.sz) (h : Opens P N f.type a oka) (hr : OpensL P N fs (o + a.sz) b okb) :
    OpensL P N (f :: fs) o (Kd.pair a b) (fun x => oka x.1 ∧ okb x.2) := by
  intro H enc w sp held cs ys n hn hy hf hl
  match ys, hy with
  | y :: ys, hy =>
    obtain ⟨ht, hw⟩ := hf 0 f y rfl rfl
    rw [ho, hc] at ht
    obtain ⟨x, hx, hox⟩ := h H enc w sp held _ y n hn ht hw
    have hl' : cs.length = o + (a.sz + b.sz) := hl
    obtain ⟨z, hz, hoz⟩ := hr H enc w sp held cs ys n hn (by simpa using hy) (fun i g v hg hv => hf (i + 1) g v (by simpa using hg) (by simpa using hv)) (by omega)
    refine ⟨(x, z), ⟨_, _, ?_, hx, hz⟩, hox, hoz⟩
    rw [← List.drop_drop, List.take_append_drop]

theorem opens_struct {α : Type} {P : Program} {N : Nat} {t : TypeId} {fs : Array Field} {d : Kd α} {ok : α → Prop} (ht : P.underlying t = some (.struct fs)) (hc : P.cellsOf t = d.sz) (h : OpensL P N fs.toList 0 d ok) : Opens P (N + 1) t d ok := by
  intro H enc w sp held cs y fuel hf hd hl
  obtain ⟨xs, n, hfu, rfl, hcl, hxl, hx⟩ := DataW.trod_struct ht hd
  have := h H enc w sp held cs xs n (by omega) (by simpa using hxl) (fun i f z hfi hz => by
    have hfi' : fs[i]? = some f := by simpa using hfi
    refine ⟨(hx i f hfi').trans hz, fun q hq => hl q ?_⟩
    simp only [DataW.weights, ht]
    exact DataW.weights_mem_each (j := i) (t := f.type) (d := z.1) (by simp [hfi]) (by simp [hz]) q hq) (by rw [hcl, hc]; omega)
  simpa using this

theorem opens_struct_any {α : Type} {P : Program} {t : TypeId} {fs : Array Field} {d : Kd α} {ok : α → Prop} (ht : P.underlying t = some (.struct fs)) (hc : P.cellsOf t = d.sz) (h : ∀ N, OpensL P N fs.toList 0 d ok) (N : Nat) : Opens P N t d ok := by
  cases N with
  | zero =>
    intro H enc w sp held cs y fuel hf hd hl
    obtain rfl : fuel = 0 := by omega
    simp [DataW.trod] at hd
  | succ N => exact opens_struct ht hc (h N)

theorem opens_iso {α β : Type} {P : Program} {N : Nat} {t : TypeId} {d : Kd α} {ok : α → Prop} {f : β → α} (g : α → β) (hg : ∀ a, f (g a) = a) (h : Opens P N t d ok) : Opens P N t (Kd.iso d f) (fun b => ok (f b)) := by
  intro H enc w sp held cs y fuel hf hd hl
  obtain ⟨x, hx, ho⟩ := h H enc w sp held cs y fuel hf hd hl
  exact ⟨g x, by show d.K w (f (g x)) cs; rw [hg]; exact hx, by show ok (f (g x)); rw [hg]; exact ho⟩

theorem opens_fix {α : Type} {P : Program} {t : TypeId} {F : Kd α → Kd α} {sz : Nat} {E : List Nat} {ok : α → Prop} (hs : ∀ n, (Kd.upto F sz E n).sz = sz) (hE : ∀ n q, q ∈ (Kd.upto F sz E n).E → q ∈ E)
    (h : ∀ N d, d.sz = sz → Opens P N t d ok → Opens P (N + 1) t (F d) ok) (N : Nat) : Opens P N t (Kd.fix F sz E hs hE) ok := by
  have step : ∀ N, Opens P N t (Kd.upto F sz E N) ok := by
    intro N
    induction N with
    | zero =>
      intro H enc w sp held cs y fuel hf hd hl
      obtain rfl : fuel = 0 := by omega
      simp [DataW.trod] at hd
    | succ N ih => exact h N _ (hs N) ih
  intro H enc w sp held cs y fuel hf hd hl
  obtain ⟨x, hx, ho⟩ := step N H enc w sp held cs y fuel hf hd hl
  exact ⟨x, ⟨N, hx⟩, ho⟩

/-- An argument, opened. -/
theorem opened {α : Type} {P : Program} {t : TypeId} {d : Kd α} {ok : α → Prop} (h : ∀ N, Opens P N t d ok) {H : Type} {enc : TypeId × Value → H} {w : World} {sp : Nat → Bool} {held : Bool} {v : Value} {dd : DataW H} {ps : List MemPlace}
    (hd : DataW.Trod enc P w 0 sp held t v dd ps) {ts : List TypeId} {ds : List (DataW H)} {j : Nat} (hsz : (DataW.weightsEach P ts ds).all (· ≤ reachBytes) = true) (ht : ts[j]? = some t) (hj : ds[j]? = some dd) : ∃ x, d.K w x v.cells.toList ∧ ok x := by
  obtain ⟨fuel, hf⟩ := hd
  refine h fuel H enc w sp held _ _ fuel (Nat.le_refl _) hf (fun n hn => ?_)
  have := List.all_eq_true.1 hsz n (DataW.weights_mem_each ht hj n hn)
  exact of_decide_eq_true this

theorem i64_bounds {x : Int} (h : (Lit.int .i64 x).wf = true) : -9223372036854775808 ≤ x ∧ x ≤ 9223372036854775807 := by
  simp [Lit.wf, IntKind.min, IntKind.max, IntKind.signed, IntKind.bits] at h
  omega
theorem u8_bounds {x : Int} (h : (Lit.int .u8 x).wf = true) : 0 ≤ x ∧ x ≤ 255 := by
  simp [Lit.wf, IntKind.min, IntKind.max, IntKind.signed, IntKind.bits] at h
  omega
end Go.Proofs.Ytdciombpffkcjaa.Open
