/- The names that a trie has; a trie while a name is laid into it. -/
import Derived.Test.YtkidfbapnkegmaaTr0
namespace Go.Proofs.Ytkidfbapnkegmaa.P
open Go.RowKit Go.Proofs.YtkidfbapnkegmaaW.PrintWords Go.Proofs.YtkidfbapnkegmaaW.PrintLast Go.Proofs.YtkidfbapnkegmaaW.PrintMore Go.Proofs.Ytkidfbapnkegmaa.Blk
set_option linter.unusedVariables false

/-- names, each once, with their characters -/
abbrev NS := List (List UInt8 × Int)
def NS.get (S : NS) (p : List UInt8) : Option Int := S.lookup p
/-- one more, if it counts -/
def addN (S : NS) (x : S28) : NS := if x.f0.size = 0 ∨ 8 < x.f0.size ∨ (S.get x.f0.data.toList).isSome = true then S else S ++ [(x.f0.data.toList, x.f1)]
def nmz (l : List S28) : NS := l.foldl addN []
theorem nmz_step (l : List S28) (j : Nat) (x : S28) (hj : l[j]? = some x) : nmz (l.take (j + 1)) = addN (nmz (l.take j)) x := by
  unfold nmz
  rw [List.take_add_one, hj]
  simp
theorem addN_len (S : NS) (x : S28) : (addN S x).length ≤ S.length + 1 := by
  unfold addN
  split <;> simp
theorem foldl_len : ∀ (l : List S28) (S : NS), (l.foldl addN S).length ≤ S.length + l.length
  | [], S => by simp
  | x :: l, S => by
    have h1 := foldl_len l (addN S x)
    have h2 := addN_len S x
    simp only [List.foldl_cons, List.length_cons]
    omega
theorem nmz_len (l : List S28) : (nmz l).length ≤ l.length := by
  have := foldl_len l []
  simpa [nmz] using this
theorem get_snoc (S : NS) (q : List UInt8) (r : Int) (hq : S.get q = none) (p : List UInt8) : NS.get (S ++ [(q, r)]) p = if p = q then some r else S.get p := by
  unfold NS.get at *
  rw [List.lookup_append]
  by_cases h : p = q
  · subst h
    rw [hq]
    simp [List.lookup]
  · have : (p == q) = false := by simpa using h
    simp [List.lookup, h, this]

/-- the trie has just these names -/
structure Holds (t : TG) (S : NS) : Prop where
  vl : ∀ p, t.vl p = S.get p
  nd : ∀ p, (t.nd p).isSome = true ↔ p = [] ∨ ∃ x ∈ S, p <+: x.1

/-- a trie while the bytes q of a name are laid: their node b; bx, b8: two blocks that are none of the trie's; W: the world when the name began -/
structure Mid (w W wr : World) (g cnt bx b8 : Nat) (t : TG) (S : NS) (q : List UInt8) (b : Nat) : Prop where
  at_ : TrieAt wr w.heap.size g cnt t
  vl : ∀ p, t.vl p = S.get p
  nd : ∀ p, (t.nd p).isSome = true ↔ p = [] ∨ (∃ x ∈ S, p <+: x.1) ∨ p <+: q
  here : t.nd q = some b
  offn : ∀ p k, t.nd p = some k → k ≠ bx ∧ k ≠ b8
  offm : ∀ p k, t.mp p = some k → k ≠ bx ∧ k ≠ b8
  kx : wr.heap[bx]? = W.heap[bx]?
  k8 : wr.heap[b8]? = W.heap[b8]?
  sz : W.heap.size ≤ wr.heap.size
  lx : bx < W.heap.size
  l8 : b8 < W.heap.size
  bel : Below w.heap.size w wr

section
variable {w W wr : World} {g cnt bx b8 : Nat} {t : TG} {S : NS} {q : List UInt8} {b : Nat}
theorem pre_snoc (p q : List UInt8) (c : UInt8) : p <+: q ++ [c] ↔ p <+: q ∨ p = q ++ [c] := by
  rw [List.prefix_concat_iff]
  constructor
  · rintro (h | h)
    · exact .inr (by simpa using h)
    · exact .inl h
  · rintro (h | h)
    · exact .inr h
    · exact .inl (by simpa using h)
theorem Mid.cellx (h : Mid w W wr g cnt bx b8 t S q b) {i : Nat} {v : Option Value} (hc : W.cell? ⟨bx, i, none⟩ = v) : wr.cell? ⟨bx, i, none⟩ = v := by
  rw [← hc]
  simp only [World.cell?, h.kx]
theorem Mid.cell8 (h : Mid w W wr g cnt bx b8 t S q b) {i : Nat} {v : Option Value} (hc : W.cell? ⟨b8, i, none⟩ = v) : wr.cell? ⟨b8, i, none⟩ = v := by
  rw [← hc]
  simp only [World.cell?, h.k8]
/-- the byte's node is there -/
theorem Mid.go (h : Mid w W wr g cnt bx b8 t S q b) {c : UInt8} {b' : Nat} (hn : t.nd (q ++ [c]) = some b') : Mid w W wr g cnt bx b8 t S (q ++ [c]) b' where
  at_ := h.at_
  vl := h.vl
  nd p := by
    rw [h.nd p, pre_snoc]
    constructor
    · rintro (h | h | h)
      · exact .inl h
      · exact .inr (.inl h)
      · exact .inr (.inr (.inl h))
    · rintro (h1 | h1 | h1 | h1)
      · exact .inl h1
      · exact .inr (.inl h1)
      · exact .inr (.inr h1)
      · subst h1
        exact (h.nd _).1 (by rw [hn]; rfl)
  here := hn
  offn := h.offn
  offm := h.offm
  kx := h.kx
  k8 := h.k8
  sz := h.sz
  lx := h.lx
  l8 := h.l8
  bel := h.bel
/-- a map for the node -/
theorem Mid.map (h : Mid w W wr g cnt bx b8 t S q b) (hm : t.mp q = none) : Mid w W ((wr.alloc (.map #[] 0)).setCell ⟨b, 0, none⟩ (.map (some wr.heap.size))) g cnt bx b8 (t.withMap q wr.heap.size) S q b where
  at_ := h.at_.newmap h.here hm h.bel.size
  vl := h.vl
  nd := h.nd
  here := h.here
  offn := h.offn
  offm p k hk := by
    simp only [TG.withMap] at hk
    split at hk
    · cases hk
      have h1 := h.lx
      have h2 := h.l8
      have h3 := h.sz
      omega
    · exact h.offm p k hk
  kx := by
    rw [← h.kx]
    exact (Below.heap_setCell _ ⟨b, 0, none⟩ _ bx (Ne.symm (h.offn q b h.here).1)).trans (Below.heap_alloc wr _ bx (Nat.lt_of_lt_of_le h.lx h.sz))
  k8 := by
    rw [← h.k8]
    exact (Below.heap_setCell _ ⟨b, 0, none⟩ _ b8 (Ne.symm (h.offn q b h.here).2)).trans (Below.heap_alloc wr _ b8 (Nat.lt_of_lt_of_le h.l8 h.sz))
  sz := by
    have := h.sz
    simp [World.setCell]
    omega
  lx := h.lx
  l8 := h.l8
  bel := (h.bel.alloc h.bel.size _).setCell (p := ⟨b, 0, none⟩) (h.at_.node q b h.here).1 _
/-- a node for the byte -/
theorem Mid.new (h : Mid w W wr g cnt bx b8 t S q b) {m : Nat} (hm : t.mp q = some m) {c : UInt8} (hn : t.nd (q ++ [c]) = none) {P : Program} {T k e : TypeId} (hT : P.underlying T = some (.map k e)) (hk : P.underlying k = some (.int .u8)) :
    ∃ w', (Instr.mapUpdate T (.map (some m)) (kc c) (.pointer (some ⟨wr.heap.size, 0, none⟩))).run P (wr.alloc (.cells #[.map none, .bool false, .int .i64 0] 42)) = .ok () w' ∧
      Mid w W w' g cnt bx b8 (t.grow (q ++ [c]) wr.heap.size) S (q ++ [c]) wr.heap.size := by
  have hlt : ∀ p k, t.nd p = some k → k < wr.heap.size := fun p k hk => h.at_.lt hk
  obtain ⟨w', hrun, hat, hg⟩ := (h.at_.alloc (.cells #[.map none, .bool false, .int .i64 0] 42)).store hm hn (b := wr.heap.size) (Blk.new wr 42 _) h.bel.size (fun p hp => by have := hlt p _ hp; omega) hT hk
  have h1 := h.lx
  have h2 := h.l8
  have h3 := h.sz
  have h4 := h.offm q m hm
  refine ⟨w', hrun, ?_⟩
  exact {
    at_ := hat
    vl := h.vl
    nd := fun p => by
      rw [pre_snoc]
      simp only [TG.grow]
      split
      · rename_i hp
        simp [hp]
      · rename_i hp
        rw [h.nd p]
        constructor
        · rintro (h | h | h)
          · exact .inl h
          · exact .inr (.inl h)
          · exact .inr (.inr (.inl h))
        · rintro (h | h | h | h)
          · exact .inl h
          · exact .inr (.inl h)
          · exact .inr (.inr h)
          · exact absurd h hp
    here := by simp [TG.grow]
    offn := fun p k hk => by
      simp only [TG.grow] at hk
      split at hk
      · cases hk
        omega
      · exact h.offn p k hk
    offm := h.offm
    kx := by
      rw [← h.kx]
      exact (hg.block bx (by simp; omega) (by simp; omega)).trans (Below.heap_alloc wr _ bx (by omega))
    k8 := by
      rw [← h.k8]
      exact (hg.block b8 (by simp; omega) (by simp; omega)).trans (Below.heap_alloc wr _ b8 (by omega))
    sz := by
      have := hg.size
      simp at this
      omega
    lx := h.lx
    l8 := h.l8
    bel := (h.bel.alloc h.bel.size (.cells #[.map none, .bool false, .int .i64 0] 42)).grown hg (by simp; have := h.bel.size; omega) (fun k e => by cases e; exact (h.at_.map q m hm).1) }

/-- where a name begins -/
theorem Mid.start (h : TrieAt wr w.heap.size g cnt t) (hh : Holds t S) (hb : Below w.heap.size w wr) (o : Obj) (s : ByteArray) :
    Mid w (Lib.bytesWorld (wr.alloc o) 5 s) (Lib.bytesWorld (wr.alloc o) 5 s) g cnt wr.heap.size (wr.heap.size + 1) t S [] g where
  at_ := h.below ((bytes_below (Below.refl _ _) (by simp) 5 s |> fun k => (below_alloc (Below.refl wr.heap.size wr) o).trans (k : Below wr.heap.size (wr.alloc o) (Lib.bytesWorld (wr.alloc o) 5 s))))
  vl := hh.vl
  nd p := by
    rw [hh.nd p]
    constructor
    · rintro (h | h)
      · exact .inl h
      · exact .inr (.inl h)
    · rintro (h | h | h)
      · exact .inl h
      · exact .inr h
      · exact .inl (by simpa using h)
  here := h.root
  offn p k hk := by
    have := h.lt hk
    omega
  offm p k hk := by
    have := h.mlt hk
    omega
  kx := rfl
  k8 := rfl
  sz := Nat.le_refl _
  lx := by rw [Lib.bytesWorld_size]; simp; omega
  l8 := by rw [Lib.bytesWorld_size]; simp
  bel := bytes_below (hb.alloc hb.size o) (by simp; have := hb.size; omega) 5 s
/-- where a name ends that is there -/
theorem Mid.old (h : Mid w W wr g cnt bx b8 t S q b) (hs : (S.get q).isSome = true) : Holds t S where
  vl := h.vl
  nd p := by
    rw [h.nd p]
    constructor
    · rintro (h1 | h1 | h1)
      · exact .inl h1
      · exact .inr h1
      · obtain ⟨r, hr⟩ := Option.isSome_iff_exists.1 hs
        refine .inr ⟨(q, r), ?_, h1⟩
        unfold NS.get at hr
        clear hs h
        induction S with
        | nil => cases hr
        | cons y S ih =>
          obtain ⟨y1, y2⟩ := y
          rw [List.lookup_cons] at hr
          split at hr
          · rename_i he
            have : q = y1 := by simpa using he
            cases hr
            subst this
            exact List.mem_cons_self
          · exact List.mem_cons_of_mem _ (ih hr)
    · rintro (h1 | h1)
      · exact .inl h1
      · exact .inr (.inl h1)
/-- where a name ends that is new -/
theorem Mid.end_ (h : Mid w W wr g cnt bx b8 t S q b) (hq : q ≠ []) (hs : S.get q = none) (r : Int) :
    TrieAt (((wr.setCell ⟨b, 1, none⟩ (.bool true)).setCell ⟨b, 2, none⟩ (.int .i64 r)).setCell ⟨g, 3, none⟩ (.int .i64 ((cnt + 1 : Nat) : Int))) w.heap.size g (cnt + 1) (t.withVal q r) ∧ Holds (t.withVal q r) (S ++ [(q, r)]) ∧
    Below w.heap.size w (((wr.setCell ⟨b, 1, none⟩ (.bool true)).setCell ⟨b, 2, none⟩ (.int .i64 r)).setCell ⟨g, 3, none⟩ (.int .i64 ((cnt + 1 : Nat) : Int))) := by
  refine ⟨h.at_.setval h.here hq r (cnt + 1), ⟨fun p => ?_, fun p => ?_⟩, ?_⟩
  · rw [get_snoc S q r hs]
    simp only [TG.withVal, h.vl]
  · have : (t.withVal q r).nd p = t.nd p := rfl
    rw [this, h.nd p]
    constructor
    · rintro (h1 | ⟨x, hx, h1⟩ | h1)
      · exact .inl h1
      · exact .inr ⟨x, List.mem_append_left _ hx, h1⟩
      · exact .inr ⟨(q, r), by simp, h1⟩
    · rintro (h1 | ⟨x, hx, h1⟩)
      · exact .inl h1
      · rw [List.mem_append, List.mem_singleton] at hx
        rcases hx with hx | rfl
        · exact .inr (.inl ⟨x, hx, h1⟩)
        · exact .inr (.inr h1)
  · have hb := (h.at_.node q b h.here).1
    have hg := (h.at_.node [] g h.at_.root).1
    exact ((h.bel.setCell (p := ⟨b, 1, none⟩) hb _).setCell (p := ⟨b, 2, none⟩) hb _).setCell (p := ⟨g, 3, none⟩) hg _
end
end Go.Proofs.Ytkidfbapnkegmaa.P
