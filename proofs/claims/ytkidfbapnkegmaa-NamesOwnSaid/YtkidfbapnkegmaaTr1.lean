/- A trie as it lies in memory: nodes, maps, values; how it is read and how it grows. -/
import Derived.Test.YtkidfbapnkegmaaPx0
import Derived.Test.YtkidfbapnkegmaaBlk
import Derived.Test.YtkidfbapnkegmaaWNEv
import Derived.Test.YtkidfbapnkegmaaWMore
import Derived.Maps.Keyed
import Derived.Maps.OwnOps
namespace Go.Proofs.Ytkidfbapnkegmaa.P
open Go.RowKit Go.Proofs.YtkidfbapnkegmaaW.PrintWords Go.Proofs.YtkidfbapnkegmaaW.PrintLast Go.Proofs.YtkidfbapnkegmaaW.PrintMore Go.Proofs.Ytkidfbapnkegmaa.Blk
open Go.MapKept (Stamped IsKey findNow_spec stamped_push stamped_empty)
set_option linter.unusedVariables false

/-- a byte as a key -/
abbrev kc (c : UInt8) : Value := .int .u8 (c.toNat : Int)
/-- a node's address -/
def optP : Option Nat → Value
  | none => .pointer none
  | some b => .pointer (some ⟨b, 0, none⟩)
/-- what a trie is: the nodes by the bytes that lead to them, their maps, their values -/
structure TG where
  nd : List UInt8 → Option Nat
  mp : List UInt8 → Option Nat
  vl : List UInt8 → Option Int
def TG.body (t : TG) (cnt : Nat) (p : List UInt8) : Array Value :=
  if p = [] then #[.map (t.mp p), .bool (t.vl p).isSome, .int .i64 ((t.vl p).getD 0), .int .i64 (cnt : Int)] else #[.map (t.mp p), .bool (t.vl p).isSome, .int .i64 ((t.vl p).getD 0)]
def TG.ty (p : List UInt8) : TypeId := if p = [] then 44 else 42
def TG.Ents (t : TG) (p : List UInt8) (es : Array MapEntry) (clk : Nat) : Prop :=
  (∀ e ∈ es.toList, ∃ c b, e.key = kc c ∧ t.nd (p ++ [c]) = some b ∧ e.val = .pointer (some ⟨b, 0, none⟩)) ∧
  (∀ c b, t.nd (p ++ [c]) = some b → ∃ e ∈ es.toList, e.key = kc c) ∧ Stamped es clk
structure TrieAt (w : World) (base g cnt : Nat) (t : TG) : Prop where
  root : t.nd [] = some g
  node : ∀ p b, t.nd p = some b → base ≤ b ∧ Blk w b (TG.ty p) (t.body cnt p)
  map : ∀ p m, t.mp p = some m → base ≤ m ∧ ∃ es clk, w.heap[m]? = some (.map es clk) ∧ t.Ents p es clk
  leaf : ∀ p c, t.mp p = none → t.nd (p ++ [c]) = none
  out : ∀ p, t.nd p = none → t.mp p = none ∧ t.vl p = none
  inj : ∀ p q b, t.nd p = some b → t.nd q = some b → p = q
  injm : ∀ p q m, t.mp p = some m → t.mp q = some m → p = q

def TG.grow (t : TG) (q : List UInt8) (b : Nat) : TG := { t with nd := fun x => if x = q then some b else t.nd x }
def TG.withMap (t : TG) (q : List UInt8) (m : Nat) : TG := { t with mp := fun x => if x = q then some m else t.mp x }
def TG.withVal (t : TG) (q : List UInt8) (r : Int) : TG := { t with vl := fun x => if x = q then some r else t.vl x }

section
variable {w w' : World} {base g cnt : Nat} {t : TG}
theorem kc_inj {c d : UInt8} (h : kc c = kc d) : c = d := by
  simp only [kc, Value.int.injEq, true_and] at h
  exact UInt8.toNat_inj.1 (by omega)
theorem kc_key (c : UInt8) : IsKey (.int .u8) (kc c) := by simp [IsKey]

theorem TG.body_c0 (t : TG) (cnt : Nat) (p : List UInt8) : (t.body cnt p)[0]? = some (.map (t.mp p)) := by unfold TG.body; split <;> rfl
theorem TG.body_c1 (t : TG) (cnt : Nat) (p : List UInt8) : (t.body cnt p)[1]? = some (.bool (t.vl p).isSome) := by unfold TG.body; split <;> rfl
theorem TG.body_c2 (t : TG) (cnt : Nat) (p : List UInt8) : (t.body cnt p)[2]? = some (.int .i64 ((t.vl p).getD 0)) := by unfold TG.body; split <;> rfl
theorem TrieAt.c0 (h : TrieAt w base g cnt t) {p : List UInt8} {b : Nat} (hp : t.nd p = some b) : w.cell? ⟨b, 0, none⟩ = some (.map (t.mp p)) := by rw [(h.node p b hp).2.cell 0, TG.body_c0]
theorem TrieAt.c1 (h : TrieAt w base g cnt t) {p : List UInt8} {b : Nat} (hp : t.nd p = some b) : w.cell? ⟨b, 1, none⟩ = some (.bool (t.vl p).isSome) := by rw [(h.node p b hp).2.cell 1, TG.body_c1]
theorem TrieAt.c2 (h : TrieAt w base g cnt t) {p : List UInt8} {b : Nat} (hp : t.nd p = some b) : w.cell? ⟨b, 2, none⟩ = some (.int .i64 ((t.vl p).getD 0)) := by rw [(h.node p b hp).2.cell 2, TG.body_c2]
theorem TrieAt.c3 (h : TrieAt w base g cnt t) : w.cell? ⟨g, 3, none⟩ = some (.int .i64 (cnt : Int)) := by rw [(h.node [] g h.root).2.cell 3]; rfl
theorem TrieAt.fr (h : TrieAt w base g cnt t) {p : List UInt8} {b : Nat} (hp : t.nd p = some b) (i : Nat) : w.frozen? ⟨b, i, none⟩ = false := (h.node p b hp).2.frozen i
theorem TrieAt.lt (h : TrieAt w base g cnt t) {p : List UInt8} {b : Nat} (hp : t.nd p = some b) : b < w.heap.size := (h.node p b hp).2.lt
theorem map_lt {m : Nat} {es : Array MapEntry} {clk : Nat} (h : w.heap[m]? = some (.map es clk)) : m < w.heap.size := (Array.getElem?_eq_some_iff.1 h).1
theorem TrieAt.mlt (h : TrieAt w base g cnt t) {p : List UInt8} {m : Nat} (hp : t.mp p = some m) : m < w.heap.size := by
  obtain ⟨_, es, clk, hm, _⟩ := h.map p m hp
  exact map_lt hm
theorem TrieAt.apart (h : TrieAt w base g cnt t) {p q : List UInt8} {b m : Nat} (hp : t.nd p = some b) (hq : t.mp q = some m) : b ≠ m := by
  rintro rfl
  obtain ⟨_, es, clk, hm, _⟩ := h.map q b hq
  have := (h.node p b hp).2
  unfold Blk at this
  rw [this] at hm
  cases hm
theorem TrieAt.up (h : TrieAt w base g cnt t) {p : List UInt8} {c : UInt8} {b : Nat} (hp : t.nd (p ++ [c]) = some b) : ∃ m, t.mp p = some m := by
  cases hm : t.mp p with
  | some m => exact ⟨m, rfl⟩
  | none => rw [h.leaf p c hm] at hp; cases hp
theorem TrieAt.has (h : TrieAt w base g cnt t) {p : List UInt8} {m : Nat} (hp : t.mp p = some m) : ∃ b, t.nd p = some b := by
  cases hm : t.nd p with
  | some b => exact ⟨b, rfl⟩
  | none => rw [(h.out p hm).1] at hp; cases hp
theorem TrieAt.step (h : TrieAt w base g cnt t) (hm : ∀ k, base ≤ k → k < w.heap.size → w'.heap[k]? = w.heap[k]?) : TrieAt w' base g cnt t where
  root := h.root
  node p b hp := by
    obtain ⟨h1, h2⟩ := h.node p b hp
    exact ⟨h1, (hm b h1 h2.lt).trans h2⟩
  map p m hp := by
    obtain ⟨h1, es, clk, h2, h3⟩ := h.map p m hp
    exact ⟨h1, es, clk, (hm m h1 (map_lt h2)).trans h2, h3⟩
  leaf := h.leaf
  out := h.out
  inj := h.inj
  injm := h.injm
theorem TrieAt.below (h : TrieAt w base g cnt t) (hb : Below w.heap.size w w') : TrieAt w' base g cnt t := h.step (fun k _ hk => hb.block k hk)
theorem TrieAt.alloc (h : TrieAt w base g cnt t) (o : Obj) : TrieAt (w.alloc o) base g cnt t := h.step (fun k _ hk => Below.heap_alloc w o k hk)
theorem TrieAt.lower (h : TrieAt w base g cnt t) {base' : Nat} (hb : base' ≤ base) : TrieAt w base' g cnt t where
  root := h.root
  node p b hp := by
    obtain ⟨h1, h2⟩ := h.node p b hp
    exact ⟨Nat.le_trans hb h1, h2⟩
  map p m hp := by
    obtain ⟨h1, h2⟩ := h.map p m hp
    exact ⟨Nat.le_trans hb h1, h2⟩
  leaf := h.leaf
  out := h.out
  inj := h.inj
  injm := h.injm

/-- an empty trie -/
def TG.empty (g : Nat) : TG := ⟨fun x => if x = [] then some g else none, fun _ => none, fun _ => none⟩
theorem TrieAt.new (hb : Blk w g 44 #[.map none, .bool false, .int .i64 0, .int .i64 0]) (hg : base ≤ g) : TrieAt w base g 0 (TG.empty g) where
  root := by simp [TG.empty]
  node p b hp := by
    by_cases hq : p = []
    · subst hq
      simp [TG.empty] at hp
      subst hp
      exact ⟨hg, hb⟩
    · simp [TG.empty, hq] at hp
  map p m hp := by simp [TG.empty] at hp
  leaf p c hp := by simp [TG.empty]
  out p hp := by simp [TG.empty]
  inj p q b hp hq := by
    simp only [TG.empty] at hp hq
    split at hp <;> simp_all
  injm p q m hp hq := by simp [TG.empty] at hp

/-- what a look-up in a node's map tells -/
theorem TrieAt.look (h : TrieAt w base g cnt t) {p : List UInt8} {b : Nat} (hp : t.nd p = some b) (c : UInt8) {P : Program} {T k e : TypeId} (hT : P.underlying T = some (.map k e)) (hk : P.underlying k = some (.int .u8)) (hz : (zeroValue e).run P w = .ok (.pointer none) w) :
    (Instr.lookup T (.map (t.mp p)) (kc c) false).run P w = .ok (optP (t.nd (p ++ [c]))) w := by
  cases hm : t.mp p with
  | none =>
    rw [h.leaf p c hm]
    simp [Instr.lookup, run_underlying hT, MapKept.run_checkKey hk (kc_key c), Instr.findKey, run_underlying hk, Instr.findNow, Result.andThen, hz, optP]
  | some m =>
    obtain ⟨_, es, clk, h2, h3, h4, h5⟩ := h.map p m hm
    rcases findNow_spec (kc_key c) es.toList 0 (fun x hx => by obtain ⟨d, b', e1, _⟩ := h3 x hx; rw [e1]; exact kc_key d) with ⟨r1, r2⟩ | ⟨j, x, r1, r2, r3⟩
    · have : t.nd (p ++ [c]) = none := by
        cases hn : t.nd (p ++ [c]) with
        | none => rfl
        | some b' =>
          obtain ⟨x, hx, hxk⟩ := h4 c b' hn
          exact absurd hxk (r2 x hx)
      rw [this]
      simp [Instr.lookup, run_underlying hT, MapKept.run_getObj_map h2, MapKept.run_checkKey hk (kc_key c), MapKept.run_findKey hk r1, Result.andThen, hz, optP]
    · obtain ⟨d, b', e1, e2, e3⟩ := h3 x (List.mem_of_getElem? r2)
      rw [r3] at e1
      have := kc_inj e1
      subst this
      rw [e2]
      simp [Instr.lookup, run_underlying hT, MapKept.run_getObj_map h2, MapKept.run_checkKey hk (kc_key c), MapKept.run_findKey hk r1, Result.andThen, e3, optP]

/-- a node more -/
theorem TrieAt.store (h : TrieAt w base g cnt t) {p : List UInt8} {m b : Nat} (hp : t.mp p = some m) {c : UInt8} (hn : t.nd (p ++ [c]) = none) (hb : Blk w b 42 #[.map none, .bool false, .int .i64 0]) (hbb : base ≤ b) (hne : ∀ q, t.nd q ≠ some b) {P : Program} {T k e : TypeId} (hT : P.underlying T = some (.map k e)) (hk : P.underlying k = some (.int .u8)) :
    ∃ w', (Instr.mapUpdate T (.map (some m)) (kc c) (.pointer (some ⟨b, 0, none⟩))).run P w = .ok () w' ∧ TrieAt w' base g cnt (t.grow (p ++ [c]) b) ∧ w.grownBy w' (some m) := by
  obtain ⟨hmb, es, clk, h2, h3, h4, h5⟩ := h.map p m hp
  have hnm : b ≠ m := by
    rintro rfl
    unfold Blk at hb
    rw [hb] at h2
    cases h2
  rcases findNow_spec (kc_key c) es.toList 0 (fun x hx => by obtain ⟨d, b', e1, _⟩ := h3 x hx; rw [e1]; exact kc_key d) with ⟨r1, r2⟩ | ⟨j, x, r1, r2, r3⟩
  · have hsame := (MapKept.heap_set (o' := .map (es.push { key := kc c, val := .pointer (some ⟨b, 0, none⟩), born := clk }) (clk + 1)) h2).1
    have hoth := (MapKept.heap_set (o' := .map (es.push { key := kc c, val := .pointer (some ⟨b, 0, none⟩), born := clk }) (clk + 1)) h2).2
    refine ⟨{ w with heap := w.heap.setIfInBounds m (.map (es.push { key := kc c, val := .pointer (some ⟨b, 0, none⟩), born := clk }) (clk + 1)) }, by simp only [Instr.mapUpdate, run_underlying hT, MapKept.run_getObj_map h2, MapKept.run_checkKey hk (kc_key c), MapKept.run_findKey hk r1, MapKept.run_setObj_map _ h2, Result.andThen, Sem.run_bind], ?_, ?_⟩
    · exact {
        root := by simp [TG.grow, h.root]
        node := fun q b' hq => by
          simp only [TG.grow] at hq
          split at hq
          · rename_i hq'
            subst hq'
            cases hq
            refine ⟨hbb, (hoth b hnm).trans ?_⟩
            have e1 : t.mp (p ++ [c]) = none ∧ t.vl (p ++ [c]) = none := h.out _ hn
            have hb' := hb
            unfold Blk at hb'
            simpa [TG.body, TG.ty, TG.grow, e1.1, e1.2] using hb'
          · obtain ⟨k1, k2⟩ := h.node q b' hq
            exact ⟨k1, (hoth b' (h.apart hq hp)).trans k2⟩
        map := fun q m' hq => by
          by_cases hmm : m' = m
          · subst hmm
            have := h.injm q p m' hq hp
            subst this
            refine ⟨hmb, _, _, hsame, ?_, ?_, ?_⟩
            · intro x hx
              simp only [Array.toList_push, List.mem_append, List.mem_singleton] at hx
              rcases hx with hx | rfl
              · obtain ⟨d, b', e1, e2, e3⟩ := h3 x hx
                refine ⟨d, b', e1, ?_, e3⟩
                have : q ++ [d] ≠ q ++ [c] := by
                  intro hcd
                  rw [hcd, hn] at e2
                  cases e2
                simp only [TG.grow, if_neg this, e2]
              · exact ⟨c, b, rfl, by simp [TG.grow], rfl⟩
            · intro d b' hd
              simp only [TG.grow] at hd
              split at hd
              · rename_i hdc
                have : d = c := by simpa using hdc
                subst this
                exact ⟨_, by rw [Array.toList_push]; exact List.mem_append_right _ (List.mem_singleton.2 rfl), rfl⟩
              · obtain ⟨x, hx, hxk⟩ := h4 d b' hd
                exact ⟨x, by rw [Array.toList_push]; exact List.mem_append_left _ hx, hxk⟩
            · exact stamped_push h5 r2
          · obtain ⟨k1, es', clk', k2, k3, k4, k5⟩ := h.map q m' hq
            have hqp : q ≠ p := by
              rintro rfl
              have hq' : t.mp q = some m' := hq
              rw [hp] at hq'
              cases hq'
              exact hmm rfl
            refine ⟨k1, es', clk', (hoth m' hmm).trans k2, ?_, ?_, k5⟩
            · intro x hx
              obtain ⟨d, b', e1, e2, e3⟩ := k3 x hx
              refine ⟨d, b', e1, ?_, e3⟩
              have : q ++ [d] ≠ p ++ [c] := by
                intro hcd
                exact hqp (List.append_inj_left' hcd rfl)
              simp only [TG.grow, if_neg this, e2]
            · intro d b' hd
              have : q ++ [d] ≠ p ++ [c] := by
                intro hcd
                exact hqp (List.append_inj_left' hcd rfl)
              simp only [TG.grow, if_neg this] at hd
              exact k4 d b' hd
        leaf := fun q d hq => by
          have hqp : q ≠ p := by
            rintro rfl
            have : (t.grow (q ++ [c]) b).mp q = t.mp q := rfl
            rw [this, hp] at hq
            cases hq
          have : q ++ [d] ≠ p ++ [c] := by
            intro hcd
            exact hqp (List.append_inj_left' hcd rfl)
          simp only [TG.grow, if_neg this]
          exact h.leaf q d hq
        out := fun q hq => by
          simp only [TG.grow] at hq
          split at hq
          · cases hq
          · exact h.out q hq
        inj := fun q r b' hq hr => by
          simp only [TG.grow] at hq hr
          split at hq <;> split at hr
          · rename_i e1 e2; rw [e1, e2]
          · cases hq; exact absurd hr (hne r)
          · cases hr; exact absurd hq (hne q)
          · exact h.inj q r b' hq hr
        injm := h.injm }
    · exact ⟨rfl, rfl, rfl, by simp, fun i _ hi => hoth i (fun e => hi (by rw [e]))⟩
  · obtain ⟨d, b', e1, e2, e3⟩ := h3 x (List.mem_of_getElem? r2)
    rw [r3] at e1
    have := kc_inj e1
    subst this
    rw [hn] at e2
    cases e2

theorem TG.body_set0 (t : TG) (cnt : Nat) (p : List UInt8) (m : Nat) : (t.body cnt p).setIfInBounds 0 (.map (some m)) = (t.withMap p m).body cnt p := by
  unfold TG.body TG.withMap
  split <;> simp
theorem TG.body_withMap (t : TG) (cnt : Nat) {p q : List UInt8} (m : Nat) (h : q ≠ p) : (t.withMap p m).body cnt q = t.body cnt q := by
  unfold TG.body TG.withMap
  simp [h]
/-- a map for a node -/
theorem TrieAt.newmap (h : TrieAt w base g cnt t) {p : List UInt8} {b : Nat} (hp : t.nd p = some b) (hm : t.mp p = none) (hbs : base ≤ w.heap.size) :
    TrieAt ((w.alloc (.map #[] 0)).setCell ⟨b, 0, none⟩ (.map (some w.heap.size))) base g cnt (t.withMap p w.heap.size) := by
  have ha := h.alloc (.map #[] 0)
  have hbl : b < w.heap.size := h.lt hp
  have hnew : ((w.alloc (.map #[] 0)).setCell ⟨b, 0, none⟩ (.map (some w.heap.size))).heap[w.heap.size]? = some (.map #[] 0) :=
    (Below.heap_setCell _ ⟨b, 0, none⟩ _ w.heap.size (by show w.heap.size ≠ b; omega)).trans (MapKept.heap_alloc w _).1
  exact {
    root := h.root
    node := fun q b' hq => by
      have hq' : t.nd q = some b' := hq
      obtain ⟨k1, k2⟩ := ha.node q b' hq'
      refine ⟨k1, ?_⟩
      by_cases hqp : q = p
      · subst hqp
        rw [hp] at hq'
        cases hq'
        rw [← TG.body_set0]
        exact k2.set_ 0 _
      · rw [TG.body_withMap t cnt _ hqp]
        exact k2.far (fun e => hqp (h.inj q p b (by rw [hq', e]) hp)) _
    map := fun q m' hq => by
      simp only [TG.withMap] at hq
      split at hq
      · rename_i hqp
        subst hqp
        cases hq
        refine ⟨hbs, _, _, hnew, by simp, ?_, stamped_empty 0⟩
        intro c b' hc
        have : t.nd (q ++ [c]) = some b' := hc
        rw [h.leaf q c hm] at this
        cases this
      · obtain ⟨k1, es, clk, k2, k3⟩ := ha.map q m' hq
        exact ⟨k1, es, clk, (Below.heap_setCell _ ⟨b, 0, none⟩ _ m' (Ne.symm (h.apart hp hq))).trans k2, k3⟩
    leaf := fun q c hq => by
      simp only [TG.withMap] at hq
      split at hq
      · cases hq
      · exact h.leaf q c hq
    out := fun q hq => by
      have hq' : t.nd q = none := hq
      have hqp : q ≠ p := by
        rintro rfl
        rw [hp] at hq'
        cases hq'
      refine ⟨?_, (h.out q hq').2⟩
      simp only [TG.withMap, if_neg hqp]
      exact (h.out q hq').1
    inj := h.inj
    injm := fun q r m' hq hr => by
      simp only [TG.withMap] at hq hr
      split at hq <;> split at hr
      · rename_i e1 e2; rw [e1, e2]
      · cases hq; have := h.mlt hr; omega
      · cases hr; have := h.mlt hq; omega
      · exact h.injm q r m' hq hr }

theorem TG.body_set12 (t : TG) (cnt : Nat) {p : List UInt8} (hp : p ≠ []) (r : Int) (n : Nat) : ((t.body cnt p).setIfInBounds 1 (.bool true)).setIfInBounds 2 (.int .i64 r) = (t.withVal p r).body n p := by
  unfold TG.body TG.withVal
  simp [hp]
theorem TG.body_withVal (t : TG) (cnt : Nat) {p q : List UInt8} (r : Int) (h : q ≠ p) : (t.withVal p r).body cnt q = t.body cnt q := by
  unfold TG.body TG.withVal
  simp [h]
theorem TG.body_cnt (t : TG) (cnt n : Nat) {p : List UInt8} (hp : p ≠ []) : t.body n p = t.body cnt p := by
  unfold TG.body
  simp [hp]
theorem TG.body_root (t : TG) (cnt n : Nat) : (t.body cnt []).setIfInBounds 3 (.int .i64 (n : Int)) = t.body n [] := by
  unfold TG.body
  simp
/-- a name more -/
theorem TrieAt.setval (h : TrieAt w base g cnt t) {p : List UInt8} {b : Nat} (hp : t.nd p = some b) (hne : p ≠ []) (r : Int) (n : Nat) :
    TrieAt (((w.setCell ⟨b, 1, none⟩ (.bool true)).setCell ⟨b, 2, none⟩ (.int .i64 r)).setCell ⟨g, 3, none⟩ (.int .i64 (n : Int))) base g n (t.withVal p r) := by
  have hbg : b ≠ g := fun e => hne (h.inj p [] g (by rw [hp, e]) h.root)
  exact {
    root := h.root
    node := fun q b' hq => by
      have hq' : t.nd q = some b' := hq
      obtain ⟨k1, k2⟩ := h.node q b' hq'
      refine ⟨k1, ?_⟩
      by_cases hqp : q = p
      · subst hqp
        rw [hp] at hq'
        cases hq'
        rw [← TG.body_set12 t cnt hne r]
        exact ((k2.set_ 1 _).set_ 2 _).far hbg _
      · rw [TG.body_withVal t n _ hqp]
        have hb' : b' ≠ b := fun e => hqp (h.inj q p b (by rw [hq', e]) hp)
        by_cases hq0 : q = []
        · subst hq0
          rw [h.root] at hq'
          cases hq'
          rw [← TG.body_root t cnt n]
          exact ((k2.far hb' _).far hb' _).set_ 3 _
        · rw [TG.body_cnt t cnt n hq0]
          have hg' : b' ≠ g := fun e => hq0 (h.inj q [] g (by rw [hq', e]) h.root)
          exact ((k2.far hb' _).far hb' _).far hg' _
    map := fun q m' hq => by
      have hq' : t.mp q = some m' := hq
      obtain ⟨k1, es, clk, k2, k3⟩ := h.map q m' hq'
      refine ⟨k1, es, clk, ?_, k3⟩
      have e1 := Ne.symm (h.apart hp hq')
      have e2 := Ne.symm (h.apart h.root hq')
      exact (Below.heap_setCell _ ⟨g, 3, none⟩ _ m' e2).trans ((Below.heap_setCell _ ⟨b, 2, none⟩ _ m' e1).trans ((Below.heap_setCell _ ⟨b, 1, none⟩ _ m' e1).trans k2))
    leaf := h.leaf
    out := fun q hq => by
      have hq' : t.nd q = none := hq
      have hqp : q ≠ p := by
        rintro rfl
        rw [hp] at hq'
        cases hq'
      refine ⟨(h.out q hq').1, ?_⟩
      simp only [TG.withVal, if_neg hqp]
      exact (h.out q hq').2
    inj := h.inj
    injm := h.injm }
end

/-- a look-up at the operation -/
theorem wpList_lookup_run {P : Program} (w : World) {ops : Array Oper} {rest : List Oper} {o : Oper} {a : Act} {Q : Exit → Act → World → Prop}
    (hg : o.guard = none) (m x : Operand) (T : TypeId) (hop : o.op = Op.lookup T m x false) (vm key v : Value) (hm : a.eval m = vm) (hx : a.eval x = key) (hrun : (Instr.lookup T vm key false).run P w = .ok v w)
    (hK : wpList P ops Q rest (a.put o.dst v) w) : wpList P ops Q (o :: rest) a w := by
  refine wpList_plain hg fun K' hK' => ?_
  unfold Oper.wp
  simp [execOp, hop, hm, hx, hrun, Result.andThen]
  exact hK' _ _ hK
/-- a store into a map at the operation -/
theorem wpList_update_run {P : Program} (w : World) {ops : Array Oper} {rest : List Oper} {o : Oper} {a : Act} {Q : Exit → Act → World → Prop}
    (hg : o.guard = none) (m x v : Operand) (T : TypeId) (hop : o.op = Op.mapUpdate T m x v) (vm key val : Value) (w' : World) (hm : a.eval m = vm) (hx : a.eval x = key) (hv : a.eval v = val) (hrun : (Instr.mapUpdate T vm key val).run P w = .ok () w')
    (hK : wpList P ops Q rest (a.put o.dst undef) w') : wpList P ops Q (o :: rest) a w := by
  refine wpList_plain hg fun K' hK' => ?_
  unfold Oper.wp
  simp [execOp, hop, hm, hx, hv, hrun, Result.andThen]
  exact hK' _ _ hK
end Go.Proofs.Ytkidfbapnkegmaa.P
