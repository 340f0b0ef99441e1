/- What an argument's reading says, kind by kind: a value that can be read as data is of its kind. No conditions. -/
import Derived.Test.YtegchimmolpmeaaVFnExactClientOk
import Derived.Deep.Slices
import Derived.ChangeArms
namespace Go.Proofs.Ytegchimmolpmeaa.PL
open Go Go.RowKit Go.ChangeShapes Go.WideShapes Go.Proofs.YtegchimmolpmeaaW.PrintWords
set_option linter.unusedVariables false
set_option linter.unusedSimpArgs false

/-- Whatever reads as data of type t (at most b deep) is of the kind d, and wf. -/
def OpensB {α : Type} (P : Program) (t : TypeId) (b : Nat) (d : Kd α) (wf : α → Prop) : Prop :=
  ∀ {H : Type} {enc : TypeId × Value → H} {w : World} {sp : Nat → Bool} {hd : Bool} {fuel : Nat} {cs : List Value} {x : DataW H × List MemPlace}, fuel ≤ b → DataW.trod enc P w 0 sp hd fuel t cs = some x → ∃ a, d.K w a cs ∧ wf a
def Opens {α : Type} (P : Program) (t : TypeId) (d : Kd α) (wf : α → Prop) : Prop := ∀ b, OpensB P t b d wf
theorem OpensB.le {α : Type} {P : Program} {t : TypeId} {b b' : Nat} {d : Kd α} {wf : α → Prop} (h : OpensB P t b d wf) (hb : b' ≤ b) : OpensB P t b' d wf := fun hf hx => h (Nat.le_trans hf hb) hx
theorem Opens.of_succ {α : Type} {P : Program} {t : TypeId} {d : Kd α} {wf : α → Prop} (h : ∀ b, OpensB P t (b + 1) d wf) : Opens P t d wf := fun b => OpensB.le (h b) (Nat.le_succ b)

theorem opens_int {P : Program} {t : TypeId} {k : IntKind} (ht : P.underlying t = some (.int k)) : Opens P t (Kd.int k) (fun n => (Lit.int k n).wf = true) := by
  intro b H enc w sp hd fuel cs x _ h
  cases fuel with
  | zero => simp [DataW.trod] at h
  | succ fuel =>
    unfold DataW.trod at h
    rw [ht] at h
    split at h <;> first | (rename_i hk; cases hk) | skip
    all_goals first | (cases ‹TypeDesc.int _ = _›) | skip
    all_goals simp_all
    obtain ⟨⟨h1, h2⟩, _⟩ := h
    subst h1
    exact ⟨_, rfl, h2⟩
theorem opens_bool {P : Program} {t : TypeId} (ht : P.underlying t = some .bool) : Opens P t Kd.bool (fun _ => True) := by
  intro b H enc w sp hd fuel cs x _ h
  cases fuel with
  | zero => simp [DataW.trod] at h
  | succ fuel =>
    unfold DataW.trod at h
    rw [ht] at h
    split at h
    all_goals first | (exact ⟨_, rfl, trivial⟩) | (simp_all; done)
theorem opens_string {P : Program} {t : TypeId} (ht : P.underlying t = some .string) : Opens P t Kd.string (fun s => s.size ≤ 9223372036854775807) := by
  intro b H enc w sp hd fuel cs x _ h
  cases fuel with
  | zero => simp [DataW.trod] at h
  | succ fuel =>
    unfold DataW.trod at h
    rw [ht] at h
    split at h <;> simp_all
    obtain ⟨h, _⟩ := h
    exact ⟨_, rfl, by simpa [maxLen] using h⟩
theorem opensB_slice {α : Type} [Inhabited α] {P : Program} {t e q : TypeId} {b : Nat} {d : Kd α} {wf : α → Prop} (ht : P.underlying t = some (.slice e)) (hc : P.cellsOf e = d.sz) (he : OpensB P e b d wf) :
    OpensB P t (b + 1) (Kd.slice q d) (fun xs => xs.length ≤ 9223372036854775807 ∧ ∀ x ∈ xs, wf x) := by
  intro H enc w sp hd fuel cs x hfu h
  rcases DataW.trod_slice ht h with ⟨rfl, _⟩ | ⟨a, len, cap, elems, rest, n, hn, rfl, _, _, hl, hm, hlen, hx, _⟩
  · exact ⟨[], ⟨none, 0, rfl, Nat.le_refl _, rfl, by simp, fun hp => absurd hp (by simp)⟩, by simp, by simp⟩
  · have hml : len ≤ 9223372036854775807 := by simp only [maxLen] at hm; omega
    obtain ⟨f, hf⟩ := Deep.choose_lt (n := len) (p := fun i x => ∃ cs', w.cells? 0 (a.add (i * P.cellsOf e)) (P.cellsOf e) = some cs' ∧ d.K w x cs' ∧ wf x) (fun i hi => by
      have h1 := hx i hi
      rw [List.getElem?_eq_getElem (by omega)] at h1
      obtain ⟨cs', h1, h2⟩ := Option.bind_eq_some_iff.1 h1
      obtain ⟨y, h3, h4⟩ := he (by omega) h2
      exact ⟨y, cs', h1, h3, h4⟩)
    refine ⟨(List.range len).map f, ⟨some a, cap, by simp, by simpa using hl, by simp, by simpa using hml, fun _ => ⟨a, rfl, fun j p hj => ?_⟩⟩, by simpa using hml, fun y hy => ?_⟩
    · rw [List.getElem?_map] at hj
      obtain ⟨i, hi, rfl⟩ := Option.map_eq_some_iff.1 hj
      obtain ⟨hlt, hi⟩ := List.getElem?_eq_some_iff.1 hi
      rw [List.getElem_range] at hi
      subst hi
      obtain ⟨cs', h1, h3, _⟩ := hf j (by simpa using hlt)
      obtain ⟨_, hlen, hcell⟩ := World.cells?_some h1
      refine ⟨cs', by rw [hlen, hc], h3, fun i u hu => ?_⟩
      have hil : i < cs'.length := (List.getElem?_eq_some_iff.1 hu).1
      have := hcell i (by omega)
      rw [Deep.add_add, hc] at this
      rw [this]
      exact hu
    · obtain ⟨i, hi, rfl⟩ := List.mem_map.1 hy
      obtain ⟨_, _, _, h4⟩ := hf i (by simpa using hi)
      exact h4
theorem opens_slice {α : Type} [Inhabited α] {P : Program} {t e q : TypeId} {d : Kd α} {wf : α → Prop} (ht : P.underlying t = some (.slice e)) (hc : P.cellsOf e = d.sz) (he : Opens P e d wf) :
    Opens P t (Kd.slice q d) (fun xs => xs.length ≤ 9223372036854775807 ∧ ∀ x ∈ xs, wf x) := Opens.of_succ fun b => opensB_slice ht hc (he b)

/-- The fields of a struct from the offset off on. -/
def OpensAt {α : Type} (P : Program) (b : Nat) (fs : List Field) (off : Nat) (d : Kd α) (wf : α → Prop) : Prop :=
  (∀ f ∈ fs, off ≤ f.offset) ∧ ∀ {H : Type} {enc : TypeId × Value → H} {w : World} {sp : Nat → Bool} {hd : Bool} {fuel : Nat} {cs : List Value}, fuel ≤ b → cs.length = d.sz →
    (∀ f ∈ fs, ∃ y, DataW.trod enc P w 0 sp hd fuel f.type ((cs.drop (f.offset - off)).take (P.cellsOf f.type)) = some y) → ∃ a, d.K w a cs ∧ wf a
theorem opensAt_one {α : Type} {P : Program} {b : Nat} {f : Field} {off : Nat} {d : Kd α} {wf : α → Prop} (ho : f.offset = off) (hc : P.cellsOf f.type = d.sz) (h : OpensB P f.type b d wf) : OpensAt P b [f] off d wf := by
  refine ⟨by simp [ho], fun hb hl hf => ?_⟩
  obtain ⟨y, hy⟩ := hf f (by simp)
  rw [ho, Nat.sub_self, List.drop_zero, hc, List.take_of_length_le (by omega)] at hy
  exact h hb hy
theorem opensAt_cons {α β : Type} {P : Program} {b : Nat} {f : Field} {fs : List Field} {off : Nat} {d : Kd α} {d' : Kd β} {wf : α → Prop} {wf' : β → Prop} (ho : f.offset = off) (hc : P.cellsOf f.type = d.sz) (h : OpensB P f.type b d wf)
    (hr : OpensAt P b fs (off + d.sz) d' wf') : OpensAt P b (f :: fs) off (Kd.pair d d') (fun x => wf x.1 ∧ wf' x.2) := by
  obtain ⟨hr0, hr⟩ := hr
  refine ⟨fun g hg => ?_, fun {H enc w sp hd fuel cs} hb hl hf => ?_⟩
  · rcases List.mem_cons.1 hg with rfl | hg
    · omega
    · have := hr0 g hg; omega
  · have hl' : cs.length = d.sz + d'.sz := hl
    obtain ⟨y, hy⟩ := hf f (by simp)
    rw [ho, Nat.sub_self, List.drop_zero, hc] at hy
    obtain ⟨a, ha, hwa⟩ := h hb hy
    obtain ⟨b, hb, hwb⟩ := hr (cs := cs.drop d.sz) hb (by rw [List.length_drop]; omega) (fun g hg => by
      obtain ⟨y, hy⟩ := hf g (by simp [hg])
      refine ⟨y, ?_⟩
      rw [List.drop_drop]
      have := hr0 g hg
      rw [show d.sz + (g.offset - (off + d.sz)) = g.offset - off by omega]
      exact hy)
    exact ⟨(a, b), ⟨_, _, (List.take_append_drop d.sz cs).symm, ha, hb⟩, hwa, hwb⟩
theorem opensB_struct {α : Type} {P : Program} {t : TypeId} {b : Nat} {fs : Array Field} {d : Kd α} {wf : α → Prop} (ht : P.underlying t = some (.struct fs)) (hc : P.cellsOf t = d.sz) (h : OpensAt P b fs.toList 0 d wf) : OpensB P t (b + 1) d wf := by
  intro H enc w sp hd fuel cs x hfu hx
  obtain ⟨xs, k, hk, hxy, hlen, hxl, hf⟩ := DataW.trod_struct ht hx
  refine h.2 (enc := enc) (sp := sp) (hd := hd) (fuel := k) (by omega) (by rw [hlen, hc]) (fun f hfm => ?_)
  obtain ⟨i, hi, rfl⟩ := List.getElem_of_mem hfm
  have hi' : i < fs.size := by simpa using hi
  have := hf i fs[i] (Array.getElem?_eq_getElem hi')
  rw [Nat.sub_zero]
  have hix : i < xs.length := by omega
  rw [List.getElem?_eq_getElem hix] at this
  exact ⟨_, by simpa using this⟩
theorem OpensB.iso {α β : Type} {P : Program} {t : TypeId} {b : Nat} {d : Kd α} {wf : α → Prop} (f : β → α) (g : α → β) (hg : ∀ a, f (g a) = a) (h : OpensB P t b d wf) : OpensB P t b (Kd.iso d f) (fun b => wf (f b)) := by
  intro H enc w sp hd fuel cs x hfu hx
  obtain ⟨a, ha, hw⟩ := h hfu hx
  refine ⟨g a, ?_, by show wf (f (g a)); rw [hg]; exact hw⟩
  show d.K w (f (g a)) cs
  rw [hg]
  exact ha
theorem OpensB.imp {α : Type} {P : Program} {t : TypeId} {b : Nat} {d : Kd α} {wf wf' : α → Prop} (h : OpensB P t b d wf) (i : ∀ a, wf a → wf' a) : OpensB P t b d wf' := by
  intro H enc w sp hd fuel cs x hfu hx
  obtain ⟨a, ha, hw⟩ := h hfu hx
  exact ⟨a, ha, i a hw⟩
/-- A kind nested in itself. -/
theorem opens_fix {α : Type} {P : Program} {t : TypeId} {F : Kd α → Kd α} {sz : Nat} {E : List Nat} {hs : ∀ n, (Kd.upto F sz E n).sz = sz} {hE : ∀ n q, q ∈ (Kd.upto F sz E n).E → q ∈ E} {wf : α → Prop}
    (step : ∀ (b : Nat) (d : Kd α), d.sz = sz → OpensB P t b d wf → OpensB P t (b + 1) (F d) wf) : Opens P t (Kd.fix F sz E hs hE) wf := by
  have key : ∀ b, OpensB P t b (Kd.upto F sz E b) wf := by
    intro b
    induction b with
    | zero =>
      intro H enc w sp hd fuel cs x hfu hx
      obtain rfl : fuel = 0 := by omega
      simp [DataW.trod] at hx
    | succ b ih => exact step b _ (hs b) ih
  intro b H enc w sp hd fuel cs x hfu hx
  obtain ⟨a, ha, hw⟩ := key b hfu hx
  exact ⟨a, ⟨b, ha⟩, hw⟩

theorem okWide_agg {P : Program} {w : World} {r : Reach} {base : Nat} {t : TypeId} {v : Value} {fs : Array Field} (ht : P.underlying t = some (.struct fs)) (h : Value.okWide P w r base t v) : ∃ cs, v = .agg cs := by
  simp only [Value.okWide, ht] at h
  obtain ⟨cs, h, _⟩ := h
  exact ⟨cs, h⟩

end Go.Proofs.Ytegchimmolpmeaa.PL
