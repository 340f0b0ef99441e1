/- From an evaluation to the row; what arguments read as. No conditions. -/
import Derived.Test.YtlcnpecejhcnfaaDoorEVdraw
import Derived.Deep.Slices
import Derived.ChangeArms
import Derived.ChangeOld
import Derived.Carry
import Derived.OpenShut
namespace Go.Proofs.YtlcnpecejhcnfaaDoor.EV
set_option linter.unusedVariables false
set_option linter.unusedSimpArgs false
open Go Go.RowKit Go.ChangeShapes Go.WideShapes

/-- All that was there before the call. -/
def top (w : World) : Ctx := ⟨fun _ => none, fun b => b < w.heap.size⟩
theorem top_rel (P : Program) (w : World) : RelH P w (top w) (fun _ => none) := ⟨(by intro _ _ e; cases e), (by intro _ _ _ _ _ _ e; cases e), (fun _ h => h)⟩
theorem closed1_bool {P : Program} {H : Nat → Option Blk} {v : AV} {b : Bool} {ids : List Nat} (h : closed1 P H v = some (.bool b, ids)) : v = .bool b := by
  cases v <;> simp only [closed1, reduceCtorEq, Option.some.injEq, Prod.mk.injEq, false_and] at h
  case own id off n =>
    cases hk : H id with
    | none => rw [hk] at h; simp at h
    | some b =>
      rw [hk] at h
      simp only at h
      split at h <;> simp at h
  case bool => exact congrArg _ (AV.bool.inj h.1)
theorem glob_two {cp : CP} {w : World} {C : Ctx} {g1 g2 : Nat} {cs1 cs2 : List AV} (h : cp.globs = [(g1, cs1), (g2, cs2)]) (h1 : C.Fz g1 ∧ RepAt w C.bare g1 0 cs1) (h2 : C.Fz g2 ∧ RepAt w C.bare g2 0 cs2) : GlobOk cp w C := by
  intro g cs e
  rw [h] at e
  simp only [look] at e
  cases q1 : Nat.beq g g1 with
  | true => rw [q1] at e; have := nbeq_eq q1; subst this; cases e; exact h1
  | false =>
    rw [q1] at e
    cases q2 : Nat.beq g g2 with
    | true => rw [q2] at e; have := nbeq_eq q2; subst this; cases e; exact h2
    | false => rw [q2] at e; cases e
/-- A variable that is an array of numbers, by its datum. -/
theorem glob_cells {P : Program} {w : World} {n : String} {g : Nat} {t e : TypeId} {k : IntKind} {m : Nat} {vs : List Int} {cs : Array Value} {fuel : Nat} {p : List MemPlace} {d : DataW Unit} (hg : P.globalNamed n = some g) (hu : P.underlying t = some (.array m e)) (he : P.underlying e = some (.int k)) (hc : P.cellsOf e = 1) (hv : w.var? P n = some cs)
    (h : DataW.trod (fun _ => ()) P w 0 (fun _ => true) false fuel t cs.toList = some (d, p)) (hd : d = .agg (vs.map fun x => .lit (.int k x))) : (top w).Fz g ∧ RepAt w (top w).bare g 0 (arrC k vs) := by
  subst hd
  obtain ⟨xs, m', _, hx, hlen, hxl, hel⟩ := DataW.trod_array hu h
  simp only [Prod.mk.injEq, DataW.agg.injEq] at hx
  have hl : vs.length = xs.length := by have := congrArg List.length hx.1; simpa using this
  constructor
  · unfold World.var? at hv
    rw [hg] at hv
    simp only [Option.bind_some] at hv
    show g < w.heap.size
    cases hh : w.heap[g]? with
    | none => rw [hh] at hv; cases hv
    | some o => exact (Array.getElem?_eq_some_iff.1 hh).1
  · refine repAt_of fun j x hj => ?_
    unfold arrC at hj
    rw [List.getElem?_map] at hj
    obtain ⟨y, hy, rfl⟩ := Option.map_eq_some_iff.1 hj
    obtain ⟨hlt, hy'⟩ := List.getElem?_eq_some_iff.1 hy
    have h1 := hel j (by omega)
    rw [hc, Nat.mul_one] at h1
    have hxj : j < xs.length := by omega
    rw [List.getElem?_eq_getElem hxj] at h1
    obtain ⟨z, e1, e2, _⟩ := DataW.trod_int he h1
    have e3 : (xs.map (·.1))[j]? = some (.lit (.int k z)) := by rw [List.getElem?_map, List.getElem?_eq_getElem hxj, e2]; rfl
    rw [← hx.1, List.getElem?_map, hy] at e3
    have hz : y = z := by simpa using e3
    subst hz
    have hcell := World.var?_cell hg hv j
    have hcj : cs[j]? = some (.int k y) := by
      rw [← Array.getElem?_toList]
      have : (cs.toList.drop j)[0]? = some (.int k y) := by
        have := congrArg (fun l => l[0]?) e1
        simpa [List.getElem?_take] using this
      simpa using this
    exact ⟨.int k y, by rw [Nat.zero_add, hcell, hcj], rfl, rfl⟩
/-- A program without variables that are looked at. -/
theorem glob_none {cp : CP} (h : cp.globs = []) (w : World) (C : Ctx) : GlobOk cp w C := by
  intro g cs e
  rw [h] at e
  cases e
theorem law_calls {cp : CP} (hcp : CpOk cp) (hext : ExtOk cp) (hm : cp.P.follows .mixedOrders = true) {f : FuncId} {fn : Func} (hf : look cp.fns f = some fn) {t : TypeId} (ht : fn.resultTypes.toList = [t]) (hnd : isDeep cp f = false) (hnt : treeF cp f = false) {k : Nat} {as : List AV} (hr : takeArgs 0 as = (as, [])) (he : evF cp k f as = some [.bool true])
    {w : World} (hG : GlobOk cp w (top w)) {cargs : List Value} (r : RepL w (top w) as cargs) : Calls cp.P f cargs.toArray w fun e w' => e = .returned (.bool true) ∧ Below w.heap.size w w' := by
  have h0 := evF_ok hcp hext (fun f' orc ho => draw_ok hm (call_ok (cp := cpM cp f') hcp ho)) k f fn as _ hf he w (top w) cargs hG (by rw [hr]; exact bareT (top_rel cp.P w) (by intro id k q; cases q)) (by rw [hr]; exact r) (fun _ _ => rfl)
  refine h0.mono fun e w' ran => ?_
  obtain ⟨C', H', vs, us, rfl, kept, hC, rl, fin, _⟩ := ran
  have none_ : ∀ b, ¬ RW (top w) (look (takeArgs 0 as).2) b := by rintro b ⟨id, L, k, q, _⟩; cases q
  refine ⟨?_, ⟨kept.os, kept.tape, kept.output, kept.size, fun b hb => kept.blk b hb (none_ b) (fun q => by obtain ⟨id, L, k, T, q, _⟩ := q; cases q)⟩⟩
  have hrs : refTys as = [] := by unfold refTys; rw [hr]; rfl
  unfold finishV at fin
  rw [hnd, hnt, ht, hrs] at fin
  simp only at fin
  cases ho : handOut cp.P H' (cp.fresh.contains f) [t] vs with
  | none => rw [ho] at fin; simp at fin
  | some p =>
    obtain ⟨os, i⟩ := p
    rw [ho] at fin
    simp only [refsOut] at fin
    split at fin
    · simp only [List.append_nil, Option.some.injEq] at fin
      subst fin
      cases vs with
      | nil => simp [handOut] at ho
      | cons v vr =>
        simp only [handOut] at ho
        cases h1 : resultVal cp.P H' (cp.fresh.contains f) t v with
        | none => rw [h1] at ho; simp at ho
        | some q =>
          cases h2 : handOut cp.P H' (cp.fresh.contains f) [] vr with
          | none => rw [h1, h2] at ho; simp at ho
          | some q2 =>
            obtain ⟨o, i1⟩ := q
            obtain ⟨os2, i2⟩ := q2
            rw [h1, h2] at ho
            simp only [Option.some.injEq, Prod.mk.injEq, List.cons.injEq] at ho
            obtain ⟨⟨rfl, rfl⟩, _⟩ := ho
            have hvr : vr = [] := by
              cases vr with
              | nil => rfl
              | cons _ _ => simp [handOut] at h2
            subst hvr
            have hv : v = .bool true := by
              unfold resultVal at h1
              split at h1
              · exact closed1_bool h1
              split at h1
              · split at h1
                · split at h1 <;> simp at h1
                · simp at h1
              · split at h1
                · unfold outPt at h1
                  split at h1
                  · split at h1
                    · split at h1 <;> simp at h1
                    · simp at h1
                  · simp at h1
                · exact out1_scalar (s := .bool) h1 rfl rfl
            subst hv
            obtain ⟨u, ur, rfl, r1, r2⟩ := rl
            cases r2
            have r1' : u = .bool true := r1
            subst r1'
            rfl
    · simp at fin

theorem cpOk_of {cp : CP} (h : ∀ p ∈ cp.fns, cp.P.funcs[p.1]? = some p.2 ∧ (p.2.name == "runtime.NumGoroutine") = false ∧ p.2.body.isSome = true) : CpOk cp := by
  intro f fn hf
  obtain ⟨p, hp, h1, h2⟩ := look_lt hf
  have := h p hp
  rw [h1, h2] at this
  exact this

/-! What an argument reads as. -/
structure Enc (α : Type) where
  sz : Nat
  enc : α → List AV
  len : ∀ a, (enc a).length = sz
  one : ∀ a, (enc a).all one = true

def Enc.int (k : IntKind) : Enc Int := ⟨1, fun n => [.int k n], fun _ => rfl, fun _ => rfl⟩
def Enc.bool : Enc Bool := ⟨1, fun b => [.bool b], fun _ => rfl, fun _ => rfl⟩
def Enc.str : Enc ByteArray := ⟨1, fun s => [.str s], fun _ => rfl, fun _ => rfl⟩
def Enc.slice {α : Type} (d : Enc α) : Enc (List α) := ⟨1, fun xs => [.fs xs.length (xs.flatMap d.enc)], fun _ => rfl, fun _ => rfl⟩
def Enc.pair {α β : Type} (d : Enc α) (e : Enc β) : Enc (α × β) := ⟨d.sz + e.sz, fun x => d.enc x.1 ++ e.enc x.2, fun x => by rw [List.length_append, d.len, e.len], fun x => by rw [List.all_append, d.one, e.one]; rfl⟩
def Enc.iso {α β : Type} (d : Enc α) (f : β → α) : Enc β := ⟨d.sz, fun b => d.enc (f b), fun b => d.len _, fun b => d.one _⟩

/-- Whatever reads as data of type t (at most b deep) is of the kind d, and wf. -/
def OpensB {α : Type} (P : Program) (t : TypeId) (b : Nat) (d : Enc α) (wf : α → Prop) : Prop :=
  ∀ {H : Type} {enc : TypeId × Value → H} {w : World} {sp : Nat → Bool} {hd : Bool} {fuel : Nat} {cs : List Value} {x : DataW H × List MemPlace}, fuel ≤ b → DataW.trod enc P w 0 sp hd fuel t cs = some x → ∃ a, RepL w (top w) (d.enc a) cs ∧ wf a
def Opens {α : Type} (P : Program) (t : TypeId) (d : Enc α) (wf : α → Prop) : Prop := ∀ b, OpensB P t b d wf
theorem OpensB.le {α : Type} {P : Program} {t : TypeId} {b b' : Nat} {d : Enc α} {wf : α → Prop} (h : OpensB P t b d wf) (hb : b' ≤ b) : OpensB P t b' d wf := fun hf hx => h (Nat.le_trans hf hb) hx
theorem Opens.of_succ {α : Type} {P : Program} {t : TypeId} {d : Enc α} {wf : α → Prop} (h : ∀ b, OpensB P t (b + 1) d wf) : Opens P t d wf := fun b => OpensB.le (h b) (Nat.le_succ b)

def okInt (k : IntKind) (n : Int) : Prop := (Lit.int k n).wf = true
theorem opens_int {P : Program} {t : TypeId} {k : IntKind} (ht : P.underlying t = some (.int k)) : Opens P t (Enc.int k) (okInt k) := by
  intro b H enc w sp hd fuel cs x _ h
  cases fuel with
  | zero => simp [DataW.trod] at h
  | succ fuel =>
    unfold DataW.trod at h
    rw [ht] at h
    split at h <;> first | (rename_i hk; cases hk) | skip
    all_goals first | (cases ‹TypeDesc.int _ = _›) | skip
    all_goals simp_all
    obtain ⟨⟨h1, h2⟩, _⟩ := h
    subst h1
    exact ⟨_, ⟨_, _, rfl, rfl, rfl⟩, h2⟩
theorem opens_bool {P : Program} {t : TypeId} (ht : P.underlying t = some .bool) : Opens P t Enc.bool (fun _ => True) := by
  intro b H enc w sp hd fuel cs x _ h
  cases fuel with
  | zero => simp [DataW.trod] at h
  | succ fuel =>
    unfold DataW.trod at h
    rw [ht] at h
    split at h
    all_goals first | (exact ⟨_, ⟨_, _, rfl, rfl, rfl⟩, trivial⟩) | (simp_all; done)
def okStr (s : ByteArray) : Prop := s.size ≤ 9223372036854775807
theorem opens_string {P : Program} {t : TypeId} (ht : P.underlying t = some .string) : Opens P t Enc.str okStr := by
  intro b H enc w sp hd fuel cs x _ h
  cases fuel with
  | zero => simp [DataW.trod] at h
  | succ fuel =>
    unfold DataW.trod at h
    rw [ht] at h
    split at h <;> simp_all
    obtain ⟨h, _⟩ := h
    exact ⟨_, ⟨_, _, rfl, rfl, rfl⟩, by simpa [maxLen, okStr] using h⟩
/-- Rows one behind the other. -/
theorem rows_at {α : Type} {w : World} {D : Ctx} {b : Nat} (d : Enc α) : ∀ (xs : List α) (o : Nat), (∀ j x, xs[j]? = some x → RepAt w D b (o + j * d.sz) (d.enc x)) → RepAt w D b o (xs.flatMap d.enc)
  | [], _, _ => trivial
  | x :: xs, o, h => by
    rw [List.flatMap_cons]
    have h0 := h 0 x rfl
    rw [Nat.zero_mul, Nat.add_zero] at h0
    have hr := rows_at d xs (o + d.sz) fun j y hy => by
      have := h (j + 1) y (by simpa using hy)
      rwa [Nat.succ_mul, show o + (j * d.sz + d.sz) = o + d.sz + j * d.sz by omega] at this
    refine repAt_of fun j y hy => ?_
    rcases Nat.lt_or_ge j d.sz with q | q
    · rw [List.getElem?_append_left (by rw [d.len]; exact q)] at hy
      exact repAt_get1 h0 hy
    · rw [List.getElem?_append_right (by rw [d.len]; exact q), d.len] at hy
      have := repAt_get1 hr hy
      rwa [show o + d.sz + (j - d.sz) = o + j by omega] at this
def okList {α : Type} (wf : α → Prop) (xs : List α) : Prop := xs.length ≤ 9223372036854775807 ∧ ∀ x ∈ xs, wf x
theorem opensB_slice {α : Type} {P : Program} {t e : TypeId} {b : Nat} {d : Enc α} {wf : α → Prop} (ht : P.underlying t = some (.slice e)) (hc : P.cellsOf e = d.sz) (hz : 0 < d.sz) (he : OpensB P e b d wf) :
    OpensB P t (b + 1) (Enc.slice d) (okList wf) := by
  intro H enc w sp hd fuel cs x hfu h
  rcases DataW.trod_slice ht h with ⟨rfl, _⟩ | ⟨a, len, cap, elems, rest, n, hn, rfl, _, _, hl, hm, hlen, hx, _⟩
  · exact ⟨[], ⟨_, _, rfl, ⟨none, 0, rfl, Nat.le_refl _, .inl ⟨rfl, rfl⟩⟩, rfl⟩, by simp [okList]⟩
  · have hml : len ≤ 9223372036854775807 := by simp only [maxLen] at hm; omega
    have hex : ∀ i, i < len → ∃ y cs', w.cells? 0 (a.add (i * P.cellsOf e)) (P.cellsOf e) = some cs' ∧ RepL w (top w) (d.enc y) cs' ∧ wf y := fun i hi => by
      have h1 := hx i hi
      rw [List.getElem?_eq_getElem (by omega)] at h1
      obtain ⟨cs', h1, h2⟩ := Option.bind_eq_some_iff.1 h1
      obtain ⟨y, h3, h4⟩ := he (by omega) h2
      exact ⟨y, cs', h1, h3, h4⟩
    cases len with
    | zero => exact ⟨[], ⟨_, _, rfl, ⟨some a, cap, rfl, Nat.zero_le _, .inl ⟨rfl, rfl⟩⟩, rfl⟩, by simp [okList]⟩
    | succ len =>
      obtain ⟨y0, _⟩ := hex 0 (by omega)
      have : Inhabited α := ⟨y0⟩
      obtain ⟨f, hf⟩ := Deep.choose_lt (n := len + 1) (p := fun i x => ∃ cs', w.cells? 0 (a.add (i * P.cellsOf e)) (P.cellsOf e) = some cs' ∧ RepL w (top w) (d.enc x) cs' ∧ wf x) (fun i hi => hex i hi)
      have cellOf : ∀ i j, i < len + 1 → j < d.sz → ∃ v, w.cell? (a.add (i * d.sz + j)) = some v ∧ v.oneCell' = true ∧ ∀ u, (d.enc (f i))[j]? = some u → Rep w (top w) u v := by
        intro i j hi hj
        obtain ⟨cs', h1, h3, _⟩ := hf i hi
        obtain ⟨_, hcl, hcell⟩ := World.cells?_some h1
        have hj' : j < cs'.length := by rw [hcl, hc]; exact hj
        have := hcell j (by rw [hc]; exact hj)
        rw [Deep.add_add, hc, List.getElem?_eq_getElem hj'] at this
        refine ⟨cs'[j], this, repL_one h3 (d.one _) _ (List.getElem_mem _), fun u hu => ?_⟩
        obtain ⟨v, q1, q2⟩ := repL_get h3 hu
        rw [List.getElem?_eq_getElem hj'] at q1
        rw [Option.some.inj q1]; exact q2
      obtain ⟨v0, hv0, _⟩ := cellOf 0 0 (by omega) hz
      have hspot : a.spot = none ∧ a.block < w.heap.size := by
        have h0 : a.add (0 * d.sz + 0) = a := by simp [Addr.add]
        rw [h0] at hv0
        unfold World.cell? at hv0
        split at hv0
        · rename_i c _ _ hb
          split at hv0
          · cases hv0
          · rename_i hs
            exact ⟨by simpa using hs, (Array.getElem?_eq_some_iff.1 hb).1⟩
        · cases hv0
      obtain ⟨ab, ao, asp⟩ := a
      obtain ⟨rfl, hlt⟩ := hspot
      have addN : ∀ n, (⟨ab, ao, none⟩ : Addr).add n = ⟨ab, ao + n, none⟩ := fun n => by
        unfold Addr.add
        split
        · rename_i q; subst q; rfl
        · rfl
      refine ⟨(List.range (len + 1)).map f, ⟨_, _, rfl, ⟨some ⟨ab, ao, none⟩, cap, by simp, by simpa using hl, .inr ⟨ab, ao, rfl, hlt, ?_⟩⟩, rfl⟩, by simpa using hml, fun y hy => ?_⟩
      · refine rows_at d _ _ fun i x hx => ?_
        rw [List.getElem?_map] at hx
        obtain ⟨i', hi', rfl⟩ := Option.map_eq_some_iff.1 hx
        obtain ⟨hlt', hi'⟩ := List.getElem?_eq_some_iff.1 hi'
        rw [List.getElem_range] at hi'
        subst hi'
        refine repAt_of fun j u hu => ?_
        have hj : j < d.sz := by rw [← d.len (f i)]; exact (List.getElem?_eq_some_iff.1 hu).1
        obtain ⟨v, g1, g2, g3⟩ := cellOf i j (by simpa using hlt') hj
        rw [addN] at g1
        exact ⟨v, by rw [show ao + i * d.sz + j = ao + (i * d.sz + j) by omega]; exact g1, g2, g3 u hu⟩
      · obtain ⟨i, hi, rfl⟩ := List.mem_map.1 hy
        obtain ⟨_, _, _, h4⟩ := hf i (by simpa using hi)
        exact h4
theorem opens_slice {α : Type} {P : Program} {t e : TypeId} {d : Enc α} {wf : α → Prop} (ht : P.underlying t = some (.slice e)) (hc : P.cellsOf e = d.sz) (hz : 0 < d.sz) (he : Opens P e d wf) :
    Opens P t (Enc.slice d) (okList wf) := Opens.of_succ fun b => opensB_slice ht hc hz (he b)

theorem repL_app {w : World} {C : Ctx} {xs ys : List AV} {vs us : List Value} (r : RepL w C xs vs) (s : RepL w C ys us) : RepL w C (xs ++ ys) (vs ++ us) := repL_append r s
/-- The fields of a struct from the offset off on. -/
def OpensAt {α : Type} (P : Program) (b : Nat) (fs : List Field) (off : Nat) (d : Enc α) (wf : α → Prop) : Prop :=
  (∀ f ∈ fs, off ≤ f.offset) ∧ ∀ {H : Type} {enc : TypeId × Value → H} {w : World} {sp : Nat → Bool} {hd : Bool} {fuel : Nat} {cs : List Value}, fuel ≤ b → cs.length = d.sz →
    (∀ f ∈ fs, ∃ y, DataW.trod enc P w 0 sp hd fuel f.type ((cs.drop (f.offset - off)).take (P.cellsOf f.type)) = some y) → ∃ a, RepL w (top w) (d.enc a) cs ∧ wf a
theorem opensAt_one {α : Type} {P : Program} {b : Nat} {f : Field} {off : Nat} {d : Enc α} {wf : α → Prop} (ho : f.offset = off) (hc : P.cellsOf f.type = d.sz) (h : OpensB P f.type b d wf) : OpensAt P b [f] off d wf := by
  refine ⟨by simp [ho], fun hb hl hf => ?_⟩
  obtain ⟨y, hy⟩ := hf f (by simp)
  rw [ho, Nat.sub_self, List.drop_zero, hc, List.take_of_length_le (by omega)] at hy
  exact h hb hy
theorem opensAt_cons {α β : Type} {P : Program} {b : Nat} {f : Field} {fs : List Field} {off : Nat} {d : Enc α} {d' : Enc β} {wf : α → Prop} {wf' : β → Prop} (ho : f.offset = off) (hc : P.cellsOf f.type = d.sz) (h : OpensB P f.type b d wf)
    (hr : OpensAt P b fs (off + d.sz) d' wf') : OpensAt P b (f :: fs) off (Enc.pair d d') (fun x => wf x.1 ∧ wf' x.2) := by
  obtain ⟨hr0, hr⟩ := hr
  refine ⟨fun g hg => ?_, fun {H enc w sp hd fuel cs} hb hl hf => ?_⟩
  · rcases List.mem_cons.1 hg with rfl | hg
    · omega
    · have := hr0 g hg; omega
  · have hl' : cs.length = d.sz + d'.sz := hl
    obtain ⟨y, hy⟩ := hf f (by simp)
    rw [ho, Nat.sub_self, List.drop_zero, hc] at hy
    obtain ⟨a, ha, hwa⟩ := h hb hy
    obtain ⟨b, hb, hwb⟩ := hr (cs := cs.drop d.sz) hb (by rw [List.length_drop]; omega) (fun g hg => by
      obtain ⟨y, hy⟩ := hf g (by simp [hg])
      refine ⟨y, ?_⟩
      rw [List.drop_drop]
      have := hr0 g hg
      rw [show d.sz + (g.offset - (off + d.sz)) = g.offset - off by omega]
      exact hy)
    refine ⟨(a, b), ?_, hwa, hwb⟩
    have := repL_app ha hb
    rwa [List.take_append_drop] at this
theorem opensB_struct {α : Type} {P : Program} {t : TypeId} {b : Nat} {fs : Array Field} {d : Enc α} {wf : α → Prop} (ht : P.underlying t = some (.struct fs)) (hc : P.cellsOf t = d.sz) (h : OpensAt P b fs.toList 0 d wf) : OpensB P t (b + 1) d wf := by
  intro H enc w sp hd fuel cs x hfu hx
  obtain ⟨xs, k, hk, hxy, hlen, hxl, hf⟩ := DataW.trod_struct ht hx
  refine h.2 (enc := enc) (sp := sp) (hd := hd) (fuel := k) (by omega) (by rw [hlen, hc]) (fun f hfm => ?_)
  obtain ⟨i, hi, rfl⟩ := List.getElem_of_mem hfm
  have hi' : i < fs.size := by simpa using hi
  have := hf i fs[i] (Array.getElem?_eq_getElem hi')
  rw [Nat.sub_zero]
  have hix : i < xs.length := by omega
  rw [List.getElem?_eq_getElem hix] at this
  exact ⟨_, by simpa using this⟩
theorem OpensB.iso {α β : Type} {P : Program} {t : TypeId} {b : Nat} {d : Enc α} {wf : α → Prop} (f : β → α) (g : α → β) (hg : ∀ a, f (g a) = a) (h : OpensB P t b d wf) : OpensB P t b (Enc.iso d f) (fun b => wf (f b)) := by
  intro H enc w sp hd fuel cs x hfu hx
  obtain ⟨a, ha, hw⟩ := h hfu hx
  refine ⟨g a, ?_, by show wf (f (g a)); rw [hg]; exact hw⟩
  show RepL w (top w) (d.enc (f (g a))) cs
  rw [hg]
  exact ha
theorem OpensB.imp {α : Type} {P : Program} {t : TypeId} {b : Nat} {d : Enc α} {wf wf' : α → Prop} (h : OpensB P t b d wf) (i : ∀ a, wf a → wf' a) : OpensB P t b d wf' := by
  intro H enc w sp hd fuel cs x hfu hx
  obtain ⟨a, ha, hw⟩ := h hfu hx
  exact ⟨a, ha, i a hw⟩
theorem OpensB.zero {α : Type} {P : Program} {t : TypeId} {d : Enc α} {wf : α → Prop} : OpensB P t 0 d wf := by
  intro H enc w sp hd fuel cs x hfu hx
  obtain rfl : fuel = 0 := by omega
  simp [DataW.trod] at hx
/-- A tree of texts. -/
inductive Tree where
  | mk (list : Bool) (text : ByteArray) (kids : List Tree)
mutual
def Tree.cells : Tree → List AV
  | .mk l t ks => [.bool l, .str t, .fs ks.length (Tree.cellsL ks)]
def Tree.cellsL : List Tree → List AV
  | [] => []
  | x :: xs => x.cells ++ Tree.cellsL xs
end
theorem Tree.cellsL_eq : ∀ xs : List Tree, Tree.cellsL xs = xs.flatMap Tree.cells
  | [] => by rw [Tree.cellsL, List.flatMap_nil]
  | x :: xs => by rw [Tree.cellsL, List.flatMap_cons, Tree.cellsL_eq xs]
def encItem : Enc Tree := ⟨3, Tree.cells, fun x => by cases x; rw [Tree.cells]; rfl, fun x => by cases x; rw [Tree.cells]; rfl⟩
mutual
def okItem : Tree → Prop
  | .mk _ t ks => okStr t ∧ ks.length ≤ 9223372036854775807 ∧ okItems ks
def okItems : List Tree → Prop
  | [] => True
  | x :: xs => okItem x ∧ okItems xs
end
theorem okItems_of : ∀ xs : List Tree, (∀ x ∈ xs, okItem x) → okItems xs
  | [], _ => by rw [okItems]; trivial
  | x :: xs, h => by rw [okItems]; exact ⟨h x (by simp), okItems_of xs fun y hy => h y (by simp [hy])⟩
theorem okItems_mem : ∀ xs : List Tree, okItems xs → ∀ x ∈ xs, okItem x
  | [], _, _, h => by simp at h
  | x :: xs, h, y, hy => by
    rw [okItems] at h
    rcases List.mem_cons.1 hy with rfl | hy
    · exact h.1
    · exact okItems_mem xs h.2 y hy
def Tree.b : Tree → Bool | .mk l _ _ => l
def Tree.t : Tree → ByteArray | .mk _ t _ => t
def Tree.ks : Tree → List Tree | .mk _ _ k => k
mutual
theorem Tree.ind1 {P : Tree → Prop} (h : ∀ x : Tree, (∀ y ∈ x.ks, P y) → P x) : ∀ x : Tree, P x
  | .mk l t ks => h (.mk l t ks) (Tree.indL h ks)
theorem Tree.indL {P : Tree → Prop} (h : ∀ x : Tree, (∀ y ∈ x.ks, P y) → P x) : ∀ (xs : List Tree), ∀ y ∈ xs, P y
  | [], _, hy => by simp at hy
  | x :: xs, y, hy => by
    rcases List.mem_cons.1 hy with e | hy
    · rw [e]; exact Tree.ind1 h x
    · exact Tree.indL h xs y hy
end
mutual
def Tree.wt : Tree → Nat
  | .mk _ t ks => t.size + (ks.length + Tree.wtL ks)
def Tree.wtL : List Tree → Nat
  | [] => 0
  | x :: xs => x.wt + Tree.wtL xs
end
theorem wt_eq (x : Tree) : x.wt = x.t.size + (x.ks.length + Tree.wtL x.ks) := by cases x; rw [Tree.wt]; rfl
theorem wtL_cons (x : Tree) (xs : List Tree) : Tree.wtL (x :: xs) = x.wt + Tree.wtL xs := by rw [Tree.wtL]
theorem wtL_nil : Tree.wtL [] = 0 := by rw [Tree.wtL]
theorem wtL_mem : ∀ (xs : List Tree), ∀ y ∈ xs, y.wt ≤ Tree.wtL xs
  | [], _, hy => by simp at hy
  | x :: xs, y, hy => by
    rw [wtL_cons]
    rcases List.mem_cons.1 hy with rfl | hy
    · omega
    · have := wtL_mem xs y hy; omega
theorem opensB_item {P : Program} {t : TypeId} {b : Nat} (h : OpensB P t b (Enc.pair Enc.bool (Enc.pair Enc.str (Enc.slice encItem))) (fun x => True ∧ okStr x.2.1 ∧ okList okItem x.2.2)) : OpensB P t b encItem okItem := by
  intro H enc w sp hd fuel cs x hfu hx
  obtain ⟨⟨l, t, ks⟩, ha, _, h1, h2, h3⟩ := h hfu hx
  refine ⟨.mk l t ks, ?_, by rw [okItem]; exact ⟨h1, h2, okItems_of ks h3⟩⟩
  show RepL w (top w) (Tree.cells (.mk l t ks)) cs
  rw [Tree.cells, Tree.cellsL_eq]
  exact ha
theorem okWide_agg {P : Program} {w : World} {r : Reach} {base : Nat} {t : TypeId} {v : Value} {fs : Array Field} (ht : P.underlying t = some (.struct fs)) (h : Value.okWide P w r base t v) : ∃ cs, v = .agg cs := by
  simp only [Value.okWide, ht] at h
  obtain ⟨cs, h, _⟩ := h
  exact ⟨cs, h⟩
end Go.Proofs.YtlcnpecejhcnfaaDoor.EV
