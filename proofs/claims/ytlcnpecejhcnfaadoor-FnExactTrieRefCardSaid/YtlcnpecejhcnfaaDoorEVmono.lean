/- The evaluator in a memory that holds more blocks. No conditions. -/
import Derived.Test.YtlcnpecejhcnfaaDoorEVdef
namespace Go.Proofs.YtlcnpecejhcnfaaDoor.EV
set_option linter.unusedVariables false
set_option linter.unusedSimpArgs false
open Go
def Ext (h h' : Nat → Option Blk) : Prop := ∀ id b, h id = some b → h' id = some b
section
variable {P : Program} {h h' : Nat → Option Blk}
theorem closed1_mono (x : Ext h h') {v : AV} {r : AV × List Nat} (e : closed1 P h v = some r) : closed1 P h' v = some r := by
  cases v <;> first | exact e | skip
  rename_i id off len
  simp only [closed1] at e ⊢
  cases q : h id with
  | none => rw [q] at e; simp at e
  | some b => rw [q] at e; rw [x id b q]; exact e
theorem closedAll_mono (x : Ext h h') : ∀ {l : List AV} {r : List AV × List Nat}, closedAll P h l = some r → closedAll P h' l = some r
  | [], _, e => e
  | v :: l, r, e => by
    simp only [closedAll] at e ⊢
    cases q : closed1 P h v with
    | none => rw [q] at e; simp at e
    | some a =>
      cases q2 : closedAll P h l with
      | none => rw [q, q2] at e; simp at e
      | some b => rw [q, q2] at e; rw [closed1_mono x q, closedAll_mono x q2]; exact e
theorem closedArg_mono (x : Ext h h') {v : AV} {r : AV × List Nat × List Nat} (e : closedArg P h v = some r) : closedArg P h' v = some r := by
  unfold closedArg at e ⊢
  split at e
  · rename_i xs
    cases q : closedAll P h xs with
    | none => rw [q] at e; simp at e
    | some a => rw [q] at e; rw [closedAll_mono x q]; exact e
  · rename_i id
    cases q : h id with
    | none => rw [q] at e; simp at e
    | some b =>
      rw [q] at e; rw [x id b q]
      simp only at e ⊢
      cases q2 : closedAll P h b.cells with
      | none => rw [q2] at e; simp at e
      | some a => rw [q2] at e; rw [closedAll_mono x q2]; exact e
  · cases q : closed1 P h v with
    | none => rw [q] at e; simp at e
    | some a => rw [q] at e; rw [closed1_mono x q]; exact e
theorem closedArgs_mono (x : Ext h h') : ∀ {l : List AV} {r : List AV × List Nat × List Nat}, closedArgs P h l = some r → closedArgs P h' l = some r
  | [], _, e => e
  | v :: l, r, e => by
    simp only [closedArgs] at e ⊢
    cases q : closedArg P h v with
    | none => rw [q] at e; simp at e
    | some a =>
      cases q2 : closedArgs P h l with
      | none => rw [q, q2] at e; simp at e
      | some b => rw [q, q2] at e; rw [closedArg_mono x q, closedArgs_mono x q2]; exact e
theorem sliceOf_mono (x : Ext h h') {t : TypeId} {v : AV} {r : Nat × List AV} (e : sliceOf P t h v = some r) : sliceOf P t h' v = some r := by
  cases v <;> first | exact e | skip
  rename_i id off len
  simp only [sliceOf] at e ⊢
  cases q : h id with
  | none => rw [q] at e; simp at e
  | some b => rw [q] at e; rw [x id b q]; exact e
theorem loadA_mono (x : Ext h h') {t : TypeId} {v : AV} (e : loadA P h t v ≠ .no) : loadA P h' t v = loadA P h t v := by
  cases v <;> first | rfl | skip
  rename_i id off
  simp only [loadA] at e ⊢
  cases q : h id with
  | none => rw [q] at e; simp at e
  | some b => rw [x id b q]
theorem storeA_mono (x : Ext h h') {t : TypeId} {a v : AV} (e : storeA P h t a v ≠ .no) : storeA P h' t a v = storeA P h t a v := by
  cases a <;> first | rfl | skip
  rename_i id off
  simp only [storeA] at e ⊢
  cases q : h id with
  | none => rw [q] at e; simp at e
  | some b =>
    rw [q] at e; rw [x id b q]
    simp only at e ⊢
    cases q2 : closedAll P h v.parts with
    | none =>
      rw [q2] at e
      cases q3 : Nat.beq b.st 0 <;> cases q4 : (Nat.beq v.parts.length (szOf P t) && v.parts.all one) <;> cases q5 : b.arr <;> rw [q3, q4, q5] at e <;> first | rfl | simp at e
    | some r => rw [closedAll_mono x q2]
theorem appendA_mono (x : Ext h h') {base : Nat} {t : TypeId} {s : AV} {n : Nat} {cs : List AV} {b : Bool} (e : appendA P h base t s n cs b ≠ .no) : appendA P h' base t s n cs b = appendA P h base t s n cs b := by
  cases s <;> first | rfl | skip
  rename_i id off len
  simp only [appendA] at e ⊢
  cases q : h id with
  | none => rw [q] at e; simp at e
  | some b => rw [x id b q]
theorem convA_mono (x : Ext h h') {base : Nat} {s d : TypeId} {v : AV} (e : convA P h base s d v ≠ .no) : convA P h' base s d v = convA P h base s d v := by
  unfold convA at e ⊢
  cases v
  case int => rfl
  case str => rfl
  all_goals
    simp only at e ⊢
    generalize und P s = a at e ⊢
    generalize und P d = b at e ⊢
    cases a <;> cases b <;> first | rfl | (
      rename_i t
      simp only at e ⊢
      generalize und P t = c at e ⊢
      cases c <;> first | rfl | (
        rename_i k
        cases k <;> first | rfl | (
          try simp only at e ⊢
          generalize hv : sliceOf P t h _ = q at e ⊢
          cases q with
          | none => simp at e
          | some r => rw [sliceOf_mono x hv])))
theorem builtinA_mono (x : Ext h h') {base : Nat} {b : Builtin} {ts : List TypeId} {as : List AV} (e : builtinA P h base b ts as ≠ .no) : builtinA P h' base b ts as = builtinA P h base b ts as := by
  unfold builtinA at e ⊢
  rcases as with _ | ⟨s, _ | ⟨y, _ | ⟨_, _⟩⟩⟩ <;> cases b <;> first | rfl | skip
  rcases ts with _ | ⟨t, _ | ⟨t', _ | ⟨_, _⟩⟩⟩ <;> first | rfl | skip
  simp only at e ⊢
  generalize und P t = a at e ⊢
  cases a <;> first | rfl | skip
  rename_i el
  simp only at e ⊢
  cases q : (okZ P el && notInt P t') with
  | false => rfl
  | true =>
    rw [q] at e
    simp only at e ⊢
    cases y
    case str => exact appendA_mono x e
    all_goals
      simp only at e ⊢
      generalize hv : sliceOf P el h _ = z at e ⊢
      cases z with
      | none => simp at e
      | some r => rw [sliceOf_mono x hv]; exact appendA_mono x e
theorem mem_addNew {l : List Nat} {y z : Nat} : z ∈ addNew l y ↔ z ∈ l ∨ z = y := by
  unfold addNew
  split
  · rename_i q
    rw [List.contains_eq_mem, decide_eq_true_eq] at q
    constructor
    · exact .inl
    · rintro (q2 | rfl)
      · exact q2
      · exact q
  · simp
theorem mem_foldNew : ∀ {l acc : List Nat} {z : Nat}, z ∈ l.foldl addNew acc ↔ z ∈ acc ∨ z ∈ l
  | [], acc, z => by simp
  | y :: r, acc, z => by
    rw [List.foldl_cons, mem_foldNew, mem_addNew, List.mem_cons, or_assoc]
theorem cellIds_mono (x : Ext h h') {id : Nat} {b : Blk} (e : h id = some b) : cellIds h' id = cellIds h id := by
  unfold cellIds; rw [e, x id b e]
theorem flatMap_congr' {α β : Type} {f g : α → List β} : ∀ {l : List α}, (∀ a, a ∈ l → f a = g a) → l.flatMap f = l.flatMap g
  | [], _ => rfl
  | a :: r, e => by
    rw [List.flatMap_cons, List.flatMap_cons, e a (by simp), flatMap_congr' fun b hb => e b (by simp [hb])]
theorem deepIds_mono (x : Ext h h') {l : List Nat} (e : ∀ id, id ∈ deepIds h l → ∃ b, h id = some b) : deepIds h' l = deepIds h l := by
  have h1 : l.flatMap (cellIds h') = l.flatMap (cellIds h) := flatMap_congr' fun a ha => by
    obtain ⟨b, hb⟩ := e a (by unfold deepIds; rw [mem_foldNew]; simp [ha])
    exact cellIds_mono x hb
  have h2 : (l.flatMap (cellIds h)).flatMap (cellIds h') = (l.flatMap (cellIds h)).flatMap (cellIds h) := flatMap_congr' fun a ha => by
    obtain ⟨b, hb⟩ := e a (by unfold deepIds; rw [mem_foldNew]; exact .inr (List.mem_append_right _ (List.mem_append_left _ ha)))
    exact cellIds_mono x hb
  unfold deepIds
  rw [h1, h2]
theorem liveAll_get {ids : List Nat} (e : liveAll h ids = true) {id : Nat} (hi : id ∈ ids) : ∃ b, h id = some b ∧ (Nat.beq b.st 0 || Nat.beq b.st 3) = true := by
  have := List.all_eq_true.1 e id hi
  cases q : h id with
  | none => rw [q] at this; simp at this
  | some b => rw [q] at this; exact ⟨b, rfl, this⟩
theorem deepArgs_mono (x : Ext h h') {vs : List AV} {r : List AV × List Nat} (e : deepArgs h vs = some r) : deepArgs h' vs = some r := by
  unfold deepArgs at e ⊢
  cases q : (distinct (deepIds h (vs.flatMap idsOf)) && liveAll h (deepIds h (vs.flatMap idsOf))) with
  | false => rw [q] at e; simp at e
  | true =>
    rw [q] at e
    rw [Bool.and_eq_true] at q
    have hl := fun id hi => liveAll_get q.2 (id := id) hi
    have h1 := deepIds_mono x (l := vs.flatMap idsOf) fun id hi => by obtain ⟨b, hb, _⟩ := hl id hi; exact ⟨b, hb⟩
    rw [h1]
    have h2 : liveAll h' (deepIds h (vs.flatMap idsOf)) = true := List.all_eq_true.2 fun id hi => by
      obtain ⟨b, hb, hs⟩ := hl id hi
      rw [x id b hb]; exact hs
    have h3 : (deepIds h (vs.flatMap idsOf)).map (blkAV h' (deepIds h (vs.flatMap idsOf))) = (deepIds h (vs.flatMap idsOf)).map (blkAV h (deepIds h (vs.flatMap idsOf))) := List.map_congr_left fun id hi => by
      obtain ⟨b, hb, _⟩ := hl id hi
      unfold blkAV
      rw [hb, x id b hb]
    rw [q.1, h2, h3]
    exact e
theorem closed1_pres {P : Program} {h : Nat → Option Blk} {v : AV} {r : AV × List Nat} (e : closed1 P h v = some r) : ∀ id, id ∈ idsOf v → ∃ b, h id = some b := by
  cases v <;> intro id hid <;> simp only [idsOf, List.not_mem_nil, List.mem_singleton] at hid
  case own id0 off n =>
    subst hid
    simp only [closed1] at e
    cases q : h id with
    | none => rw [q] at e; simp at e
    | some b => exact ⟨b, rfl⟩
  case ptr => simp [closed1] at e
  case agg => simp [closed1] at e
theorem closedAll_pres {P : Program} {h : Nat → Option Blk} : ∀ {l : List AV} {r : List AV × List Nat}, closedAll P h l = some r → ∀ id, id ∈ ids1 l → ∃ b, h id = some b
  | [], _, _, id, hid => by simp [ids1] at hid
  | v :: l, r, e, id, hid => by
    simp only [closedAll] at e
    cases q : closed1 P h v with
    | none => rw [q] at e; simp at e
    | some a =>
      cases q2 : closedAll P h l with
      | none => rw [q, q2] at e; simp at e
      | some b =>
        have h1 := closed1_pres q id
        have h2 := closedAll_pres q2 id
        cases v <;> simp only [ids1, List.mem_cons] at hid <;> first | exact h2 hid | (rcases hid with rfl | hid <;> first | exact h2 hid | exact h1 (by simp [idsOf]))
theorem closedArgs_pres {P : Program} {h : Nat → Option Blk} : ∀ {l : List AV} {r : List AV × List Nat × List Nat}, closedArgs P h l = some r → ∀ id, id ∈ l.flatMap idsOf → ∃ b, h id = some b
  | [], _, _, id, hid => by simp at hid
  | v :: l, r, e, id, hid => by
    simp only [closedArgs] at e
    cases q : closedArg P h v with
    | none => rw [q] at e; simp at e
    | some a =>
      cases q2 : closedArgs P h l with
      | none => rw [q, q2] at e; simp at e
      | some b =>
        rw [List.flatMap_cons] at hid
        rcases List.mem_append.1 hid with hid | hid
        · unfold closedArg at q
          split at q
          · split at q
            · rename_i q3
              exact closedAll_pres q3 id hid
            · simp at q
          · rename_i id0
            simp only [idsOf, List.mem_singleton] at hid
            subst hid
            cases q3 : h id with
            | none => rw [q3] at q; simp at q
            | some b => exact ⟨b, rfl⟩
          · cases q3 : closed1 P h v with
            | none => rw [q3] at q; simp at q
            | some c => exact closed1_pres q3 id hid
        · exact closedArgs_pres q2 id hid
theorem hasTree_mono (x : Ext h h') {vs : List AV} (e : ∀ id, id ∈ vs.flatMap idsOf → ∃ b, h id = some b) : hasTree h' vs = hasTree h vs := by
  unfold hasTree
  generalize vs.flatMap idsOf = l at e
  induction l with
  | nil => rfl
  | cons a r ih =>
    rw [List.any_cons, List.any_cons, ih fun id hid => e id (by simp [hid])]
    obtain ⟨b, hb⟩ := e a (by simp)
    unfold treeB
    rw [hb, x a b hb]
theorem viewF_ext (x : Ext h h') : Ext (viewF h) (viewF h') := by
  intro id b hb
  unfold viewF at hb ⊢
  cases q : h id with
  | none => rw [q] at hb; simp at hb
  | some k => rw [q] at hb; rw [x id k q]; exact hb
theorem argsOf_mono (x : Ext h h') {cp : CP} {f : FuncId} {vs : List AV} {r : List AV × List Nat × List Nat} (e : argsOf cp f h vs = some r) : argsOf cp f h' vs = some r := by
  unfold argsOf at e ⊢
  cases q : look cp.deep f with
  | some l =>
    rw [q] at e
    simp only at e ⊢
    cases q2 : deepArgs h vs with
    | none => rw [q2] at e; simp at e
    | some a => rw [q2] at e; rw [deepArgs_mono x q2]; exact e
  | none =>
    rw [q] at e
    simp only at e ⊢
    cases ht : hasTree h vs with
    | false =>
      rw [ht] at e
      simp only at e
      cases q2 : closedArgs cp.P h vs with
      | none => rw [q2] at e; simp at e
      | some a => rw [q2] at e; rw [hasTree_mono x (closedArgs_pres q2), ht, closedArgs_mono x q2]; exact e
    | true =>
      rw [ht] at e
      simp only at e
      cases q2 : closedArgs cp.P (viewF h) vs with
      | none => rw [q2] at e; simp at e
      | some a =>
        rw [q2] at e
        rw [hasTree_mono x (fun id hid => by
          obtain ⟨b, hb⟩ := closedArgs_pres q2 id hid
          unfold viewF at hb
          cases q3 : h id with
          | none => rw [q3] at hb; simp at hb
          | some b => exact ⟨b, rfl⟩), ht, closedArgs_mono (viewF_ext x) q2]
        exact e
theorem evR0_mono (x : Ext h h') {cp : CP} {P : Program} (hP : cp.P = P) {ρ : Operand → AV} {base : Nat} {o : Oper} (e : evR0 cp ρ h base o ≠ .no) : evR0 cp ρ h' base o = evR0 cp ρ h base o := by
  subst hP
  obtain ⟨dst, op, ty, pos, aft, gu⟩ := o
  cases op <;> first | rfl | skip
  case load t a => exact loadA_mono x e
  case store t a v => exact storeA_mono x e
  case convert s d v => exact convA_mono x e
  case buildSlice t len parts =>
    simp only [evR0] at e ⊢
    generalize und cp.P t = a at e ⊢
    cases a <;> first | rfl | skip
    rename_i el
    simp only at e ⊢
    generalize Nat.beq len 0 = z at e ⊢
    generalize parts.toList = pl at e ⊢
    cases z <;> cases pl <;> first | rfl | skip
    all_goals
      simp only at e ⊢
      generalize (okZ cp.P el && Nat.ble 1 len && Nat.ble (len * szOf cp.P el) 16777216) = g at e ⊢
      cases g <;> first | rfl | skip
      simp only at e ⊢
      generalize fillA _ _ _ = f at e ⊢
      cases f <;> first | rfl | skip
      rename_i cs
      simp only at e ⊢
      cases q : closedAll cp.P h cs with
      | none => rw [q] at e; simp at e
      | some r => rw [closedAll_mono x q]
  case slice t v lo hi mx =>
    simp only [evR0] at e ⊢
    cases mx <;> first | rfl | skip
    simp only at e ⊢
    generalize ρ v = u at e ⊢
    generalize und cp.P t = a at e ⊢
    cases u <;> cases a <;> first | rfl | skip
    rename_i id off n el
    simp only at e ⊢
    cases q : h id with
    | none => rw [q] at e; simp at e
    | some b => rw [x id b q]
  case indexAddr t v ix =>
    simp only [evR0] at e ⊢
    generalize und cp.P t = a at e ⊢
    generalize ρ v = u at e ⊢
    generalize ρ ix = j at e ⊢
    cases a <;> cases u <;> cases j <;> first | rfl | skip
    simp only at e ⊢
    rename_i id off n k i
    cases q : h id with
    | none => rw [q] at e; simp at e
    | some b => rw [x id b q]
  case call c =>
    obtain ⟨callee, args, ats⟩ := c
    cases callee <;> first | rfl | skip
    case builtin b => exact builtinA_mono x e
    case value f =>
      simp only [evR0] at e ⊢
      generalize ρ f = u at e ⊢
      cases u <;> first | rfl | skip
      simp only at e ⊢
      rename_i g
      cases q : argsOf cp g h (args.toList.map ρ) with
      | none => rw [q] at e; simp at e
      | some r => rw [argsOf_mono x q]
theorem liveS_mono (x : Ext h h') {P : Program} {t : TypeId} {v : AV} (e : liveS P h t v = true) : liveS P h' t v = true := by
  cases v <;> simp only [liveS, Bool.false_eq_true] at e
  rename_i id off
  simp only [liveS]
  cases q : h id with
  | none => rw [q] at e; simp at e
  | some b => rw [q] at e; rw [x id b q]; exact e
theorem ptrConv_mono (x : Ext h h') {P : Program} {s d : TypeId} {v : AV} (e : ptrConv P h s d v ≠ .no) : ptrConv P h' s d v = ptrConv P h s d v := by
  unfold ptrConv at e ⊢
  generalize und P s = a at e ⊢
  generalize und P d = b at e ⊢
  cases a <;> cases b <;> first | rfl | skip
  · rename_i u
    simp only at e ⊢
    cases hl : liveS P h u v with
    | false => rw [hl] at e; simp at e
    | true => rw [liveS_mono x hl]
  · rename_i u
    simp only at e ⊢
    cases hl : liveS P h u v with
    | false => rw [hl] at e; simp at e
    | true => rw [liveS_mono x hl]
theorem unsafeStr_mono (x : Ext h h') {P : Program} {ts : List TypeId} {as : List AV} (e : unsafeStr P h ts as ≠ .no) : unsafeStr P h' ts as = unsafeStr P h ts as := by
  rcases as with _ | ⟨a, _ | ⟨b, _ | ⟨_, _⟩⟩⟩ <;> first | rfl | skip
  · cases a <;> rfl
  · cases a <;> first | rfl | (cases b <;> rfl) | skip
    cases b <;> first | rfl | skip
    rename_i id off k n
    rcases ts with _ | ⟨t, _ | ⟨t', _ | ⟨_, _⟩⟩⟩ <;> first | rfl | skip
    simp only [unsafeStr] at e ⊢
    generalize und P t = u at e ⊢
    cases u <;> first | rfl | skip
    try simp only at e ⊢
    cases q : h id with
    | none => rw [q] at e; simp at e
    | some b => rw [x id b q]
  · cases a <;> first | rfl | (cases b <;> rfl)
theorem evP_mono (x : Ext h h') {cp : CP} {ρ : Operand → AV} {o : Oper} (e : evP cp ρ h o ≠ .no) : evP cp ρ h' o = evP cp ρ h o := by
  obtain ⟨dst, op, ty, pos, aft, gu⟩ := o
  cases op <;> first | rfl | skip
  case convert s d v => exact ptrConv_mono x e
  case call c =>
    obtain ⟨callee, args, ats⟩ := c
    cases callee <;> first | rfl | skip
    rename_i b
    cases b <;> first | rfl | exact unsafeStr_mono x e
theorem evA_mono (x : Ext h h') {cp : CP} {P : Program} (hP : cp.P = P) {ρ : Operand → AV} {base : Nat} {o : Oper} (e : evA cp ρ h base o ≠ some .no) : evA cp ρ h' base o = evA cp ρ h base o := by
  obtain ⟨dst, op, ty, pos, aft, gu⟩ := o
  cases op <;> first | rfl | skip
  case load t a =>
    simp only [evA] at e ⊢
    cases q : isG a <;> rw [q] at e <;> simp only at e ⊢
    · cases hb : bigA cp.P t <;> rw [hb] at e <;> first | rfl | skip
      rename_i p
      simp only at e ⊢
      generalize ρ a = v at e ⊢
      cases v <;> first | rfl | skip
      rename_i id off
      simp only [loadBig] at e ⊢
      cases q2 : h id with
      | none => rw [q2] at e; simp at e
      | some b => rw [x id b q2]
    · rw [evR0_mono x hP (fun q => e (by rw [q]))]
  case store t a y =>
    simp only [evA] at e ⊢
    generalize ρ y = vy at e ⊢
    cases vy <;> first | rfl | skip
    simp only at e ⊢
    generalize ρ a = v at e ⊢
    cases v <;> first | rfl | skip
    rename_i id off
    simp only [storeBig] at e ⊢
    cases q2 : h id with
    | none => rw [q2] at e; simp at e
    | some b => rw [x id b q2]
  case indexAddr t a ix =>
    simp only [evA] at e ⊢
    cases q : isG a <;> rw [q] at e <;> first | rfl | skip
    simp only at e ⊢
    rw [evR0_mono x hP (fun q => e (by rw [q]))]
theorem evR1_mono (x : Ext h h') {cp : CP} {P : Program} (hP : cp.P = P) {ρ : Operand → AV} {base : Nat} {o : Oper} (e : evR1 cp ρ h base o ≠ .no) : evR1 cp ρ h' base o = evR1 cp ρ h base o := by
  unfold evR1 at e ⊢
  cases q : isP cp o <;> rw [q] at e <;> simp only at e ⊢
  · cases hA : evA cp ρ h base o with
    | none => rw [hA] at e; rw [evA_mono x hP (by rw [hA]; simp), hA]; exact evR0_mono x hP e
    | some r => rw [hA] at e; rw [evA_mono x hP (by rw [hA]; intro q; exact e (Option.some.inj q)), hA]
  · exact evP_mono x e
theorem tr1_mono (x : Ext h h') {P : Program} {v : AV} {r : AV × Bool × List Nat} (e : tr1 P h v = some r) : tr1 P h' v = some r := by
  cases v <;> first | exact e | skip
  rename_i id off n
  simp only [tr1] at e ⊢
  cases q : h id with
  | none => rw [q] at e; simp at e
  | some b => rw [q] at e; rw [x id b q]; exact e
theorem trAll_mono (x : Ext h h') {P : Program} : ∀ {l : List AV} {r : List AV × Bool × List Nat}, trAll P h l = some r → trAll P h' l = some r
  | [], _, e => e
  | v :: l, r, e => by
    simp only [trAll] at e ⊢
    cases q : tr1 P h v with
    | none => rw [q] at e; simp at e
    | some a =>
      cases q2 : trAll P h l with
      | none => rw [q, q2] at e; simp at e
      | some b => rw [q, q2] at e; rw [tr1_mono x q, trAll_mono x q2]; exact e
theorem foldB_mono (x : Ext h h') {b : Blk} {r : Blk × List Nat} (e : foldB h b = some r) : foldB h' b = some r := by
  unfold foldB at e ⊢
  cases q : Nat.beq b.st 3 with
  | true => rw [q] at e; exact e
  | false =>
    rw [q] at e
    simp only at e ⊢
    split at e
    · rename_i cs cid j n q1 q2
      cases q3 : h cid with
      | none => rw [q3] at e; simp at e
      | some c => rw [q3] at e; rw [x cid c q3]; exact e
    · simp at e
theorem treeLoad_mono (x : Ext h h') {P : Program} {base : Nat} {t : TypeId} {id off : Nat} {b : Blk} (e : treeLoad P h base t id off b ≠ .no) : treeLoad P h' base t id off b = treeLoad P h base t id off b := by
  unfold treeLoad at e ⊢
  cases q : foldB h b with
  | none => rw [q] at e; simp at e
  | some p => rw [foldB_mono x q]
theorem treeStore_mono (x : Ext h h') {P : Program} {t : TypeId} {id off : Nat} {b : Blk} {v : AV} (e : treeStore P h t id off b v ≠ .no) : treeStore P h' t id off b v = treeStore P h t id off b v := by
  unfold treeStore at e ⊢
  cases q : foldB h b with
  | none => rw [q] at e; simp at e
  | some p =>
    rw [q] at e
    rw [foldB_mono x q]
    simp only at e ⊢
    cases q2 : (Nat.beq v.parts.length (szOf P t) && v.parts.all one) with
    | false => rfl
    | true =>
      rw [q2] at e
      cases q3 : trAll P h v.parts with
      | none => rw [q3] at e; simp at e
      | some r => rw [trAll_mono x q3]
theorem treeBuild_mono (x : Ext h h') {P : Program} {base : Nat} {t : TypeId} {len : Nat} {ps : List (Nat × AV)} (e : treeBuild P h base t len ps ≠ .no) : treeBuild P h' base t len ps = treeBuild P h base t len ps := by
  unfold treeBuild at e ⊢
  generalize Nat.beq len 0 = z at e ⊢
  cases z <;> cases ps <;> first | rfl | skip
  all_goals
    simp only at e ⊢
    generalize (okZ P t && Nat.ble 1 len && Nat.ble (len * szOf P t) 16777216) = g at e ⊢
    cases g <;> first | rfl | skip
    simp only at e ⊢
    generalize fillA _ _ _ = f at e ⊢
    cases f <;> first | rfl | skip
    rename_i cs
    simp only at e ⊢
    cases q : trAll P h cs with
    | none => rw [q] at e; simp at e
    | some r => rw [trAll_mono x q]
theorem treeApp_mono (x : Ext h h') {P : Program} {base : Nat} {t : TypeId} {a b : AV} (e : treeApp P h base t a b ≠ .no) : treeApp P h' base t a b = treeApp P h base t a b := by
  cases a <;> cases b <;> first | rfl | skip
  case nils.own xid xo xn =>
    simp only [treeApp] at e ⊢
    cases q : h xid with
    | none => rw [q] at e; simp at e
    | some k => rw [x xid k q]
  case own.own id o n xid xo xn =>
    simp only [treeApp] at e ⊢
    cases q : h id with
    | none => rw [q] at e; simp at e
    | some k =>
      cases q2 : h xid with
      | none => rw [q, q2] at e; simp at e
      | some k2 => rw [x id k q, x xid k2 q2]
theorem natG_mono (x : Ext h h') {id : Nat} {g : Bool} (e : natG h id = some g) : natG h' id = some g := by
  unfold natG at e ⊢
  cases q : h id with
  | none => rw [q] at e; simp at e
  | some k => rw [q] at e; rw [x id k q]; exact e
theorem twoTrees_mono (x : Ext h h') {a b : AV} {g : Bool} (e : twoTrees h a b = some g) : twoTrees h' a b = some g := by
  cases a <;> cases b <;> simp only [twoTrees, reduceCtorEq] at e ⊢
  rename_i i o j o'
  cases q : Nat.beq i j with
  | true => rw [q] at e; simp at e
  | false =>
    rw [q] at e
    cases q1 : natG h i with
    | none => rw [q1] at e; simp at e
    | some a =>
      cases q2 : natG h j with
      | none => rw [q1, q2] at e; simp at e
      | some b => rw [q1, q2] at e; rw [natG_mono x q1, natG_mono x q2]; exact e
theorem evT_mono (x : Ext h h') {cp : CP} {ρ : Operand → AV} {base : Nat} {o : Oper} (e : evT cp ρ h base o ≠ some .no) : evT cp ρ h' base o = evT cp ρ h base o := by
  obtain ⟨dst, op, ty, pos, aft, gu⟩ := o
  cases op <;> first | rfl | skip
  case load t a =>
    simp only [evT] at e ⊢
    generalize isG a = ga at e ⊢
    generalize ρ a = v at e ⊢
    cases ga <;> cases v <;> first | rfl | skip
    rename_i id off
    simp only at e ⊢
    cases q : h id with
    | none => rw [q] at e; simp at e
    | some b =>
      rw [q] at e
      rw [x id b q]
      simp only at e ⊢
      cases q3 : Nat.ble 3 b.st <;> rw [q3] at e <;> first | rfl | skip
      simp only at e ⊢
      rw [treeLoad_mono x fun z => e (by rw [z])]
  case store t a y =>
    simp only [evT] at e ⊢
    generalize ρ a = v at e ⊢
    cases v <;> first | rfl | skip
    rename_i id off
    simp only at e ⊢
    cases q : h id with
    | none => rw [q] at e; simp at e
    | some b =>
      rw [q] at e
      rw [x id b q]
      simp only at e ⊢
      cases q3 : Nat.ble 3 b.st <;> rw [q3] at e <;> first | rfl | skip
      simp only at e ⊢
      rw [treeStore_mono x fun z => e (by rw [z])]
  case indexAddr t a ix =>
    simp only [evT] at e ⊢
    generalize isG a = ga at e ⊢
    generalize ρ a = v at e ⊢
    cases ga <;> cases v <;> first | rfl | skip
    rename_i id off n
    simp only at e ⊢
    cases q : h id with
    | none => rw [q] at e; simp at e
    | some b => rw [x id b q]
  case buildSlice t len parts =>
    simp only [evT] at e ⊢
    generalize cp.tm = m at e ⊢
    cases m <;> first | rfl | skip
    simp only at e ⊢
    generalize und cp.P t = u at e ⊢
    cases u <;> first | rfl | skip
    rename_i el
    simp only at e ⊢
    generalize treeT cp.P el = tt at e ⊢
    cases tt <;> first | rfl | skip
    simp only at e ⊢
    rw [treeBuild_mono x fun z => e (by rw [z])]
  case binOp op t a b z =>
    simp only [evT] at e ⊢
    generalize und cp.P t = u at e ⊢
    generalize nilPC b = nb at e ⊢
    cases op <;> cases u <;> cases nb <;> first | rfl | skip
    rename_i el
    simp only at e ⊢
    cases q : twoTrees h (ρ a) (ρ b) with
    | none => rw [q] at e; simp at e
    | some g => rw [twoTrees_mono x q]
  case call c =>
    obtain ⟨callee, args, ats⟩ := c
    cases callee <;> first | rfl | skip
    rename_i b
    cases b <;> first | rfl | skip
    simp only [evT] at e ⊢
    generalize cp.tm = m at e ⊢
    generalize ats.toList = tl at e ⊢
    generalize args.toList.map ρ = al at e ⊢
    cases m <;> first | rfl | skip
    rcases tl with _ | ⟨t, _ | ⟨t', _ | ⟨_, _⟩⟩⟩ <;> rcases al with _ | ⟨a, _ | ⟨b, _ | ⟨_, _⟩⟩⟩ <;> first | rfl | skip
    simp only at e ⊢
    generalize und cp.P t = u at e ⊢
    cases u <;> first | rfl | skip
    rename_i el
    simp only at e ⊢
    generalize (treeT cp.P el && (okZ cp.P el && notInt cp.P t')) = g at e ⊢
    cases g <;> first | rfl | skip
    try simp only at e ⊢
    rw [treeApp_mono x fun z => e (by rw [z])]
theorem stOk_mono (x : Ext h h') {l : List Nat} (e : stOk h l = true) : stOk h' l = true := List.all_eq_true.2 fun id hid => by
  have := List.all_eq_true.1 e id hid
  cases q : h id with
  | none => rw [q] at this; simp at this
  | some b => rw [q] at this; rw [x id b q]; exact this
theorem evR_mono (x : Ext h h') {cp : CP} {P : Program} (hP : cp.P = P) {ρ : Operand → AV} {base : Nat} {o : Oper} (e : evR cp ρ h base o ≠ .no) : evR cp ρ h' base o = evR cp ρ h base o := by
  unfold evR at e ⊢
  have hT : evT cp ρ h base o ≠ some .no := fun q => by rw [q] at e; exact e rfl
  rw [evT_mono x hT]
  cases q : evT cp ρ h base o with
  | some r => rfl
  | none =>
    rw [q] at e
    simp only at e ⊢
    have h1 : evR1 cp ρ h base o ≠ .no := fun q => by rw [q] at e; exact e rfl
    rw [evR1_mono x hP h1]
    cases q1 : evR1 cp ρ h base o with
    | no => rfl
    | call f as z rs => rfl
    | val g v nw dd fz =>
      rw [q1] at e
      simp only [sane] at e ⊢
      cases hs : stOk h (touchV base nw dd fz) with
      | false => rw [hs] at e; simp at e
      | true => rw [stOk_mono x hs]
end
end Go.Proofs.YtlcnpecejhcnfaaDoor.EV
