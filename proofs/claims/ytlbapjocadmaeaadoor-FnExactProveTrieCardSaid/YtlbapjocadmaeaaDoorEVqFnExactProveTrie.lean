/- FnExactProveTrie, the plain part: for every argument the law answers true. No conditions. -/
import Derived.Test.YtlbapjocadmaeaaDoorEVoFnExactProveTrie
namespace Go.Proofs.YtlbapjocadmaeaaDoor.FnExactProveTrie
open Go Go.Proofs Go.Proofs.YtlbapjocadmaeaaDoor.EV
set_option linter.unusedVariables false
set_option linter.unusedSimpArgs false
set_option maxRecDepth 100000
/-! sixteen kids -/
def kidsT (f : Nat → Tree) (n : Nat) : List Tree := (List.range n).map f
theorem kidsT_len (f : Nat → Tree) (n : Nat) : (kidsT f n).length = n := by unfold kidsT; rw [List.length_map, List.length_range]
theorem kidsT_succ (f : Nat → Tree) (n : Nat) : kidsT f n ++ [f n] = kidsT f (n + 1) := by unfold kidsT; rw [List.range_succ, List.map_append]; rfl
theorem aMany (f : Nat → Tree) : aItem (.mk true ⟨#[]⟩ (kidsT f 16 ++ [emptyTree])) = .agg [.bool true, .str ⟨#[]⟩, .fs (kidsT f 16 ++ [emptyTree]).length ((kidsT f 16 ++ [emptyTree]).flatMap eItem)] := rfl
theorem catEmpty (ws : List Tree) : catC (cutC (ws.flatMap eItem) 0 (mulN ws.length 3)) (cutC [.bool false, .str (ByteArray.mk (Array.mk [])), .fs 0 []] 0 3) = (ws ++ [emptyTree]).flatMap eItem := catIt ws emptyTree
/-- What the item of pairs looks like. -/
def TShape (xs : List TPair) (a : Nat) (t : Tree) : Prop := match xs with
  | [] => t = emptyTree
  | [p] => t = .mk true ⟨#[]⟩ [.mk false (prefixText ((nibK p).drop a) true).1 [], .mk false p.2 []]
  | p :: q :: r => (∃ n : Nat, 0 < n ∧ shr ((nibK p).drop a) a (q :: r) ((8 : Int) - a) = (n : Int) ∧ ∃ y, t = .mk true ⟨#[]⟩ [.mk false (prefixText (((nibK p).drop a).take n) false).1 [], y]) ∨
    (shr ((nibK p).drop a) a (q :: r) ((8 : Int) - a) = ((0 : Nat) : Int) ∧ ∃ f : Nat → Tree, t = .mk true ⟨#[]⟩ (kidsT f 16 ++ [emptyTree]) ∧ ∀ h, h < 16 → (filt h a (p :: q :: r) = [] → f h = emptyTree) ∧ (filt h a (p :: q :: r) ≠ [] → (f h).b = true ∨ (f h).t.size = 32))
theorem tshape_list {xs : List TPair} {a : Nat} {t : Tree} (h : TShape xs a t) (ne : xs ≠ []) : t.b = true := by
  match xs, h, ne with
  | [], _, ne => exact absurd rfl ne
  | [p], h, _ => rw [show t = _ from h]; rfl
  | p :: q :: r, h, _ =>
    rcases h with ⟨n, _, _, y, e⟩ | ⟨_, f, e, _⟩
    · rw [e]; rfl
    · rw [e]; rfl
/-- The item of right pairs, and what stands for it. -/
theorem trie_sh : ∀ (fuel : Nat) (xs : List TPair) (a : Nat), PInv xs a → 9 - a ≤ fuel → ∃ t : Tree, (t.wt ≤ 4000 ∧ TShape xs a t) ∧ Does cp n_spec_l19Item [.fs xs.length (xs.flatMap ePair), .int .i64 (a : Int)] [aItem t] ∧ Does cp n_impl_trieItem [.fs xs.length (xs.flatMap ePair), .int .i64 (a : Int)] [aItem t] := by
  intro fuel
  induction fuel with
  | zero => intro xs a i hf; have := i.le; omega
  | succ fuel ih =>
    intro xs a i hf
    have hle := i.le
    match xs, i with
    | [], i =>
      refine ⟨emptyTree, ⟨by decide, rfl⟩, ?_, ?_⟩
      · refine Ev.fn (fun k => F_spec_l19Item k _ _ _) (Ev.t rfl (Ev.c (spec_l19Text_ev _) ?_))
        simp only [hdV_c, tlV_c, parts1_a, asInt_i, asBool_b, asStr_s, asLen_f, asCells_f, tupL_t, refCells_r, ownLen_o]
        exact Ev.now _
      · exact Ev.fn (fun k => F_impl_trieItem k _ _ _) (Ev.t rfl (Ev.now _))
    | [p], i =>
      have hp := i.k p (by simp)
      have hv := i.v p (by simp)
      have hpl := prefixText_le ((nibK p).drop a) true
      have hdl : ((nibK p).drop a).length ≤ 8 := by rw [List.length_drop, nibK_len hp]; omega
      refine ⟨.mk true ⟨#[]⟩ [.mk false (prefixText ((nibK p).drop a) true).1 [], .mk false p.2 []], ⟨?_, rfl⟩, ?_, ?_⟩
      · rw [wt_eq]
        show 0 + (2 + Tree.wtL [_, _]) ≤ 4000
        rw [wtL_cons, wtL_cons, wtL_nil, wt_eq, wt_eq]
        show 0 + (2 + ((prefixText ((nibK p).drop a) true).1.size + (0 + Tree.wtL []) + (p.2.size + (0 + Tree.wtL []) + 0))) ≤ 4000
        rw [wtL_nil]; omega
      · refine Ev.fn (fun k => F_spec_l19Item k _ _ _) (Ev.f rfl (Ev.t rfl (Ev.g rfl ?_)))
        simp only [pc0, pc1, asStr_s]
        refine Ev.g rfl (Ev.c (spec_nib hp) ?_)
        simp only [hdV_c, tlV_c, parts1_a, asInt_i, asBool_b, asStr_s, asLen_f, asCells_f, tupL_t, refCells_r, ownLen_o]
        refine Ev.g (nibIn hp hle) ?_
        simp only [nibLen, nibCut]
        refine Ev.c (spec_PrefixText_ev _ (drop_le8 hp a) true) ?_
        simp only [hdV_c, tlV_c, parts1_a, asInt_i, asBool_b, asStr_s, asLen_f, asCells_f, tupL_t, refCells_r, ownLen_o]
        refine Ev.c (spec_l19Text_ev _) (Ev.g rfl (Ev.g rfl (Ev.c (spec_l19Text_ev _) ?_)))
        simp only [hdV_c, tlV_c, parts1_a, asInt_i, asBool_b, asStr_s, asLen_f, asCells_f, tupL_t, refCells_r, ownLen_o]
        exact Ev.some_ (by rw [aTwo]; rfl)
      · refine Ev.fn (fun k => F_impl_trieItem k _ _ _) (Ev.f rfl (Ev.g rfl ?_))
        simp only [pc0, pc1, asStr_s]
        refine Ev.g rfl (Ev.c (impl_nib hp) ?_)
        simp only [hdV_c, tlV_c, parts1_a, asInt_i, asBool_b, asStr_s, asLen_f, asCells_f, tupL_t, refCells_r, ownLen_o]
        refine Ev.g (nibIn hp hle) (Ev.t rfl ?_)
        simp only [nibLen, nibCut]
        refine Ev.c (impl_PrefixText_ev _ (drop_le8 hp a) true) ?_
        simp only [hdV_c, tlV_c, parts1_a, asInt_i, asBool_b, asStr_s, asLen_f, asCells_f, tupL_t, refCells_r, ownLen_o]
        exact Ev.g rfl (Ev.g rfl (Ev.some_ (by rw [aTwo]; rfl)))
    | p :: q :: r, i =>
      have hp := i.k p (by simp)
      have hlt := pinv_lt i
      have hl : (p :: q :: r).length ≤ 12 := i.n
      have h0 : eqI (lenI (p :: q :: r).length) 0 = false := eqI_f (by rw [lenI_c, List.length_cons]; omega)
      have h1 : eqI (lenI (p :: q :: r).length) 1 = false := eqI_f (by rw [lenI_c, List.length_cons, List.length_cons]; omega)
      have es := spec_shared_ev i
      have ei := impl_shared_ev i
      obtain ⟨g1, _, g3⟩ := shr_le ((nibK p).drop a) a (q :: r) ((8 : Int) - a)
      obtain ⟨n, hn⟩ := Int.eq_ofNat_of_zero_le (g3 (by omega))
      rw [hn] at es ei
      by_cases hpos : 0 < n
      · obtain ⟨hle8, inv⟩ := shr_inv (p := p) (r := q :: r) i hn.symm
        have e1 : wr .i64 (addI (a : Int) (n : Int)) = ((a + n : Nat) : Int) := by rw [addI_d, wr64 (by omega)]; omega
        obtain ⟨x, ⟨hxw, _⟩, xs_, xi⟩ := ih (p :: q :: r) (a + n) inv (by omega)
        obtain ⟨y, hyw, ys, yi⟩ := trieRef_ev x (by omega)
        have hpl := prefixText_le (((nibK p).drop a).take n) false
        have hdl : (((nibK p).drop a).take n).length = n := by rw [List.length_take, List.length_drop, nibK_len hp]; omega
        have c1 : subN (natI ((a + n : Nat) : Int)) (natI (a : Int)) = (((nibK p).drop a).take n).length := by rw [hdl]; show a + n - a = n; omega
        have c2 : cutC ((nibK p).flatMap eI) (mulN (natI (a : Int)) 1) (mulN (((nibK p).drop a).take n).length 1) = (((nibK p).drop a).take n).flatMap eI := by rw [cut_part eI_len, hdl]; rfl
        refine ⟨.mk true ⟨#[]⟩ [.mk false (prefixText (((nibK p).drop a).take n) false).1 [], y], ⟨?_, Or.inl ⟨n, hpos, hn, y, rfl⟩⟩, ?_, ?_⟩
        · rw [wt_eq]
          show 0 + (2 + Tree.wtL [_, _]) ≤ 4000
          rw [wtL_cons, wtL_cons, wtL_nil, wt_eq]
          show 0 + (2 + ((prefixText (((nibK p).drop a).take n) false).1.size + (0 + Tree.wtL []) + (y.wt + 0))) ≤ 4000
          rw [wtL_nil]; omega
        · refine Ev.fn (fun k => F_spec_l19Item k _ _ _) (Ev.f h0 (Ev.f h1 (Ev.c es ?_)))
          simp only [hdV_c, tlV_c, parts1_a, asInt_i, asBool_b, asStr_s, asLen_f, asCells_f, tupL_t, refCells_r, ownLen_o, e1]
          refine Ev.t (ltI_t (by omega)) (Ev.g (inR_n (i := 0) (by simp)) ?_)
          simp only [pc0, asStr_s]
          refine Ev.g rfl (Ev.c (spec_nib hp) ?_)
          simp only [hdV_c, tlV_c, parts1_a, asInt_i, asBool_b, asStr_s, asLen_f, asCells_f, tupL_t, refCells_r, ownLen_o]
          refine Ev.g (inS_t (by omega) (by omega) (by rw [nibK_len hp]; omega)) ?_
          simp only [c1, c2]
          refine Ev.c (spec_PrefixText_ev _ (by omega) false) ?_
          simp only [hdV_c, tlV_c, parts1_a, asInt_i, asBool_b, asStr_s, asLen_f, asCells_f, tupL_t, refCells_r, ownLen_o]
          refine Ev.c (spec_l19Text_ev _) (Ev.c xs_ ?_)
          simp only [aItem, hdV_c, tlV_c, parts1_a, asInt_i, asBool_b, asStr_s, asLen_f, asCells_f, tupL_t, refCells_r, ownLen_o]
          refine Ev.c ys ?_
          simp only [aItem, hdV_c, tlV_c, parts1_a, asInt_i, asBool_b, asStr_s, asLen_f, asCells_f, tupL_t, refCells_r, ownLen_o]
          exact Ev.some_ (by rw [show ∀ b t ks, AV.agg [.bool (Tree.mk b t ks).b, .str (Tree.mk b t ks).t, .fs (Tree.mk b t ks).ks.length ((Tree.mk b t ks).ks.flatMap eItem)] = aItem (.mk b t ks) from fun _ _ _ => rfl, aTwo]; rfl)
        · refine Ev.fn (fun k => F_impl_trieItem k _ _ _) (Ev.f h0 (Ev.g (inR_n (i := 0) (by simp)) ?_))
          simp only [pc0, asStr_s]
          refine Ev.g rfl (Ev.c (impl_nib hp) ?_)
          simp only [hdV_c, tlV_c, parts1_a, asInt_i, asBool_b, asStr_s, asLen_f, asCells_f, tupL_t, refCells_r, ownLen_o]
          refine Ev.g (nibIn hp hle) (Ev.f h1 (Ev.c ei ?_))
          simp only [hdV_c, tlV_c, parts1_a, asInt_i, asBool_b, asStr_s, asLen_f, asCells_f, tupL_t, refCells_r, ownLen_o, e1, nibLen, nibCut]
          have c3 : subN (natI (n : Int)) 0 = (((nibK p).drop a).take n).length := by rw [hdl]; rfl
          have c4 : cutC (((nibK p).drop a).flatMap eI) 0 (mulN (((nibK p).drop a).take n).length 1) = (((nibK p).drop a).take n).flatMap eI := by
            refine (cut_part eI_len ((nibK p).drop a) 0 _).trans ?_
            rw [List.drop_zero, hdl]
          refine Ev.t (ltI_t (by omega)) (Ev.g (inS_t (by omega) (by omega) (by rw [List.length_drop, nibK_len hp]; omega)) ?_)
          simp only [c3, c4]
          refine Ev.c (impl_PrefixText_ev _ (by omega) false) ?_
          simp only [hdV_c, tlV_c, parts1_a, asInt_i, asBool_b, asStr_s, asLen_f, asCells_f, tupL_t, refCells_r, ownLen_o]
          refine Ev.c xi ?_
          simp only [aItem, hdV_c, tlV_c, parts1_a, asInt_i, asBool_b, asStr_s, asLen_f, asCells_f, tupL_t, refCells_r, ownLen_o]
          refine Ev.c yi ?_
          simp only [aItem, hdV_c, tlV_c, parts1_a, asInt_i, asBool_b, asStr_s, asLen_f, asCells_f, tupL_t, refCells_r, ownLen_o]
          exact Ev.some_ (by rw [show ∀ b t ks, AV.agg [.bool (Tree.mk b t ks).b, .str (Tree.mk b t ks).t, .fs (Tree.mk b t ks).ks.length ((Tree.mk b t ks).ks.flatMap eItem)] = aItem (.mk b t ks) from fun _ _ _ => rfl, aTwo]; rfl)
      · have hn0 : n = 0 := by omega
        subst hn0
        have : Inhabited Tree := ⟨emptyTree⟩
        obtain ⟨f, hf⟩ := Go.Deep.choose_lt (n := 16) (p := fun h (y : Tree) => (y.wt ≤ 62 ∧ (filt h a (p :: q :: r) = [] → y = emptyTree) ∧ (filt h a (p :: q :: r) ≠ [] → y.b = true ∨ y.t.size = 32)) ∧ ∃ x : Tree, Does cp n_spec_l19Item [.fs (filt h a (p :: q :: r)).length ((filt h a (p :: q :: r)).flatMap ePair), .int .i64 ((a + 1 : Nat) : Int)] [aItem x] ∧ Does cp n_impl_trieItem [.fs (filt h a (p :: q :: r)).length ((filt h a (p :: q :: r)).flatMap ePair), .int .i64 ((a + 1 : Nat) : Int)] [aItem x] ∧ Does cp n_spec_TrieRef [aItem x] [aItem y] ∧ Does cp n_impl_TrieRef [aItem x] [aItem y]) (fun h _ => by
          obtain ⟨x, ⟨hxw, hsh⟩, xs_, xi⟩ := ih (filt h a (p :: q :: r)) (a + 1) (filt_inv i hlt h) (by omega)
          obtain ⟨y, ⟨hyw, hy1, hy2⟩, ys, yi⟩ := trieRef_sh x (by omega)
          exact ⟨y, ⟨hyw, fun e => hy1 (by rw [e] at hsh; exact hsh), fun e => hy2 (tshape_list hsh e)⟩, x, xs_, xi, ys, yi⟩)
        refine ⟨.mk true ⟨#[]⟩ (kidsT f 16 ++ [emptyTree]), ⟨?_, Or.inr ⟨hn, f, rfl, fun h hh => (hf h hh).1.2⟩⟩, ?_, ?_⟩
        · rw [wt_eq]
          show 0 + ((kidsT f 16 ++ [emptyTree]).length + Tree.wtL (kidsT f 16 ++ [emptyTree])) ≤ 4000
          have := wtL_le 62 (kidsT f 16 ++ [emptyTree]) (fun y hy => by
            rcases List.mem_append.1 hy with hy | hy
            · obtain ⟨h, hh, rfl⟩ := List.mem_map.1 hy
              exact (hf h (by simpa using hh)).1.1
            · rw [List.mem_singleton.1 hy]; decide)
          rw [List.length_append, kidsT_len] at this ⊢
          simp only [List.length_singleton] at this ⊢
          omega
        · refine Ev.fn (fun k => F_spec_l19Item k _ _ _) (Ev.f h0 (Ev.f h1 (Ev.c es ?_)))
          simp only [hdV_c, tlV_c, parts1_a, asInt_i, asBool_b, asStr_s, asLen_f, asCells_f, tupL_t, refCells_r, ownLen_o]
          refine Ev.f (ltI_f (by omega)) ?_
          have loop : ∀ (d h : Nat), h + d = 16 → Ev (fun k m _ _ => L_spec_l19Item_0 k m (p :: q :: r).length ((p :: q :: r).flatMap ePair) (h : Int) (a : Int) true ⟨#[]⟩ (kidsT f h).length false ⟨#[]⟩ 0 ((kidsT f h).flatMap eItem) []) [aItem (.mk true ⟨#[]⟩ (kidsT f 16 ++ [emptyTree]))] := by
            intro d
            induction d with
            | zero =>
              intro h hh
              have : h = 16 := by omega
              subst this
              refine Ev.step (fun k m _ _ => L_spec_l19Item_0_s k m _ _ _ _ _ _ _ _ _ _ _ _) (Ev.f (ltI_f (by omega)) (Ev.c (spec_l19Text_ev _) ?_))
              simp only [hdV_c, tlV_c, parts1_a, asInt_i, asBool_b, asStr_s, asLen_f, asCells_f, tupL_t, refCells_r, ownLen_o, catEmpty, addIt (kidsT f 16) emptyTree]
              simp only [cut_all eItem_len]
              exact Ev.g (fitN_small (by rw [List.length_append, kidsT_len]; decide) (by decide)) (Ev.some_ (by rw [aMany]))
            | succ d ihd =>
              intro h hh
              obtain ⟨_, x, x1, _, x3, _⟩ := hf h (by omega)
              have hn := ihd (h + 1) (by omega)
              rw [← kidsT_succ] at hn
              exact Ev.step (fun k m _ _ => L_spec_l19Item_0_s k m _ _ _ _ _ _ _ _ _ _ _ _) (Ev.t (ltI_t (by omega)) (Ev.l1 (spec_half_l h a (by omega) hlt _ hl i.k (by rw [kidsT_len]; omega) x1 x3 hn (p :: q :: r).length 0 [] (by omega) (Nat.le_refl _) rfl)))
          exact (loop 16 0 rfl).l0
        · refine Ev.fn (fun k => F_impl_trieItem k _ _ _) (Ev.f h0 (Ev.g (inR_n (i := 0) (by simp)) ?_))
          simp only [pc0, asStr_s]
          refine Ev.g rfl (Ev.c (impl_nib hp) ?_)
          simp only [hdV_c, tlV_c, parts1_a, asInt_i, asBool_b, asStr_s, asLen_f, asCells_f, tupL_t, refCells_r, ownLen_o]
          refine Ev.g (nibIn hp hle) (Ev.f h1 (Ev.c ei ?_))
          simp only [hdV_c, tlV_c, parts1_a, asInt_i, asBool_b, asStr_s, asLen_f, asCells_f, tupL_t, refCells_r, ownLen_o]
          refine Ev.f (ltI_f (by omega)) ?_
          have loop : ∀ (d h : Nat), h + d = 16 → Ev (fun k m _ _ => L_impl_trieItem_0 k m (a : Int) (p :: q :: r).length ((p :: q :: r).flatMap ePair) (h : Int) true ⟨#[]⟩ (kidsT f h).length false ⟨#[]⟩ 0 ((kidsT f h).flatMap eItem) []) [aItem (.mk true ⟨#[]⟩ (kidsT f 16 ++ [emptyTree]))] := by
            intro d
            induction d with
            | zero =>
              intro h hh
              have : h = 16 := by omega
              subst this
              refine Ev.step (fun k m _ _ => L_impl_trieItem_0_s k m _ _ _ _ _ _ _ _ _ _ _ _) (Ev.f (ltI_f (by omega)) ?_)
              simp only [catEmpty, addIt (kidsT f 16) emptyTree]
              simp only [cut_all eItem_len]
              exact Ev.g (fitN_small (by rw [List.length_append, kidsT_len]; decide) (by decide)) (Ev.some_ (by rw [aMany]))
            | succ d ihd =>
              intro h hh
              obtain ⟨_, x, _, x2, _, x4⟩ := hf h (by omega)
              have hn := ihd (h + 1) (by omega)
              rw [← kidsT_succ] at hn
              refine Ev.step (fun k m _ _ => L_impl_trieItem_0_s k m _ _ _ _ _ _ _ _ _ _ _ _) (Ev.t (ltI_t (by omega)) (Ev.c (impl_half_ev h a hlt _ hl i.k) ?_))
              simp only [hdV_c, tlV_c, parts1_a, asInt_i, asBool_b, asStr_s, asLen_f, asCells_f, tupL_t, refCells_r, ownLen_o, wrS (show a < 9223372036854775807 by omega), wrS (show h < 9223372036854775807 by omega)]
              refine Ev.c x2 ?_
              simp only [aItem, hdV_c, tlV_c, parts1_a, asInt_i, asBool_b, asStr_s, asLen_f, asCells_f, tupL_t, refCells_r, ownLen_o]
              refine Ev.c x4 ?_
              simp only [aItem, hdV_c, tlV_c, parts1_a, asInt_i, asBool_b, asStr_s, asLen_f, asCells_f, tupL_t, refCells_r, ownLen_o, catIt, addIt (kidsT f h) (f h)]
              exact Ev.g (fitN_small (by rw [List.length_append, kidsT_len]; show h + 1 ≤ _; omega) (by decide)) hn
          exact (loop 16 0 rfl).l0
theorem size0 {t : ByteArray} : t = (⟨#[]⟩ : ByteArray) ↔ t.size = 0 := ⟨fun h => by rw [h]; rfl, fun h => size_zero h⟩
theorem u8div {x : Int} (h : 0 ≤ x ∧ x < 256) : remI (wr .u8 (quoI x 16)) 2 = x / 16 % 2 := by
  rw [quoI_d, tdiv_pos h.1, u8s (by omega), remI_d, tmod_pos (by omega)]
theorem i64mod {x : Int} (h : 0 ≤ x ∧ x < 256) : remI (wr .i64 x) 16 = x % 16 := by rw [wr64 (by omega), remI_d, tmod_pos h.1]
theorem spec_ReadPrefix_ev (t : ByteArray) (ht : t.size ≤ 1000) : Does cp n_spec_ReadPrefix [.str t] [.fs (readPrefix t).1.length ((readPrefix t).1.flatMap eI), .bool (readPrefix t).2.1, .bool (readPrefix t).2.2] := by
  refine Ev.fn (fun k => F_spec_ReadPrefix k _) ?_
  unfold readPrefix
  by_cases h0 : t.size = 0
  · rw [if_pos h0]
    exact Ev.t (eqS_t (size0.2 h0)) (Ev.now _)
  have hs : 0 < t.size := by omega
  have hb := bt0_range hs
  rw [if_neg h0]
  refine Ev.f (eqS_f (fun q => h0 (size0.1 q))) (Ev.g (inR_n (i := 0) (by rw [lenS_d]; omega)) ?_)
  simp only [getS_bt]
  by_cases h1 : 64 ≤ bt t 0
  · rw [if_pos h1]
    exact Ev.t (leI_t (by omega)) (Ev.now _)
  rw [if_neg h1]
  refine Ev.f (leI_f (by omega)) ?_
  by_cases h2 : t.size > 40
  · rw [rpOk_long h2, if_neg (by simp)]
    exact Ev.t (ltI_t (by rw [lenI_c, lenS_d]; omega)) (Ev.now _)
  have hx : subS t 1 (natI (lenI (lenS t))) = t.extract 1 t.size := rfl
  have hxs : (t.extract 1 t.size).size = t.size - 1 := by simp [ByteArray.size_extract]
  have hlen : (rpOut t).length ≤ 1048576 := by have := (rpOut_length t hs).1; omega
  have hinS : inS 1 (lenI (lenS t)) (lenS t) = true := inS_t (by omega) (by rw [lenI_c, lenS_d]; omega) (by rw [lenI_c]; omega)
  have go : Ev (fun k _ _ _ => bnd (evF cp k n_spec_PrefixText [.fs (rpOut t).length ((rpOut t).flatMap eI), .bool (leI 32 (bt t 0))]) (fun r1 => br (notB (AV.asBool (hdV (tlV r1)))) (Option.some [AV.fs 0 (cutC [] 0 0), AV.bool Bool.false, AV.bool Bool.false]) (br (notB (eqS (AV.asStr (hdV r1)) t)) (Option.some [AV.fs 0 (cutC [] 0 0), AV.bool Bool.false, AV.bool Bool.false]) (Option.some [AV.fs (rpOut t).length ((rpOut t).flatMap eI), AV.bool (leI 32 (bt t 0)), AV.bool Bool.true]))))
      [.fs (if rpOk t = true then (rpOut t, rpLeaf t, true) else ([], false, false)).1.length ((if rpOk t = true then (rpOut t, rpLeaf t, true) else ([], false, false)).1.flatMap eI), .bool (if rpOk t = true then (rpOut t, rpLeaf t, true) else ([], false, false)).2.1, .bool (if rpOk t = true then (rpOut t, rpLeaf t, true) else ([], false, false)).2.2] := by
    rw [show leI 32 (bt t 0) = rpLeaf t from rfl]
    refine Ev.c (spec_PrefixText_ev (rpOut t) hlen (rpLeaf t)) ?_
    simp only [hdV_c, tlV_c, parts1_a, asInt_i, asBool_b, asStr_s, asLen_f, asCells_f, tupL_t, refCells_r, ownLen_o]
    by_cases q : rpOk t = true
    · rw [if_pos q]
      unfold rpOk at q
      rw [Bool.and_eq_true, decide_eq_true_eq] at q
      exact Ev.f (by rw [q.1]; rfl) (Ev.f (by rw [eqS_t q.2]; rfl) (Ev.now _))
    · rw [if_neg q]
      unfold rpOk at q
      rw [Bool.and_eq_true, decide_eq_true_eq] at q
      by_cases q1 : (prefixText (rpOut t) (rpLeaf t)).2 = true
      · exact Ev.f (by rw [q1]; rfl) (Ev.t (by rw [eqS_f (fun z => q ⟨q1, z⟩)]; rfl) (Ev.now _))
      · rw [Bool.not_eq_true] at q1
        exact Ev.t (by rw [q1]; rfl) (Ev.now _)
  refine Ev.f (ltI_f (by rw [lenI_c, lenS_d]; omega)) (Ev.g (inR_n (i := 0) (by rw [lenS_d]; omega)) (Ev.g (inR_n (i := 0) (by rw [lenS_d]; omega)) ?_))
  simp only [u8div hb, i64mod hb, hx]
  have en := spec_NibblesOf_ev (t.extract 1 t.size) (by omega)
  have hnl := nibblesOf_length (t.extract 1 t.size)
  have hg : Bool.and (fitN (rpOut t).length 8) (lenEq ((nibblesOf (t.extract 1 t.size)).flatMap eI) (mulN (nibblesOf (t.extract 1 t.size)).length 1)) = true := by
    have h1 := fitN_small hlen (show 8 ≤ 4096 by decide)
    rw [Bool.and_true] at h1
    rw [h1, Bool.true_and, lenEq, encs_len eI_len, mulN_d]
    exact Nat.beq_refl _
  by_cases hodd : bt t 0 / 16 % 2 = 1
  · have e1 : rpOut t = bt t 0 % 16 :: nibblesOf (t.extract 1 t.size) := by unfold rpOut; rw [if_pos hodd]; rfl
    have e2 : addN 1 (nibblesOf (t.extract 1 t.size)).length = (rpOut t).length := by rw [e1, List.length_cons, addN_d, Nat.add_comm]
    have e3 : cutC (catC (cutC (catC (cutC [] 0 0) (cutC [AV.int .i64 (bt t 0 % 16)] 0 1)) 0 1) ((nibblesOf (t.extract 1 t.size)).flatMap eI)) 0 (mulN (rpOut t).length 1) = (rpOut t).flatMap eI := by
      have : catC (cutC (catC (cutC [] 0 0) (cutC [AV.int .i64 (bt t 0 % 16)] 0 1)) 0 1) ((nibblesOf (t.extract 1 t.size)).flatMap eI) = (rpOut t).flatMap eI := by rw [e1]; rfl
      rw [this, cut_all eI_len]
    refine Ev.t (eqI_t hodd) (Ev.g (inR_n (i := 0) (by rw [lenS_d]; omega)) (Ev.g hinS (Ev.c en ?_)))
    simp only [hdV_c, tlV_c, parts1_a, asInt_i, asBool_b, asStr_s, asLen_f, asCells_f, tupL_t, refCells_r, ownLen_o, e2, e3]
    exact Ev.g hg go
  · have e1 : rpOut t = nibblesOf (t.extract 1 t.size) := by unfold rpOut; rw [if_neg hodd]; rfl
    have e2 : addN 0 (nibblesOf (t.extract 1 t.size)).length = (rpOut t).length := by rw [e1, addN_d, Nat.zero_add]
    have e3 : cutC (catC (cutC [] 0 0) ((nibblesOf (t.extract 1 t.size)).flatMap eI)) 0 (mulN (rpOut t).length 1) = (rpOut t).flatMap eI := by
      have : catC (cutC [] 0 0) ((nibblesOf (t.extract 1 t.size)).flatMap eI) = (rpOut t).flatMap eI := by rw [e1]; rfl
      rw [this, cut_all eI_len]
    refine Ev.f (eqI_f hodd) (Ev.g hinS (Ev.c en ?_))
    simp only [hdV_c, tlV_c, parts1_a, asInt_i, asBool_b, asStr_s, asLen_f, asCells_f, tupL_t, refCells_r, ownLen_o, e2, e3]
    exact Ev.g hg go


theorem common_ge : ∀ (x y : List Int) (n : Nat), x.take n = y.take n → n ≤ x.length → n ≤ y.length → (n : Int) ≤ common x y
  | x, y, 0, _, _, _ => (common_le x y).1
  | [], _, n + 1, _, h, _ => by simp at h
  | _ :: _, [], n + 1, _, _, h => by simp at h
  | a :: x, b :: y, n + 1, h, h1, h2 => by
    rw [List.take_succ_cons, List.take_succ_cons, List.cons.injEq] at h
    have := common_ge x y n h.2 (by simpa using h1) (by simpa using h2)
    simp only [common]
    rw [if_pos h.1]
    omega
theorem common_iff {x y : List Int} {n : Nat} (h1 : n ≤ x.length) (h2 : n ≤ y.length) : (n : Int) ≤ common x y ↔ x.take n = y.take n := ⟨common_take x y n, fun h => common_ge x y n h h1 h2⟩
theorem pfx_round (l : List Int) (hr : ∀ x ∈ l, 0 ≤ x ∧ x ≤ 15) (hl : l.length ≤ 64) (leaf : Bool) : readPrefix (prefixText l leaf).1 = (l, leaf, true) := by
  have h : nibblesOk l = true := nibblesOk_iff.2 ⟨hr, hl⟩
  rw [show prefixText l leaf = (EV.strOfNums (prefixNums l leaf), true) by unfold prefixText; rw [if_pos h]]
  exact prefix_round h
theorem next_empty (R : List Int) : ∃ (z : AV) (u st : Int), Does cp n_spec_l19Next [aItem emptyTree, .fs R.length (R.flatMap eI)] [z, .int .i64 u, .int .i64 st] ∧ st ≠ 0 :=
  ⟨_, _, _, Ev.fn (fun k => F_spec_l19Next k ..) (Ev.t rfl (Ev.now _)), by decide⟩
theorem next_two (w : ByteArray) (y : Tree) (l : List Int) (leaf : Bool) (hw : w.size ≤ 1000) (hrd : readPrefix w = (l, leaf, true)) (hl : l.length ≤ 64) (R : List Int) :
    ∃ (z : AV) (u st : Int), Does cp n_spec_l19Next [aItem (.mk true ⟨#[]⟩ [.mk false w [], y]), .fs R.length (R.flatMap eI)] [z, .int .i64 u, .int .i64 st] ∧ (leaf = true → st ≠ 0) ∧ (leaf = false → (common l R < l.length → st ≠ 0) ∧ (¬ common l R < l.length → st = 0 ∧ u = l.length)) := by
  have er := spec_ReadPrefix_ev w hw
  rw [hrd] at er
  simp only at er
  rw [aTwo]
  by_cases hc : common l R < lenI l.length
  · exact ⟨_, _, _, Ev.fn (fun k => F_spec_l19Next k ..) (Ev.f rfl (Ev.f (show eqI (lenI 2) 17 = false by decide) (Ev.f (show notB (eqI (lenI 2) 2) = false by decide) (Ev.g (show inR 0 2 = true by decide) (Ev.g rfl (Ev.f rfl (Ev.g (show inR 0 2 = true by decide) (Ev.g rfl (Ev.c er (Ev.f rfl (Ev.c (spec_Common_ev l R (by omega)) (Ev.t (ltI_t hc) (Ev.now _))))))))))))), fun _ => by decide, fun _ => ⟨fun _ => by decide, fun h => absurd (by rw [lenI_c] at hc; exact hc) h⟩⟩
  have hc' : ¬ common l R < l.length := by rw [lenI_c] at hc; exact hc
  have hle := (common_le l R).2
  cases leaf with
  | true =>
    by_cases hd : common l R < lenI R.length
    · exact ⟨_, _, _, Ev.fn (fun k => F_spec_l19Next k ..) (Ev.f rfl (Ev.f (show eqI (lenI 2) 17 = false by decide) (Ev.f (show notB (eqI (lenI 2) 2) = false by decide) (Ev.g (show inR 0 2 = true by decide) (Ev.g rfl (Ev.f rfl (Ev.g (show inR 0 2 = true by decide) (Ev.g rfl (Ev.c er (Ev.f rfl (Ev.c (spec_Common_ev l R (by omega)) (Ev.f (ltI_f hc) (Ev.t rfl (Ev.t (ltI_t hd) (Ev.now _))))))))))))))), fun _ => by decide, fun h => by cases h⟩
    · cases hb : y.b with
      | true => exact ⟨_, _, _, Ev.fn (fun k => F_spec_l19Next k ..) (Ev.f rfl (Ev.f (show eqI (lenI 2) 17 = false by decide) (Ev.f (show notB (eqI (lenI 2) 2) = false by decide) (Ev.g (show inR 0 2 = true by decide) (Ev.g rfl (Ev.f rfl (Ev.g (show inR 0 2 = true by decide) (Ev.g rfl (Ev.c er (Ev.f rfl (Ev.c (spec_Common_ev l R (by omega)) (Ev.f (ltI_f hc) (Ev.t rfl (Ev.f (ltI_f hd) (Ev.t rfl (Ev.g (show inR 1 2 = true by decide) (Ev.g rfl (Ev.t rfl (Ev.now _))))))))))))))))))), fun _ => by decide, fun h => by cases h⟩
      | false => exact ⟨_, _, _, Ev.fn (fun k => F_spec_l19Next k ..) (Ev.f rfl (Ev.f (show eqI (lenI 2) 17 = false by decide) (Ev.f (show notB (eqI (lenI 2) 2) = false by decide) (Ev.g (show inR 0 2 = true by decide) (Ev.g rfl (Ev.f rfl (Ev.g (show inR 0 2 = true by decide) (Ev.g rfl (Ev.c er (Ev.f rfl (Ev.c (spec_Common_ev l R (by omega)) (Ev.f (ltI_f hc) (Ev.t rfl (Ev.f (ltI_f hd) (Ev.t rfl (Ev.g (show inR 1 2 = true by decide) (Ev.g rfl (Ev.f rfl (Ev.g (show inR 1 2 = true by decide) (Ev.g rfl (Ev.now _))))))))))))))))))))), fun _ => by decide, fun h => by cases h⟩
  | false => exact ⟨_, _, _, Ev.fn (fun k => F_spec_l19Next k ..) (Ev.f rfl (Ev.f (show eqI (lenI 2) 17 = false by decide) (Ev.f (show notB (eqI (lenI 2) 2) = false by decide) (Ev.g (show inR 0 2 = true by decide) (Ev.g rfl (Ev.f rfl (Ev.g (show inR 0 2 = true by decide) (Ev.g rfl (Ev.c er (Ev.f rfl (Ev.c (spec_Common_ev l R (by omega)) (Ev.f (ltI_f hc) (Ev.f rfl (Ev.f rfl (Ev.g (show inR 1 2 = true by decide) (Ev.g rfl (Ev.now _))))))))))))))))), (fun h => by cases h), fun _ => ⟨fun h => absurd h hc', fun _ => ⟨rfl, by show common l R = (l.length : Int); omega⟩⟩⟩
theorem next_many (f : Nat → Tree) (h : Nat) (hh : h < 16) (R : List Int) :
    ∃ (z : AV) (u st : Int), Does cp n_spec_l19Next [aItem (.mk true ⟨#[]⟩ (kidsT f 16 ++ [emptyTree])), .fs ((h : Int) :: R).length (((h : Int) :: R).flatMap eI)] [z, .int .i64 u, .int .i64 st] ∧ (f h = emptyTree → st ≠ 0) ∧ ((f h).b = true ∨ (f h).t.size = 32 → st = 0 ∧ u = 1) := by
  have hkl : (kidsT f 16 ++ [emptyTree]).length = 17 := by rw [List.length_append, kidsT_len]; rfl
  have hlt : h < (kidsT f 16 ++ [emptyTree]).length := by omega
  have hk : (kidsT f 16 ++ [emptyTree])[h] = f h := by
    rw [List.getElem_append_left (by rw [kidsT_len]; exact hh)]
    simp [kidsT]
  have c0 := ci0 hlt
  have c1 := ci1 hlt
  have c2 := ci2 hlt
  rw [hk] at c0 c1 c2
  have ch : cellAt (((h : Int) :: R).flatMap eI) 0 = .int .i64 (h : Int) := rfl
  have e17 : eqI (lenI (kidsT f 16 ++ [emptyTree]).length) 17 = true := by rw [hkl]; decide
  have hne : eqI (lenI ((h : Int) :: R).length) 0 = false := eqI_f (by rw [lenI_c, List.length_cons]; omega)
  suffices q : ∃ (z : AV) (u st : Int), Ev (fun k _ _ _ => evF cp (k + 1) n_spec_l19Next [.agg [.bool true, .str ⟨#[]⟩, .fs (kidsT f 16 ++ [emptyTree]).length ((kidsT f 16 ++ [emptyTree]).flatMap eItem)], .fs ((h : Int) :: R).length (((h : Int) :: R).flatMap eI)]) [z, .int .i64 u, .int .i64 st] ∧ (f h = emptyTree → st ≠ 0) ∧ ((f h).b = true ∨ (f h).t.size = 32 → st = 0 ∧ u = 1) by
    obtain ⟨z, u, st, q1, q2⟩ := q
    exact ⟨z, u, st, Ev.fn (fun _ => rfl) q1, q2⟩
  simp only [F_spec_l19Next, ch, asInt_i, c0, c1, c2, hdV_c, tlV_c, parts1_a, asInt_i, asBool_b, asStr_s, asLen_f, asCells_f, tupL_t, refCells_r, ownLen_o]
  cases hb : (f h).b with
  | true => exact ⟨_, _, _, Ev.f rfl (Ev.t e17 (Ev.f hne (Ev.g (inR_n (i := 0) (by simp)) (Ev.g rfl (Ev.g (inR_n hlt) (Ev.g rfl (Ev.f rfl (Ev.now _)))))))), (fun q => by rw [q] at hb; cases hb), fun _ => ⟨rfl, rfl⟩⟩
  | false =>
    by_cases ht : (f h).t = ByteArray.mk (Array.mk [])
    · exact ⟨_, _, _, Ev.f rfl (Ev.t e17 (Ev.f hne (Ev.g (inR_n (i := 0) (by simp)) (Ev.g rfl (Ev.g (inR_n hlt) (Ev.g rfl (Ev.t rfl (Ev.t (eqS_t ht) (Ev.now _))))))))), fun _ => by decide, fun q => by
        rcases q with q | q
        · cases q
        · rw [ht] at q; cases q⟩
    · exact ⟨_, _, _, Ev.f rfl (Ev.t e17 (Ev.f hne (Ev.g (inR_n (i := 0) (by simp)) (Ev.g rfl (Ev.g (inR_n hlt) (Ev.g rfl (Ev.t rfl (Ev.f (eqS_f ht) (Ev.now _))))))))), fun q => absurd (by rw [q]; rfl) ht, fun _ => ⟨rfl, rfl⟩⟩
theorem catPf (xs : List ByteArray) (s : ByteArray) : catC (cutC (xs.flatMap eS) 0 (mulN xs.length 1)) (cutC [.str s] 0 1) = (xs ++ [s]).flatMap eS := by
  rw [cut_all eS_len, List.flatMap_append]; rfl
theorem addPf (xs : List ByteArray) (s : ByteArray) : addN xs.length 1 = (xs ++ [s]).length := by rw [List.length_append]; rfl
def keepK (K : List Int) (b : Nat) (xs : List TPair) : List TPair := xs.filter fun p => decide ((nibK p).take b = K.take b)
theorem keepK_cons (K : List Int) (b : Nat) (p : TPair) (r : List TPair) : keepK K b (p :: r) = if (nibK p).take b = K.take b then p :: keepK K b r else keepK K b r := by
  unfold keepK
  rw [List.filter_cons]
  by_cases q : (nibK p).take b = K.take b <;> simp [q]
theorem z0 (i : Int) (s : Nat) : addN 0 (mulN (natI i) s) = mulN (natI i) s := by rw [addN_d, Nat.zero_add]
theorem spec_keepa_l (kp : TPair) (hkp : kp.1.size = 4) (xs : List TPair) (hl : xs.length ≤ 12) (hk : ∀ p ∈ xs, p.1.size = 4) (a u : Nat) (hau : a + u ≤ 8) {n5 : Nat} {s9 : Bool} {b1 r : List AV}
    (hr : Ev (fun k m _ _ => L_spec_ProveTrie_0a k m (keepK (nibK kp) (a + u) xs).length ((a + u : Nat) : Int) (nibK kp).length ((nibK kp).flatMap eI) n5 s9 ((keepK (nibK kp) (a + u) xs).flatMap ePair) b1) r) (d : Nat) : ∀ (i : Nat) (ys : List TPair), i + d = xs.length → ys.length ≤ i → ys ++ keepK (nibK kp) (a + u) (xs.drop i) = keepK (nibK kp) (a + u) xs →
    Ev (fun k m p _ => L_spec_ProveTrie_1a k m p xs.length (u : Int) (a : Int) (nibK kp).length ((nibK kp).flatMap eI) n5 s9 (i : Int) ys.length (xs.flatMap ePair) b1 (ys.flatMap ePair)) r := by
  have e8 : wr .i64 (addI (a : Int) (u : Int)) = ((a + u : Nat) : Int) := by rw [addI_d, wr64 (by omega)]; omega
  induction d with
  | zero =>
    intro i ys hi hy hz
    rw [List.drop_eq_nil_of_le (by omega), show keepK (nibK kp) (a + u) [] = [] from rfl, List.append_nil] at hz
    subst hz
    refine Ev.step (fun k m p _ => L_spec_ProveTrie_1a_s k m p _ _ _ _ _ _ _ _ _ _ _ _) (Ev.f (ltI_f (by rw [lenI_c]; omega)) ?_)
    rw [e8]
    exact Ev.o1 hr
  | succ d ih =>
    intro i ys hi hy hz
    have hi' : i < xs.length := by omega
    have hp := hk _ (List.getElem_mem hi')
    rw [List.drop_eq_getElem_cons hi', keepK_cons] at hz
    have hc := common_iff (x := nibK xs[i]) (y := nibK kp) (n := a + u) (by rw [nibK_len hp]; exact hau) (by rw [nibK_len hkp]; exact hau)
    refine Ev.step (fun k m p _ => L_spec_ProveTrie_1a_s k m p _ _ _ _ _ _ _ _ _ _ _ _) (Ev.t (ltI_t (by rw [lenI_c]; omega)) (Ev.g (inR_n hi') ?_))
    simp only [z0, cp0 hi', cp1 hi', asStr_s]
    refine Ev.g rfl (Ev.c (spec_nib hp) ?_)
    simp only [hdV_c, tlV_c, parts1_a, asInt_i, asBool_b, asStr_s, asLen_f, asCells_f, tupL_t, refCells_r, ownLen_o]
    refine Ev.c (spec_Common_ev _ _ (by rw [nibK_len hp]; omega)) ?_
    simp only [hdV_c, tlV_c, parts1_a, asInt_i, asBool_b, asStr_s, asLen_f, asCells_f, tupL_t, refCells_r, ownLen_o, e8, wrS (show i < 9223372036854775807 by omega), catPa, addPa ys xs[i]]
    by_cases q : (nibK xs[i]).take (a + u) = (nibK kp).take (a + u)
    · rw [if_pos q] at hz
      exact Ev.t (leI_t (hc.2 q)) (Ev.g (inR_n hi') (Ev.g rfl (Ev.g (fitN_small (by rw [List.length_append]; show ys.length + 1 ≤ _; omega) (by decide)) (ih (i + 1) (ys ++ [xs[i]]) (by omega) (by rw [List.length_append]; show ys.length + 1 ≤ i + 1; omega) (by rw [List.append_assoc, List.singleton_append]; exact hz)))))
    · rw [if_neg q] at hz
      exact Ev.f (leI_f (by have := fun z => q (hc.1 z); omega)) (ih (i + 1) ys (by omega) (by omega) hz)
theorem spec_keep_l (kp : TPair) (hkp : kp.1.size = 4) (xs : List TPair) (hl : xs.length ≤ 12) (hk : ∀ p ∈ xs, p.1.size = 4) (a u : Nat) (hau : a + u ≤ 8) {n5 : Nat} {s9 : Bool} {b1 r : List AV}
    (hr : Ev (fun k m _ _ => L_spec_ProveTrie_0a k m (keepK (nibK kp) (a + u) xs).length ((a + u : Nat) : Int) (nibK kp).length ((nibK kp).flatMap eI) n5 s9 ((keepK (nibK kp) (a + u) xs).flatMap ePair) b1) r) (d : Nat) : ∀ (i : Nat) (ys : List TPair), i + d = xs.length → ys.length ≤ i → ys ++ keepK (nibK kp) (a + u) (xs.drop i) = keepK (nibK kp) (a + u) xs →
    Ev (fun k m p _ => L_spec_ProveTrie_1 k m p xs.length (xs.flatMap ePair) (u : Int) (a : Int) (nibK kp).length ((nibK kp).flatMap eI) n5 s9 (i : Int) ys.length b1 (ys.flatMap ePair)) r := by
  have e8 : wr .i64 (addI (a : Int) (u : Int)) = ((a + u : Nat) : Int) := by rw [addI_d, wr64 (by omega)]; omega
  induction d with
  | zero =>
    intro i ys hi hy hz
    rw [List.drop_eq_nil_of_le (by omega), show keepK (nibK kp) (a + u) [] = [] from rfl, List.append_nil] at hz
    subst hz
    refine Ev.step (fun k m p _ => L_spec_ProveTrie_1_s k m p _ _ _ _ _ _ _ _ _ _ _ _) (Ev.f (ltI_f (by rw [lenI_c]; omega)) ?_)
    rw [e8]
    exact Ev.o1 hr
  | succ d ih =>
    intro i ys hi hy hz
    have hi' : i < xs.length := by omega
    have hp := hk _ (List.getElem_mem hi')
    rw [List.drop_eq_getElem_cons hi', keepK_cons] at hz
    have hc := common_iff (x := nibK xs[i]) (y := nibK kp) (n := a + u) (by rw [nibK_len hp]; exact hau) (by rw [nibK_len hkp]; exact hau)
    refine Ev.step (fun k m p _ => L_spec_ProveTrie_1_s k m p _ _ _ _ _ _ _ _ _ _ _ _) (Ev.t (ltI_t (by rw [lenI_c]; omega)) (Ev.g (inR_n hi') ?_))
    simp only [z0, cp0 hi', cp1 hi', asStr_s]
    refine Ev.g rfl (Ev.c (spec_nib hp) ?_)
    simp only [hdV_c, tlV_c, parts1_a, asInt_i, asBool_b, asStr_s, asLen_f, asCells_f, tupL_t, refCells_r, ownLen_o]
    refine Ev.c (spec_Common_ev _ _ (by rw [nibK_len hp]; omega)) ?_
    simp only [hdV_c, tlV_c, parts1_a, asInt_i, asBool_b, asStr_s, asLen_f, asCells_f, tupL_t, refCells_r, ownLen_o, e8, wrS (show i < 9223372036854775807 by omega), catPa, addPa ys xs[i]]
    by_cases q : (nibK xs[i]).take (a + u) = (nibK kp).take (a + u)
    · rw [if_pos q] at hz
      exact Ev.t (leI_t (hc.2 q)) (Ev.g (inR_n hi') (Ev.g rfl (Ev.g (fitN_small (by rw [List.length_append]; show ys.length + 1 ≤ _; omega) (by decide)) (ih (i + 1) (ys ++ [xs[i]]) (by omega) (by rw [List.length_append]; show ys.length + 1 ≤ i + 1; omega) (by rw [List.append_assoc, List.singleton_append]; exact hz)))))
    · rw [if_neg q] at hz
      exact Ev.f (leI_f (by have := fun z => q (hc.1 z); omega)) (ih (i + 1) ys (by omega) (by omega) hz)


theorem empty_text : ∃ r : ByteArray, r.size < 32 ∧ ∃ o : Bool, Does cp n_impl_ItemText [aItem emptyTree] [.str r, .bool o] := by
  obtain ⟨r, hr, _, ei⟩ := spec_ItemText_ev emptyTree (by decide)
  refine ⟨r.1, ?_, r.2, ei⟩
  rw [hr]
  split
  · exact empty_txt
  · decide
/-- No pairs: what there is comes back. -/
theorem impl_prove_nil (kp : TPair) (a : Int) (acc : List ByteArray) : Does cp n_impl_proveFrom [.tup [.ref true 9 (acc.flatMap eS)], .own 0 0 acc.length, .fs ([] : List TPair).length (([] : List TPair).flatMap ePair), .fs (nibK kp).length ((nibK kp).flatMap eI), .int .i64 a, .bool false] [.tup [.any, .ref true 9 (acc.flatMap eS)], .own 1 0 acc.length] := by
  obtain ⟨r, hr, o, e⟩ := empty_text
  refine Ev.fn (fun k => F_impl_proveFrom_b k ..) (Ev.c (s := [aItem emptyTree]) (Ev.fn (fun k => F_impl_trieItem k _ _ _) (Ev.t rfl (Ev.now _))) ?_)
  simp only [aItem, hdV_c, tlV_c, parts1_a, asInt_i, asBool_b, asStr_s, asLen_f, asCells_f, tupL_t, refCells_r, ownLen_o]
  refine Ev.c e ?_
  simp only [hdV_c, tlV_c, parts1_a, asInt_i, asBool_b, asStr_s, asLen_f, asCells_f, tupL_t, refCells_r, ownLen_o]
  exact Ev.f rfl (Ev.f (ltI_f (by rw [lenI_c, lenS_d]; omega)) (Ev.t rfl (Ev.now _)))
theorem drop_cons_nib {kp : TPair} (hkp : kp.1.size = 4) {a : Nat} (ha : a < 8) : ∃ h : Nat, h < 16 ∧ (nibK kp).drop a = (h : Int) :: (nibK kp).drop (a + 1) ∧ nthI (nibK kp) a = (h : Int) := by
  have hl : a < (nibK kp).length := by rw [nibK_len hkp]; exact ha
  have hr := nibblesOf_range kp.1 (nibK kp)[a] (List.getElem_mem hl)
  obtain ⟨h, hh⟩ := Int.eq_ofNat_of_zero_le hr.1
  refine ⟨h, by omega, ?_, ?_⟩
  · rw [List.drop_eq_getElem_cons hl, hh]
  · unfold nthI
    rw [List.getD_eq_getElem?_getD, List.getElem?_eq_getElem hl]
    exact hh
theorem keep_all {kp : TPair} {xs : List TPair} {b : Nat} (h : ∀ p ∈ xs, (nibK p).take b = (nibK kp).take b) : keepK (nibK kp) b xs = xs := by
  unfold keepK
  rw [List.filter_eq_self]
  intro p hp
  exact decide_eq_true (h p hp)
theorem take_nth {l m : List Int} {a : Nat} (hl : a < l.length) (hm : a < m.length) (h : l.take a = m.take a) : l.take (a + 1) = m.take (a + 1) ↔ nthI l a = nthI m a := by
  rw [List.take_add_one, List.take_add_one, h]
  unfold nthI
  rw [List.getD_eq_getElem?_getD, List.getD_eq_getElem?_getD, List.getElem?_eq_getElem hl, List.getElem?_eq_getElem hm]
  constructor
  · intro q
    exact (List.cons.inj (List.append_cancel_left q)).1
  · intro q
    have q' : l[a] = m[a] := q
    rw [q']
theorem lt_of_nle {a b : Int} (h : ¬ b ≤ a) : a < b := by omega
theorem keep_filt {kp : TPair} (hkp : kp.1.size = 4) {xs : List TPair} {a : Nat} (ha : a < 8) (hk : ∀ p ∈ xs, p.1.size = 4) (hi : ∀ p ∈ xs, (nibK p).take a = (nibK kp).take a) {h : Nat} (hh : nthI (nibK kp) a = (h : Int)) : keepK (nibK kp) (a + 1) xs = filt h a xs := by
  unfold keepK filt
  apply List.filter_congr
  intro p hp
  rw [decide_eq_decide, take_nth (by rw [nibK_len (hk p hp)]; exact ha) (by rw [nibK_len hkp]; exact ha) (hi p hp), hh]
theorem filt_nil_take {kp : TPair} (hkp : kp.1.size = 4) {xs : List TPair} {a : Nat} (ha : a < 8) (hk : ∀ p ∈ xs, p.1.size = 4) (hi : ∀ p ∈ xs, (nibK p).take a = (nibK kp).take a) {h : Nat} (hh : nthI (nibK kp) a = (h : Int)) : ∀ p ∈ filt h a xs, (nibK p).take (a + 1) = (nibK kp).take (a + 1) := by
  rw [← keep_filt hkp ha hk hi hh]
  intro p hp
  exact of_decide_eq_true (List.mem_filter.1 hp).2
theorem leaf_round {p : TPair} (hp : p.1.size = 4) (a n : Nat) (leaf : Bool) : readPrefix (prefixText (((nibK p).drop a).take n) leaf).1 = (((nibK p).drop a).take n, leaf, true) ∧ (prefixText (((nibK p).drop a).take n) leaf).1.size ≤ 1000 ∧ (((nibK p).drop a).take n).length ≤ 8 := by
  have hl : (((nibK p).drop a).take n).length ≤ 8 := by rw [List.length_take, List.length_drop, nibK_len hp]; omega
  refine ⟨pfx_round _ (fun x hx => nibblesOf_range p.1 x (List.mem_of_mem_drop (List.mem_of_mem_take hx))) (Nat.le_trans hl (by decide)) leaf, ?_, hl⟩
  have := prefixText_le (((nibK p).drop a).take n) leaf
  omega
theorem prove_ev (kp : TPair) (hkp : kp.1.size = 4) : ∀ (fuel : Nat) (xs : List TPair) (a : Nat), PInv xs a → (∀ p ∈ xs, (nibK p).take a = (nibK kp).take a) → 9 - a ≤ fuel → ∀ acc : List ByteArray, acc.length + fuel ≤ 900 →
    ∃ res : List ByteArray, res.length ≤ 900 ∧ Ev (fun k m _ _ => L_spec_ProveTrie_0a k m xs.length (a : Int) (nibK kp).length ((nibK kp).flatMap eI) acc.length false (xs.flatMap ePair) (acc.flatMap eS)) [.fs res.length (res.flatMap eS)] ∧ Does cp n_impl_proveFrom [.tup [.ref true 9 (acc.flatMap eS)], .own 0 0 acc.length, .fs xs.length (xs.flatMap ePair), .fs (nibK kp).length ((nibK kp).flatMap eI), .int .i64 (a : Int), .bool false] [.tup [.any, .ref true 9 (res.flatMap eS)], .own 1 0 res.length] := by
  intro fuel
  induction fuel with
  | zero => intro xs a i hi hf; have := i.le; omega
  | succ fuel ih =>
    intro xs a i hi hf acc hacc
    have hle := i.le
    obtain ⟨t, ⟨tw, sh⟩, es, ei⟩ := trie_sh 9 xs a i (by omega)
    obtain ⟨r, hr, us, ui⟩ := spec_ItemText_ev t (by omega)
    by_cases hbig : 32 ≤ r.1.size
    · clear hr
      match xs, i, hi, sh, es, ei with
      | [], i, hi, sh, es, ei =>
        subst sh
        obtain ⟨z, u, st, en, hst⟩ := next_empty ((nibK kp).drop a)
        refine ⟨(acc ++ [r.1]), by rw [List.length_append]; show acc.length + 1 ≤ _; omega, ?_, ?_⟩
        · refine Ev.step (fun k m _ _ => L_spec_ProveTrie_0a_s k m _ _ _ _ _ _ _ _) ?_
          simp only [cut_all ePair_len, hdV_c, tlV_c, parts1_a, asInt_i, asBool_b, asStr_s, asLen_f, asCells_f, tupL_t, refCells_r, ownLen_o]
          refine Ev.c es ?_
          simp only [aItem, hdV_c, tlV_c, parts1_a, asInt_i, asBool_b, asStr_s, asLen_f, asCells_f, tupL_t, refCells_r, ownLen_o]
          refine Ev.c us ?_
          simp only [hdV_c, tlV_c, parts1_a, asInt_i, asBool_b, asStr_s, asLen_f, asCells_f, tupL_t, refCells_r, ownLen_o, nibLen, nibCut, catPf, addPf acc r.1]
          refine Ev.f rfl (Ev.t (leI_t (by rw [lenI_c, lenS_d]; omega)) (Ev.g (fitN_small (by rw [List.length_append]; show acc.length + 1 ≤ _; omega) (by decide)) (Ev.g (nibIn hkp i.le) ?_)))
          refine Ev.c en ?_
          simp only [hdV_c, tlV_c, parts1_a, asInt_i, asBool_b, asStr_s, asLen_f, asCells_f, tupL_t, refCells_r, ownLen_o]
          exact Ev.t (by rw [eqI_f hst]; rfl) (Ev.some_ (by rw [cut_all eS_len]))
        · refine Ev.fn (fun k => F_impl_proveFrom_b k ..) (Ev.c ei ?_)
          simp only [aItem, hdV_c, tlV_c, parts1_a, asInt_i, asBool_b, asStr_s, asLen_f, asCells_f, tupL_t, refCells_r, ownLen_o]
          refine Ev.c ui ?_
          simp only [hdV_c, tlV_c, parts1_a, asInt_i, asBool_b, asStr_s, asLen_f, asCells_f, tupL_t, refCells_r, ownLen_o, catPf, addPf acc r.1]
          refine Ev.f rfl (Ev.t (ltI_t (by rw [lenI_c, lenS_d]; omega)) (Ev.g (fitN_small (by rw [List.length_append]; show acc.length + 1 ≤ _; omega) (by decide)) ?_))
          exact Ev.t rfl (Ev.now _)
      | [p], i, hi, sh, es, ei =>
        have hp := i.k p (by simp)
        obtain ⟨z, u, st, en, hs1, _⟩ := next_two _ (.mk false p.2 []) _ true (leaf_round hp a 8 true).2.1 (leaf_round hp a 8 true).1 (by have := (leaf_round hp a 8 true).2.2; omega) ((nibK kp).drop a)
        have hst := hs1 rfl
        rw [List.take_of_length_le (by rw [List.length_drop, nibK_len hp]; omega)] at en
        rw [show (Tree.mk true ⟨#[]⟩ [.mk false (prefixText ((nibK p).drop a) true).1 [], .mk false p.2 []]) = t from sh.symm] at en
        refine ⟨(acc ++ [r.1]), by rw [List.length_append]; show acc.length + 1 ≤ _; omega, ?_, ?_⟩
        · refine Ev.step (fun k m _ _ => L_spec_ProveTrie_0a_s k m _ _ _ _ _ _ _ _) ?_
          simp only [cut_all ePair_len, hdV_c, tlV_c, parts1_a, asInt_i, asBool_b, asStr_s, asLen_f, asCells_f, tupL_t, refCells_r, ownLen_o]
          refine Ev.c es ?_
          simp only [aItem, hdV_c, tlV_c, parts1_a, asInt_i, asBool_b, asStr_s, asLen_f, asCells_f, tupL_t, refCells_r, ownLen_o]
          refine Ev.c us ?_
          simp only [hdV_c, tlV_c, parts1_a, asInt_i, asBool_b, asStr_s, asLen_f, asCells_f, tupL_t, refCells_r, ownLen_o, nibLen, nibCut, catPf, addPf acc r.1]
          refine Ev.f rfl (Ev.t (leI_t (by rw [lenI_c, lenS_d]; omega)) (Ev.g (fitN_small (by rw [List.length_append]; show acc.length + 1 ≤ _; omega) (by decide)) (Ev.g (nibIn hkp i.le) ?_)))
          refine Ev.c en ?_
          simp only [hdV_c, tlV_c, parts1_a, asInt_i, asBool_b, asStr_s, asLen_f, asCells_f, tupL_t, refCells_r, ownLen_o]
          exact Ev.t (by rw [eqI_f hst]; rfl) (Ev.some_ (by rw [cut_all eS_len]))
        · refine Ev.fn (fun k => F_impl_proveFrom_b k ..) (Ev.c ei ?_)
          simp only [aItem, hdV_c, tlV_c, parts1_a, asInt_i, asBool_b, asStr_s, asLen_f, asCells_f, tupL_t, refCells_r, ownLen_o]
          refine Ev.c ui ?_
          simp only [hdV_c, tlV_c, parts1_a, asInt_i, asBool_b, asStr_s, asLen_f, asCells_f, tupL_t, refCells_r, ownLen_o, catPf, addPf acc r.1]
          refine Ev.f rfl (Ev.t (ltI_t (by rw [lenI_c, lenS_d]; omega)) (Ev.g (fitN_small (by rw [List.length_append]; show acc.length + 1 ≤ _; omega) (by decide)) ?_))
          exact Ev.t rfl (Ev.now _)
      | p :: q :: s, i, hi, sh, es, ei =>
        have hp := i.k p (by simp)
        have ha := pinv_lt i
        have h2 : ltI (lenI (p :: q :: s).length) 2 = false := ltI_f (by rw [lenI_c, List.length_cons, List.length_cons]; omega)
        have esh := impl_shared_ev i
        rcases sh with ⟨n, hn0, hn, y, rfl⟩ | ⟨hn, f, rfl, hf⟩
        · rw [hn] at esh
          obtain ⟨han, inv⟩ := shr_inv (p := p) (r := q :: s) i hn.symm
          obtain ⟨w1, w2, w3⟩ := leaf_round hp a n false
          obtain ⟨z, u, st, en, _, hs2⟩ := next_two _ y _ false w2 w1 (by omega) ((nibK kp).drop a)
          have hs3 := hs2 rfl
          have wl : (((nibK p).drop a).take n).length = n := by rw [List.length_take, List.length_drop, nibK_len hp]; omega
          rw [wl] at hs3
          have hc1 := common_iff (x := ((nibK p).drop a).take n) (y := (nibK kp).drop a) (n := n) (by omega) (by rw [List.length_drop, nibK_len hkp]; omega)
          have hc2 := common_iff (x := (nibK kp).drop a) (y := (nibK p).drop a) (n := n) (by rw [List.length_drop, nibK_len hkp]; omega) (by rw [List.length_drop, nibK_len hp]; omega)
          rw [List.take_take, Nat.min_self] at hc1
          have e1 : wr .i64 (addI (a : Int) (n : Int)) = ((a + n : Nat) : Int) := by rw [addI_d, wr64 (by omega)]; omega
          by_cases hm : ((nibK p).drop a).take n = ((nibK kp).drop a).take n
          · obtain ⟨hst, hu⟩ := hs3.2 (by have := hc1.2 hm; omega)
            subst hst
            subst hu
            have hall : ∀ t ∈ p :: q :: s, (nibK t).take (a + n) = (nibK kp).take (a + n) := fun t ht => by
              rw [inv.s t ht p (by simp), List.take_add, List.take_add, hi p (by simp), hm]
            obtain ⟨res, hb, rs, ri⟩ := ih (p :: q :: s) (a + n) inv hall (by omega) (acc ++ [r.1]) (by rw [List.length_append]; show acc.length + 1 + _ ≤ _; omega)
            refine ⟨res, hb, ?_, ?_⟩
            · refine Ev.step (fun k m _ _ => L_spec_ProveTrie_0a_s k m _ _ _ _ _ _ _ _) ?_
              simp only [cut_all ePair_len, hdV_c, tlV_c, parts1_a, asInt_i, asBool_b, asStr_s, asLen_f, asCells_f, tupL_t, refCells_r, ownLen_o]
              refine Ev.c es ?_
              simp only [aItem, hdV_c, tlV_c, parts1_a, asInt_i, asBool_b, asStr_s, asLen_f, asCells_f, tupL_t, refCells_r, ownLen_o]
              refine Ev.c us ?_
              simp only [hdV_c, tlV_c, parts1_a, asInt_i, asBool_b, asStr_s, asLen_f, asCells_f, tupL_t, refCells_r, ownLen_o, nibLen, nibCut, catPf, addPf acc r.1]
              refine Ev.f rfl (Ev.t (leI_t (by rw [lenI_c, lenS_d]; omega)) (Ev.g (fitN_small (by rw [List.length_append]; show acc.length + 1 ≤ _; omega) (by decide)) (Ev.g (nibIn hkp i.le) ?_)))
              refine Ev.c en ?_
              simp only [hdV_c, tlV_c, parts1_a, asInt_i, asBool_b, asStr_s, asLen_f, asCells_f, tupL_t, refCells_r, ownLen_o]
              refine Ev.f rfl (Ev.l1 (spec_keepa_l kp hkp (p :: q :: s) i.n i.k a n han (r := _) ?_ (p :: q :: s).length 0 [] (by omega) (Nat.le_refl _) rfl))
              rw [keep_all hall]
              exact rs
            · refine Ev.fn (fun k => F_impl_proveFrom_b k ..) (Ev.c ei ?_)
              simp only [aItem, hdV_c, tlV_c, parts1_a, asInt_i, asBool_b, asStr_s, asLen_f, asCells_f, tupL_t, refCells_r, ownLen_o]
              refine Ev.c ui ?_
              simp only [hdV_c, tlV_c, parts1_a, asInt_i, asBool_b, asStr_s, asLen_f, asCells_f, tupL_t, refCells_r, ownLen_o, catPf, addPf acc r.1]
              refine Ev.f rfl (Ev.t (ltI_t (by rw [lenI_c, lenS_d]; omega)) (Ev.g (fitN_small (by rw [List.length_append]; show acc.length + 1 ≤ _; omega) (by decide)) ?_))
              refine Ev.f h2 (Ev.c esh (Ev.f (eqI_f (by simp only [hdV_c, tlV_c, parts1_a, asInt_i, asBool_b, asStr_s, asLen_f, asCells_f, tupL_t, refCells_r, ownLen_o]; omega)) (Ev.g (nibIn hkp i.le) (Ev.g (inR_n (i := 0) (by simp)) ?_))))
              simp only [pc0, asStr_s]
              refine Ev.g rfl (Ev.c (impl_nib hp) ?_)
              simp only [hdV_c, tlV_c, parts1_a, asInt_i, asBool_b, asStr_s, asLen_f, asCells_f, tupL_t, refCells_r, ownLen_o, nibLen, nibCut, e1]
              refine Ev.g (nibIn hp i.le) (Ev.c (impl_Common_ev _ _ (drop_le8 hkp a)) (Ev.f (ltI_f (by simp only [hdV_c, tlV_c, parts1_a, asInt_i, asBool_b, asStr_s, asLen_f, asCells_f, tupL_t, refCells_r, ownLen_o]; have := hc2.2 hm.symm; omega)) (Ev.c ri (Ev.g rfl ?_))))
              simp only [hdV_c, tlV_c, parts1_a, asInt_i, asBool_b, asStr_s, asLen_f, asCells_f, tupL_t, refCells_r, ownLen_o]
              exact Ev.now _
          · have hst := hs3.1 (lt_of_nle (fun x => hm (hc1.1 x)))
            refine ⟨(acc ++ [r.1]), by rw [List.length_append]; show acc.length + 1 ≤ _; omega, ?_, ?_⟩
            · refine Ev.step (fun k m _ _ => L_spec_ProveTrie_0a_s k m _ _ _ _ _ _ _ _) ?_
              simp only [cut_all ePair_len, hdV_c, tlV_c, parts1_a, asInt_i, asBool_b, asStr_s, asLen_f, asCells_f, tupL_t, refCells_r, ownLen_o]
              refine Ev.c es ?_
              simp only [aItem, hdV_c, tlV_c, parts1_a, asInt_i, asBool_b, asStr_s, asLen_f, asCells_f, tupL_t, refCells_r, ownLen_o]
              refine Ev.c us ?_
              simp only [hdV_c, tlV_c, parts1_a, asInt_i, asBool_b, asStr_s, asLen_f, asCells_f, tupL_t, refCells_r, ownLen_o, nibLen, nibCut, catPf, addPf acc r.1]
              refine Ev.f rfl (Ev.t (leI_t (by rw [lenI_c, lenS_d]; omega)) (Ev.g (fitN_small (by rw [List.length_append]; show acc.length + 1 ≤ _; omega) (by decide)) (Ev.g (nibIn hkp i.le) ?_)))
              refine Ev.c en ?_
              simp only [hdV_c, tlV_c, parts1_a, asInt_i, asBool_b, asStr_s, asLen_f, asCells_f, tupL_t, refCells_r, ownLen_o]
              exact Ev.t (by rw [eqI_f hst]; rfl) (Ev.some_ (by rw [cut_all eS_len]))
            · refine Ev.fn (fun k => F_impl_proveFrom_b k ..) (Ev.c ei ?_)
              simp only [aItem, hdV_c, tlV_c, parts1_a, asInt_i, asBool_b, asStr_s, asLen_f, asCells_f, tupL_t, refCells_r, ownLen_o]
              refine Ev.c ui ?_
              simp only [hdV_c, tlV_c, parts1_a, asInt_i, asBool_b, asStr_s, asLen_f, asCells_f, tupL_t, refCells_r, ownLen_o, catPf, addPf acc r.1]
              refine Ev.f rfl (Ev.t (ltI_t (by rw [lenI_c, lenS_d]; omega)) (Ev.g (fitN_small (by rw [List.length_append]; show acc.length + 1 ≤ _; omega) (by decide)) ?_))
              refine Ev.f h2 (Ev.c esh (Ev.f (eqI_f (by simp only [hdV_c, tlV_c, parts1_a, asInt_i, asBool_b, asStr_s, asLen_f, asCells_f, tupL_t, refCells_r, ownLen_o]; omega)) (Ev.g (nibIn hkp i.le) (Ev.g (inR_n (i := 0) (by simp)) ?_))))
              simp only [pc0, asStr_s]
              refine Ev.g rfl (Ev.c (impl_nib hp) ?_)
              simp only [hdV_c, tlV_c, parts1_a, asInt_i, asBool_b, asStr_s, asLen_f, asCells_f, tupL_t, refCells_r, ownLen_o, nibLen, nibCut, e1]
              exact Ev.g (nibIn hp i.le) (Ev.c (impl_Common_ev _ _ (drop_le8 hkp a)) (Ev.t (ltI_t (lt_of_nle (fun x => hm (hc2.1 x).symm))) (Ev.now _)))
        · rw [hn] at esh
          obtain ⟨h, h16, hd, hh⟩ := drop_cons_nib hkp ha
          obtain ⟨z, u, st, en, hs1, hs2⟩ := next_many f h h16 ((nibK kp).drop (a + 1))
          rw [← hd] at en
          have e1 : wr .i64 (addI (a : Int) 1) = ((a + 1 : Nat) : Int) := wrS (by omega)
          have cK : cellAt ((nibK kp).flatMap eI) (mulN (natI (a : Int)) 1) = .int .i64 (h : Int) := by rw [nibAt hkp ha, hh]
          have eh := impl_half_ev h a ha (p :: q :: s) i.n i.k
          by_cases hm : filt h a (p :: q :: s) = []
          · have hst := hs1 ((hf h h16).1 hm)
            rw [hm] at eh
            refine ⟨(acc ++ [r.1]), by rw [List.length_append]; show acc.length + 1 ≤ _; omega, ?_, ?_⟩
            · refine Ev.step (fun k m _ _ => L_spec_ProveTrie_0a_s k m _ _ _ _ _ _ _ _) ?_
              simp only [cut_all ePair_len, hdV_c, tlV_c, parts1_a, asInt_i, asBool_b, asStr_s, asLen_f, asCells_f, tupL_t, refCells_r, ownLen_o]
              refine Ev.c es ?_
              simp only [aItem, hdV_c, tlV_c, parts1_a, asInt_i, asBool_b, asStr_s, asLen_f, asCells_f, tupL_t, refCells_r, ownLen_o]
              refine Ev.c us ?_
              simp only [hdV_c, tlV_c, parts1_a, asInt_i, asBool_b, asStr_s, asLen_f, asCells_f, tupL_t, refCells_r, ownLen_o, nibLen, nibCut, catPf, addPf acc r.1]
              refine Ev.f rfl (Ev.t (leI_t (by rw [lenI_c, lenS_d]; omega)) (Ev.g (fitN_small (by rw [List.length_append]; show acc.length + 1 ≤ _; omega) (by decide)) (Ev.g (nibIn hkp i.le) ?_)))
              refine Ev.c en ?_
              simp only [hdV_c, tlV_c, parts1_a, asInt_i, asBool_b, asStr_s, asLen_f, asCells_f, tupL_t, refCells_r, ownLen_o]
              exact Ev.t (by rw [eqI_f hst]; rfl) (Ev.some_ (by rw [cut_all eS_len]))
            · refine Ev.fn (fun k => F_impl_proveFrom_b k ..) (Ev.c ei ?_)
              simp only [aItem, hdV_c, tlV_c, parts1_a, asInt_i, asBool_b, asStr_s, asLen_f, asCells_f, tupL_t, refCells_r, ownLen_o]
              refine Ev.c ui ?_
              simp only [hdV_c, tlV_c, parts1_a, asInt_i, asBool_b, asStr_s, asLen_f, asCells_f, tupL_t, refCells_r, ownLen_o, catPf, addPf acc r.1]
              refine Ev.f rfl (Ev.t (ltI_t (by rw [lenI_c, lenS_d]; omega)) (Ev.g (fitN_small (by rw [List.length_append]; show acc.length + 1 ≤ _; omega) (by decide)) ?_))
              refine Ev.f h2 (Ev.c esh (Ev.t (eqI_t (by simp only [hdV_c, tlV_c, parts1_a, asInt_i, asBool_b, asStr_s, asLen_f, asCells_f, tupL_t, refCells_r, ownLen_o]; rfl)) (Ev.g (inR_n (by rw [nibK_len hkp]; exact ha)) ?_)))
              simp only [cK, hdV_c, tlV_c, parts1_a, asInt_i, asBool_b, asStr_s, asLen_f, asCells_f, tupL_t, refCells_r, ownLen_o]
              refine Ev.g rfl (Ev.c eh ?_)
              simp only [hdV_c, tlV_c, parts1_a, asInt_i, asBool_b, asStr_s, asLen_f, asCells_f, tupL_t, refCells_r, ownLen_o, e1]
              refine Ev.c (impl_prove_nil kp ((a + 1 : Nat) : Int) (acc ++ [r.1])) (Ev.g rfl ?_)
              simp only [hdV_c, tlV_c, parts1_a, asInt_i, asBool_b, asStr_s, asLen_f, asCells_f, tupL_t, refCells_r, ownLen_o]
              exact Ev.now _
          · obtain ⟨hst, hu⟩ := hs2 ((hf h h16).2 hm)
            subst hst
            subst hu
            obtain ⟨res, hb, rs, ri⟩ := ih (filt h a (p :: q :: s)) (a + 1) (filt_inv i ha h) (filt_nil_take hkp ha i.k hi hh) (by omega) (acc ++ [r.1]) (by rw [List.length_append]; show acc.length + 1 + _ ≤ _; omega)
            refine ⟨res, hb, ?_, ?_⟩
            · refine Ev.step (fun k m _ _ => L_spec_ProveTrie_0a_s k m _ _ _ _ _ _ _ _) ?_
              simp only [cut_all ePair_len, hdV_c, tlV_c, parts1_a, asInt_i, asBool_b, asStr_s, asLen_f, asCells_f, tupL_t, refCells_r, ownLen_o]
              refine Ev.c es ?_
              simp only [aItem, hdV_c, tlV_c, parts1_a, asInt_i, asBool_b, asStr_s, asLen_f, asCells_f, tupL_t, refCells_r, ownLen_o]
              refine Ev.c us ?_
              simp only [hdV_c, tlV_c, parts1_a, asInt_i, asBool_b, asStr_s, asLen_f, asCells_f, tupL_t, refCells_r, ownLen_o, nibLen, nibCut, catPf, addPf acc r.1]
              refine Ev.f rfl (Ev.t (leI_t (by rw [lenI_c, lenS_d]; omega)) (Ev.g (fitN_small (by rw [List.length_append]; show acc.length + 1 ≤ _; omega) (by decide)) (Ev.g (nibIn hkp i.le) ?_)))
              refine Ev.c en ?_
              simp only [hdV_c, tlV_c, parts1_a, asInt_i, asBool_b, asStr_s, asLen_f, asCells_f, tupL_t, refCells_r, ownLen_o]
              refine Ev.f rfl (Ev.l1 (spec_keepa_l kp hkp (p :: q :: s) i.n i.k a 1 (by omega) (r := _) ?_ (p :: q :: s).length 0 [] (by omega) (Nat.le_refl _) rfl))
              rw [keep_filt hkp ha i.k hi hh]
              exact rs
            · refine Ev.fn (fun k => F_impl_proveFrom_b k ..) (Ev.c ei ?_)
              simp only [aItem, hdV_c, tlV_c, parts1_a, asInt_i, asBool_b, asStr_s, asLen_f, asCells_f, tupL_t, refCells_r, ownLen_o]
              refine Ev.c ui ?_
              simp only [hdV_c, tlV_c, parts1_a, asInt_i, asBool_b, asStr_s, asLen_f, asCells_f, tupL_t, refCells_r, ownLen_o, catPf, addPf acc r.1]
              refine Ev.f rfl (Ev.t (ltI_t (by rw [lenI_c, lenS_d]; omega)) (Ev.g (fitN_small (by rw [List.length_append]; show acc.length + 1 ≤ _; omega) (by decide)) ?_))
              refine Ev.f h2 (Ev.c esh (Ev.t (eqI_t (by simp only [hdV_c, tlV_c, parts1_a, asInt_i, asBool_b, asStr_s, asLen_f, asCells_f, tupL_t, refCells_r, ownLen_o]; rfl)) (Ev.g (inR_n (by rw [nibK_len hkp]; exact ha)) ?_)))
              simp only [cK, hdV_c, tlV_c, parts1_a, asInt_i, asBool_b, asStr_s, asLen_f, asCells_f, tupL_t, refCells_r, ownLen_o]
              refine Ev.g rfl (Ev.c eh ?_)
              simp only [hdV_c, tlV_c, parts1_a, asInt_i, asBool_b, asStr_s, asLen_f, asCells_f, tupL_t, refCells_r, ownLen_o, e1]
              refine Ev.c ri (Ev.g rfl ?_)
              simp only [hdV_c, tlV_c, parts1_a, asInt_i, asBool_b, asStr_s, asLen_f, asCells_f, tupL_t, refCells_r, ownLen_o]
              exact Ev.now _
    · clear hr
      match xs, i, hi, sh, es, ei with
      | [], i, hi, sh, es, ei =>
        subst sh
        obtain ⟨z, u, st, en, hst⟩ := next_empty ((nibK kp).drop a)
        refine ⟨acc, by omega, ?_, ?_⟩
        · refine Ev.step (fun k m _ _ => L_spec_ProveTrie_0a_s k m _ _ _ _ _ _ _ _) ?_
          simp only [cut_all ePair_len, hdV_c, tlV_c, parts1_a, asInt_i, asBool_b, asStr_s, asLen_f, asCells_f, tupL_t, refCells_r, ownLen_o]
          refine Ev.c es ?_
          simp only [aItem, hdV_c, tlV_c, parts1_a, asInt_i, asBool_b, asStr_s, asLen_f, asCells_f, tupL_t, refCells_r, ownLen_o]
          refine Ev.c us ?_
          simp only [hdV_c, tlV_c, parts1_a, asInt_i, asBool_b, asStr_s, asLen_f, asCells_f, tupL_t, refCells_r, ownLen_o, nibLen, nibCut]
          refine Ev.f rfl (Ev.f (leI_f (by rw [lenI_c, lenS_d]; omega)) (Ev.g (nibIn hkp i.le) ?_))
          refine Ev.c en ?_
          simp only [hdV_c, tlV_c, parts1_a, asInt_i, asBool_b, asStr_s, asLen_f, asCells_f, tupL_t, refCells_r, ownLen_o]
          exact Ev.t (by rw [eqI_f hst]; rfl) (Ev.some_ (by rw [cut_all eS_len]))
        · refine Ev.fn (fun k => F_impl_proveFrom_b k ..) (Ev.c ei ?_)
          simp only [aItem, hdV_c, tlV_c, parts1_a, asInt_i, asBool_b, asStr_s, asLen_f, asCells_f, tupL_t, refCells_r, ownLen_o]
          refine Ev.c ui ?_
          simp only [hdV_c, tlV_c, parts1_a, asInt_i, asBool_b, asStr_s, asLen_f, asCells_f, tupL_t, refCells_r, ownLen_o]
          refine Ev.f rfl (Ev.f (ltI_f (by rw [lenI_c, lenS_d]; omega)) ?_)
          exact Ev.t rfl (Ev.now _)
      | [p], i, hi, sh, es, ei =>
        have hp := i.k p (by simp)
        obtain ⟨z, u, st, en, hs1, _⟩ := next_two _ (.mk false p.2 []) _ true (leaf_round hp a 8 true).2.1 (leaf_round hp a 8 true).1 (by have := (leaf_round hp a 8 true).2.2; omega) ((nibK kp).drop a)
        have hst := hs1 rfl
        rw [List.take_of_length_le (by rw [List.length_drop, nibK_len hp]; omega)] at en
        rw [show (Tree.mk true ⟨#[]⟩ [.mk false (prefixText ((nibK p).drop a) true).1 [], .mk false p.2 []]) = t from sh.symm] at en
        refine ⟨acc, by omega, ?_, ?_⟩
        · refine Ev.step (fun k m _ _ => L_spec_ProveTrie_0a_s k m _ _ _ _ _ _ _ _) ?_
          simp only [cut_all ePair_len, hdV_c, tlV_c, parts1_a, asInt_i, asBool_b, asStr_s, asLen_f, asCells_f, tupL_t, refCells_r, ownLen_o]
          refine Ev.c es ?_
          simp only [aItem, hdV_c, tlV_c, parts1_a, asInt_i, asBool_b, asStr_s, asLen_f, asCells_f, tupL_t, refCells_r, ownLen_o]
          refine Ev.c us ?_
          simp only [hdV_c, tlV_c, parts1_a, asInt_i, asBool_b, asStr_s, asLen_f, asCells_f, tupL_t, refCells_r, ownLen_o, nibLen, nibCut]
          refine Ev.f rfl (Ev.f (leI_f (by rw [lenI_c, lenS_d]; omega)) (Ev.g (nibIn hkp i.le) ?_))
          refine Ev.c en ?_
          simp only [hdV_c, tlV_c, parts1_a, asInt_i, asBool_b, asStr_s, asLen_f, asCells_f, tupL_t, refCells_r, ownLen_o]
          exact Ev.t (by rw [eqI_f hst]; rfl) (Ev.some_ (by rw [cut_all eS_len]))
        · refine Ev.fn (fun k => F_impl_proveFrom_b k ..) (Ev.c ei ?_)
          simp only [aItem, hdV_c, tlV_c, parts1_a, asInt_i, asBool_b, asStr_s, asLen_f, asCells_f, tupL_t, refCells_r, ownLen_o]
          refine Ev.c ui ?_
          simp only [hdV_c, tlV_c, parts1_a, asInt_i, asBool_b, asStr_s, asLen_f, asCells_f, tupL_t, refCells_r, ownLen_o]
          refine Ev.f rfl (Ev.f (ltI_f (by rw [lenI_c, lenS_d]; omega)) ?_)
          exact Ev.t rfl (Ev.now _)
      | p :: q :: s, i, hi, sh, es, ei =>
        have hp := i.k p (by simp)
        have ha := pinv_lt i
        have h2 : ltI (lenI (p :: q :: s).length) 2 = false := ltI_f (by rw [lenI_c, List.length_cons, List.length_cons]; omega)
        have esh := impl_shared_ev i
        rcases sh with ⟨n, hn0, hn, y, rfl⟩ | ⟨hn, f, rfl, hf⟩
        · rw [hn] at esh
          obtain ⟨han, inv⟩ := shr_inv (p := p) (r := q :: s) i hn.symm
          obtain ⟨w1, w2, w3⟩ := leaf_round hp a n false
          obtain ⟨z, u, st, en, _, hs2⟩ := next_two _ y _ false w2 w1 (by omega) ((nibK kp).drop a)
          have hs3 := hs2 rfl
          have wl : (((nibK p).drop a).take n).length = n := by rw [List.length_take, List.length_drop, nibK_len hp]; omega
          rw [wl] at hs3
          have hc1 := common_iff (x := ((nibK p).drop a).take n) (y := (nibK kp).drop a) (n := n) (by omega) (by rw [List.length_drop, nibK_len hkp]; omega)
          have hc2 := common_iff (x := (nibK kp).drop a) (y := (nibK p).drop a) (n := n) (by rw [List.length_drop, nibK_len hkp]; omega) (by rw [List.length_drop, nibK_len hp]; omega)
          rw [List.take_take, Nat.min_self] at hc1
          have e1 : wr .i64 (addI (a : Int) (n : Int)) = ((a + n : Nat) : Int) := by rw [addI_d, wr64 (by omega)]; omega
          by_cases hm : ((nibK p).drop a).take n = ((nibK kp).drop a).take n
          · obtain ⟨hst, hu⟩ := hs3.2 (by have := hc1.2 hm; omega)
            subst hst
            subst hu
            have hall : ∀ t ∈ p :: q :: s, (nibK t).take (a + n) = (nibK kp).take (a + n) := fun t ht => by
              rw [inv.s t ht p (by simp), List.take_add, List.take_add, hi p (by simp), hm]
            obtain ⟨res, hb, rs, ri⟩ := ih (p :: q :: s) (a + n) inv hall (by omega) acc (by omega)
            refine ⟨res, hb, ?_, ?_⟩
            · refine Ev.step (fun k m _ _ => L_spec_ProveTrie_0a_s k m _ _ _ _ _ _ _ _) ?_
              simp only [cut_all ePair_len, hdV_c, tlV_c, parts1_a, asInt_i, asBool_b, asStr_s, asLen_f, asCells_f, tupL_t, refCells_r, ownLen_o]
              refine Ev.c es ?_
              simp only [aItem, hdV_c, tlV_c, parts1_a, asInt_i, asBool_b, asStr_s, asLen_f, asCells_f, tupL_t, refCells_r, ownLen_o]
              refine Ev.c us ?_
              simp only [hdV_c, tlV_c, parts1_a, asInt_i, asBool_b, asStr_s, asLen_f, asCells_f, tupL_t, refCells_r, ownLen_o, nibLen, nibCut]
              refine Ev.f rfl (Ev.f (leI_f (by rw [lenI_c, lenS_d]; omega)) (Ev.g (nibIn hkp i.le) ?_))
              refine Ev.c en ?_
              simp only [hdV_c, tlV_c, parts1_a, asInt_i, asBool_b, asStr_s, asLen_f, asCells_f, tupL_t, refCells_r, ownLen_o]
              refine Ev.f rfl (Ev.l1 (spec_keepa_l kp hkp (p :: q :: s) i.n i.k a n han (r := _) ?_ (p :: q :: s).length 0 [] (by omega) (Nat.le_refl _) rfl))
              rw [keep_all hall]
              exact rs
            · refine Ev.fn (fun k => F_impl_proveFrom_b k ..) (Ev.c ei ?_)
              simp only [aItem, hdV_c, tlV_c, parts1_a, asInt_i, asBool_b, asStr_s, asLen_f, asCells_f, tupL_t, refCells_r, ownLen_o]
              refine Ev.c ui ?_
              simp only [hdV_c, tlV_c, parts1_a, asInt_i, asBool_b, asStr_s, asLen_f, asCells_f, tupL_t, refCells_r, ownLen_o]
              refine Ev.f rfl (Ev.f (ltI_f (by rw [lenI_c, lenS_d]; omega)) ?_)
              refine Ev.f h2 (Ev.c esh (Ev.f (eqI_f (by simp only [hdV_c, tlV_c, parts1_a, asInt_i, asBool_b, asStr_s, asLen_f, asCells_f, tupL_t, refCells_r, ownLen_o]; omega)) (Ev.g (nibIn hkp i.le) (Ev.g (inR_n (i := 0) (by simp)) ?_))))
              simp only [pc0, asStr_s]
              refine Ev.g rfl (Ev.c (impl_nib hp) ?_)
              simp only [hdV_c, tlV_c, parts1_a, asInt_i, asBool_b, asStr_s, asLen_f, asCells_f, tupL_t, refCells_r, ownLen_o, nibLen, nibCut, e1]
              refine Ev.g (nibIn hp i.le) (Ev.c (impl_Common_ev _ _ (drop_le8 hkp a)) (Ev.f (ltI_f (by simp only [hdV_c, tlV_c, parts1_a, asInt_i, asBool_b, asStr_s, asLen_f, asCells_f, tupL_t, refCells_r, ownLen_o]; have := hc2.2 hm.symm; omega)) (Ev.c ri (Ev.g rfl ?_))))
              simp only [hdV_c, tlV_c, parts1_a, asInt_i, asBool_b, asStr_s, asLen_f, asCells_f, tupL_t, refCells_r, ownLen_o]
              exact Ev.now _
          · have hst := hs3.1 (lt_of_nle (fun x => hm (hc1.1 x)))
            refine ⟨acc, by omega, ?_, ?_⟩
            · refine Ev.step (fun k m _ _ => L_spec_ProveTrie_0a_s k m _ _ _ _ _ _ _ _) ?_
              simp only [cut_all ePair_len, hdV_c, tlV_c, parts1_a, asInt_i, asBool_b, asStr_s, asLen_f, asCells_f, tupL_t, refCells_r, ownLen_o]
              refine Ev.c es ?_
              simp only [aItem, hdV_c, tlV_c, parts1_a, asInt_i, asBool_b, asStr_s, asLen_f, asCells_f, tupL_t, refCells_r, ownLen_o]
              refine Ev.c us ?_
              simp only [hdV_c, tlV_c, parts1_a, asInt_i, asBool_b, asStr_s, asLen_f, asCells_f, tupL_t, refCells_r, ownLen_o, nibLen, nibCut]
              refine Ev.f rfl (Ev.f (leI_f (by rw [lenI_c, lenS_d]; omega)) (Ev.g (nibIn hkp i.le) ?_))
              refine Ev.c en ?_
              simp only [hdV_c, tlV_c, parts1_a, asInt_i, asBool_b, asStr_s, asLen_f, asCells_f, tupL_t, refCells_r, ownLen_o]
              exact Ev.t (by rw [eqI_f hst]; rfl) (Ev.some_ (by rw [cut_all eS_len]))
            · refine Ev.fn (fun k => F_impl_proveFrom_b k ..) (Ev.c ei ?_)
              simp only [aItem, hdV_c, tlV_c, parts1_a, asInt_i, asBool_b, asStr_s, asLen_f, asCells_f, tupL_t, refCells_r, ownLen_o]
              refine Ev.c ui ?_
              simp only [hdV_c, tlV_c, parts1_a, asInt_i, asBool_b, asStr_s, asLen_f, asCells_f, tupL_t, refCells_r, ownLen_o]
              refine Ev.f rfl (Ev.f (ltI_f (by rw [lenI_c, lenS_d]; omega)) ?_)
              refine Ev.f h2 (Ev.c esh (Ev.f (eqI_f (by simp only [hdV_c, tlV_c, parts1_a, asInt_i, asBool_b, asStr_s, asLen_f, asCells_f, tupL_t, refCells_r, ownLen_o]; omega)) (Ev.g (nibIn hkp i.le) (Ev.g (inR_n (i := 0) (by simp)) ?_))))
              simp only [pc0, asStr_s]
              refine Ev.g rfl (Ev.c (impl_nib hp) ?_)
              simp only [hdV_c, tlV_c, parts1_a, asInt_i, asBool_b, asStr_s, asLen_f, asCells_f, tupL_t, refCells_r, ownLen_o, nibLen, nibCut, e1]
              exact Ev.g (nibIn hp i.le) (Ev.c (impl_Common_ev _ _ (drop_le8 hkp a)) (Ev.t (ltI_t (lt_of_nle (fun x => hm (hc2.1 x).symm))) (Ev.now _)))
        · rw [hn] at esh
          obtain ⟨h, h16, hd, hh⟩ := drop_cons_nib hkp ha
          obtain ⟨z, u, st, en, hs1, hs2⟩ := next_many f h h16 ((nibK kp).drop (a + 1))
          rw [← hd] at en
          have e1 : wr .i64 (addI (a : Int) 1) = ((a + 1 : Nat) : Int) := wrS (by omega)
          have cK : cellAt ((nibK kp).flatMap eI) (mulN (natI (a : Int)) 1) = .int .i64 (h : Int) := by rw [nibAt hkp ha, hh]
          have eh := impl_half_ev h a ha (p :: q :: s) i.n i.k
          by_cases hm : filt h a (p :: q :: s) = []
          · have hst := hs1 ((hf h h16).1 hm)
            rw [hm] at eh
            refine ⟨acc, by omega, ?_, ?_⟩
            · refine Ev.step (fun k m _ _ => L_spec_ProveTrie_0a_s k m _ _ _ _ _ _ _ _) ?_
              simp only [cut_all ePair_len, hdV_c, tlV_c, parts1_a, asInt_i, asBool_b, asStr_s, asLen_f, asCells_f, tupL_t, refCells_r, ownLen_o]
              refine Ev.c es ?_
              simp only [aItem, hdV_c, tlV_c, parts1_a, asInt_i, asBool_b, asStr_s, asLen_f, asCells_f, tupL_t, refCells_r, ownLen_o]
              refine Ev.c us ?_
              simp only [hdV_c, tlV_c, parts1_a, asInt_i, asBool_b, asStr_s, asLen_f, asCells_f, tupL_t, refCells_r, ownLen_o, nibLen, nibCut]
              refine Ev.f rfl (Ev.f (leI_f (by rw [lenI_c, lenS_d]; omega)) (Ev.g (nibIn hkp i.le) ?_))
              refine Ev.c en ?_
              simp only [hdV_c, tlV_c, parts1_a, asInt_i, asBool_b, asStr_s, asLen_f, asCells_f, tupL_t, refCells_r, ownLen_o]
              exact Ev.t (by rw [eqI_f hst]; rfl) (Ev.some_ (by rw [cut_all eS_len]))
            · refine Ev.fn (fun k => F_impl_proveFrom_b k ..) (Ev.c ei ?_)
              simp only [aItem, hdV_c, tlV_c, parts1_a, asInt_i, asBool_b, asStr_s, asLen_f, asCells_f, tupL_t, refCells_r, ownLen_o]
              refine Ev.c ui ?_
              simp only [hdV_c, tlV_c, parts1_a, asInt_i, asBool_b, asStr_s, asLen_f, asCells_f, tupL_t, refCells_r, ownLen_o]
              refine Ev.f rfl (Ev.f (ltI_f (by rw [lenI_c, lenS_d]; omega)) ?_)
              refine Ev.f h2 (Ev.c esh (Ev.t (eqI_t (by simp only [hdV_c, tlV_c, parts1_a, asInt_i, asBool_b, asStr_s, asLen_f, asCells_f, tupL_t, refCells_r, ownLen_o]; rfl)) (Ev.g (inR_n (by rw [nibK_len hkp]; exact ha)) ?_)))
              simp only [cK, hdV_c, tlV_c, parts1_a, asInt_i, asBool_b, asStr_s, asLen_f, asCells_f, tupL_t, refCells_r, ownLen_o]
              refine Ev.g rfl (Ev.c eh ?_)
              simp only [hdV_c, tlV_c, parts1_a, asInt_i, asBool_b, asStr_s, asLen_f, asCells_f, tupL_t, refCells_r, ownLen_o, e1]
              refine Ev.c (impl_prove_nil kp ((a + 1 : Nat) : Int) acc) (Ev.g rfl ?_)
              simp only [hdV_c, tlV_c, parts1_a, asInt_i, asBool_b, asStr_s, asLen_f, asCells_f, tupL_t, refCells_r, ownLen_o]
              exact Ev.now _
          · obtain ⟨hst, hu⟩ := hs2 ((hf h h16).2 hm)
            subst hst
            subst hu
            obtain ⟨res, hb, rs, ri⟩ := ih (filt h a (p :: q :: s)) (a + 1) (filt_inv i ha h) (filt_nil_take hkp ha i.k hi hh) (by omega) acc (by omega)
            refine ⟨res, hb, ?_, ?_⟩
            · refine Ev.step (fun k m _ _ => L_spec_ProveTrie_0a_s k m _ _ _ _ _ _ _ _) ?_
              simp only [cut_all ePair_len, hdV_c, tlV_c, parts1_a, asInt_i, asBool_b, asStr_s, asLen_f, asCells_f, tupL_t, refCells_r, ownLen_o]
              refine Ev.c es ?_
              simp only [aItem, hdV_c, tlV_c, parts1_a, asInt_i, asBool_b, asStr_s, asLen_f, asCells_f, tupL_t, refCells_r, ownLen_o]
              refine Ev.c us ?_
              simp only [hdV_c, tlV_c, parts1_a, asInt_i, asBool_b, asStr_s, asLen_f, asCells_f, tupL_t, refCells_r, ownLen_o, nibLen, nibCut]
              refine Ev.f rfl (Ev.f (leI_f (by rw [lenI_c, lenS_d]; omega)) (Ev.g (nibIn hkp i.le) ?_))
              refine Ev.c en ?_
              simp only [hdV_c, tlV_c, parts1_a, asInt_i, asBool_b, asStr_s, asLen_f, asCells_f, tupL_t, refCells_r, ownLen_o]
              refine Ev.f rfl (Ev.l1 (spec_keepa_l kp hkp (p :: q :: s) i.n i.k a 1 (by omega) (r := _) ?_ (p :: q :: s).length 0 [] (by omega) (Nat.le_refl _) rfl))
              rw [keep_filt hkp ha i.k hi hh]
              exact rs
            · refine Ev.fn (fun k => F_impl_proveFrom_b k ..) (Ev.c ei ?_)
              simp only [aItem, hdV_c, tlV_c, parts1_a, asInt_i, asBool_b, asStr_s, asLen_f, asCells_f, tupL_t, refCells_r, ownLen_o]
              refine Ev.c ui ?_
              simp only [hdV_c, tlV_c, parts1_a, asInt_i, asBool_b, asStr_s, asLen_f, asCells_f, tupL_t, refCells_r, ownLen_o]
              refine Ev.f rfl (Ev.f (ltI_f (by rw [lenI_c, lenS_d]; omega)) ?_)
              refine Ev.f h2 (Ev.c esh (Ev.t (eqI_t (by simp only [hdV_c, tlV_c, parts1_a, asInt_i, asBool_b, asStr_s, asLen_f, asCells_f, tupL_t, refCells_r, ownLen_o]; rfl)) (Ev.g (inR_n (by rw [nibK_len hkp]; exact ha)) ?_)))
              simp only [cK, hdV_c, tlV_c, parts1_a, asInt_i, asBool_b, asStr_s, asLen_f, asCells_f, tupL_t, refCells_r, ownLen_o]
              refine Ev.g rfl (Ev.c eh ?_)
              simp only [hdV_c, tlV_c, parts1_a, asInt_i, asBool_b, asStr_s, asLen_f, asCells_f, tupL_t, refCells_r, ownLen_o, e1]
              refine Ev.c ri (Ev.g rfl ?_)
              simp only [hdV_c, tlV_c, parts1_a, asInt_i, asBool_b, asStr_s, asLen_f, asCells_f, tupL_t, refCells_r, ownLen_o]
              exact Ev.now _


theorem pinv_of {xs : List TPair} (h : pairsOk xs = true) : PInv xs 0 := by
  unfold pairsOk at h
  rw [Bool.and_eq_true, decide_eq_true_eq] at h
  obtain ⟨h1, h2, h3⟩ := pGo_all xs none h.1
  exact ⟨fun p hp => (h1 p hp).1, fun p hp => (h1 p hp).2.2, h.2, by omega, fun p _ q _ => by simp, h3⟩
theorem set1_len (b : List AV) (o : Nat) (x : AV) : (setMany b o [x]).length = b.length := by show (b.set o x).length = _; rw [List.length_set]
theorem laws_markText_l (f : Nat) : ∀ (n : Nat) (s : ByteArray), n < 10 ^ f → n ≤ 1000000000 → s.size + f ≤ 1000 → ∃ r, Ev (fun k m _ _ => L_laws_markText_0 k m (n : Int) s) [.str r] := by
  have fin : ∀ (s : ByteArray), s.size ≤ 1000 → ∃ r, Ev (fun k m _ _ => L_laws_markText_0 k m ((0 : Nat) : Int) s) [.str r] := fun s hs =>
    ⟨_, Ev.step (fun k m _ _ => L_laws_markText_0_s k m _ _) (Ev.f (ltI_f (by omega)) (Ev.g (fitS_small (by show 1 + s.size ≤ _; omega)) (Ev.now _)))⟩
  induction f with
  | zero =>
    intro n s h _ hs
    have : n = 0 := by rw [Nat.pow_zero] at h; omega
    subst this
    exact fin s (by omega)
  | succ f ih =>
    intro n s h hn hs
    rcases Nat.eq_zero_or_pos n with rfl | hp
    · exact fin s (by omega)
    · have e2 : wr .i64 (quoI (n : Int) 10) = ((n / 10 : Nat) : Int) := by rw [quoI_d, tdiv_pos (by omega), wr64 (by omega)]; omega
      obtain ⟨r, e⟩ := ih (n / 10) (catS (strOf (cutC [.int .u8 (wr .u8 (wr .i64 (addI 48 (remI (n : Int) 10))))] 0 1)) s) (by rw [Nat.pow_succ] at h; omega) (by omega) (by
        show (_ ++ _ : ByteArray).size + f ≤ _
        rw [ByteArray.size_append, show (strOf (cutC [.int .u8 (wr .u8 (wr .i64 (addI 48 (remI (n : Int) 10))))] 0 1)).size = 1 from rfl]
        omega)
      refine ⟨r, Ev.step (fun k m _ _ => L_laws_markText_0_s k m _ _) (Ev.t (ltI_t (by omega)) (Ev.g rfl (Ev.g (fitS_small (by rw [show (strOf (cutC [.int .u8 (wr .u8 (wr .i64 (addI 48 (remI (n : Int) 10))))] 0 1)).size = 1 from rfl]; omega)) ?_)))⟩
      rw [e2]
      exact e
theorem laws_markText_ex (n : Nat) (hn : n ≤ 1000000000) : ∃ r, Does cp n_laws_markText [.int .i64 (n : Int)] [.str r] := by
  rcases Nat.eq_zero_or_pos n with rfl | hp
  · exact ⟨_, Ev.fn (fun k => F_laws_markText k _) (Ev.t (leI_t (by omega)) (Ev.now _))⟩
  · obtain ⟨r, e⟩ := laws_markText_l 10 n (⟨#[]⟩ : ByteArray) (by omega) hn (by decide)
    exact ⟨r, Ev.fn (fun k => F_laws_markText k _) (Ev.f (leI_f (by omega)) e.l0)⟩
open Classical in
/-- The text of a mark. -/
noncomputable def mT (n : Nat) : ByteArray := if h : ∃ r, Does cp n_laws_markText [.int .i64 (n : Int)] [.str r] then Classical.choose h else (⟨#[]⟩ : ByteArray)
theorem laws_markText_ev (n : Nat) (hn : n ≤ 1000000000) : Does cp n_laws_markText [.int .i64 (n : Int)] [.str (mT n)] := by
  unfold mT
  rw [dif_pos (laws_markText_ex n hn)]
  exact Classical.choose_spec (laws_markText_ex n hn)
noncomputable def mS (n k : Nat) : List ByteArray := (List.range n).map fun j => mT (k + j)
theorem mS_len (n k : Nat) : (mS n k).length = n := by simp [mS]
theorem mS_succ (n k : Nat) : mS (n + 1) k = mS n k ++ [mT (k + n)] := by simp [mS, List.range_succ]
theorem mS_get (n k i : Nat) (h : i < (mS n k).length) : (mS n k)[i] = mT (k + i) := by simp [mS]
theorem setS_mid (xs : List ByteArray) (i k : Nat) (hi : i < xs.length) : (mS i k ++ xs.drop i).set i (mT (k + i)) = mS (i + 1) k ++ xs.drop (i + 1) := by
  have hl := mS_len i k
  rw [mS_succ, List.append_assoc, List.drop_eq_getElem_cons hi]
  rw [List.set_append, if_neg (by omega), hl, Nat.sub_self, List.set_cons_zero]
  rfl
theorem laws_markStringS_l (xs : List ByteArray) (k0 : Nat) (hl : k0 + xs.length ≤ 1000000000) (d : Nat) : ∀ i : Nat, i + d = xs.length →
    Ev (fun k m _ _ => L_laws_markStringS_a_0 k m xs.length (i : Int) ((k0 + i : Nat) : Int) ((mS i k0 ++ xs.drop i).flatMap eS)) [.tup [.ref true 9 ((mS xs.length k0).flatMap eS)], .int .i64 ((k0 + xs.length : Nat) : Int)] := by
  induction d with
  | zero =>
    intro i hi
    refine Ev.step (fun k m _ _ => L_laws_markStringS_a_0_s k m _ _ _ _) (Ev.f (ltI_f (by rw [lenI_c]; omega)) (Ev.some_ ?_))
    have : i = xs.length := by omega
    subst this
    rw [List.drop_length, List.append_nil]
  | succ d ih =>
    intro i hi
    have hlen : ((mS i k0 ++ xs.drop i).flatMap eS).length = xs.length * 1 := by
      rw [encs_len eS_len, List.length_append, mS_len, List.length_drop, show i + (xs.length - i) = xs.length by omega]
    have hs : setMany ((mS i k0 ++ xs.drop i).flatMap eS) (i * 1) (eS (mT (k0 + i))) = (mS (i + 1) k0 ++ xs.drop (i + 1)).flatMap eS := by
      rw [set_encs eS_len _ _ _ (by rw [List.length_append, mS_len, List.length_drop]; omega), setS_mid xs i k0 (by omega)]
    have hs' : setMany ((mS i k0 ++ xs.drop i).flatMap eS) (i * 1) [.str (mT (k0 + i))] = (mS (i + 1) k0 ++ xs.drop (i + 1)).flatMap eS := hs
    refine Ev.step (fun k m _ _ => L_laws_markStringS_a_0_s k m _ _ _ _) (Ev.t (ltI_t (by rw [lenI_c]; omega)) (Ev.c (laws_markText_ev (k0 + i) (by omega)) (Ev.g (inR_n (by omega)) (Ev.g (Nat.ble_eq_true_of_le (by rw [natI_c, mulN_d, addN_d, hlen]; omega)) ?_))))
    simp only [hdV_c, tlV_c, parts1_a, asInt_i, asBool_b, asStr_s, asLen_f, asCells_f, tupL_t, refCells_r, ownLen_o, wrS (show i < 9223372036854775807 by omega), wrS (show k0 + i < 9223372036854775807 by omega), natI_c, mulN_d, addN_d, Nat.zero_add, hs']
    exact ih (i + 1) (by omega)
theorem laws_markStringS_ev (xs : List ByteArray) (k0 : Nat) (hl : k0 + xs.length ≤ 1000000000) : Does cp n_laws_markStringS [.tup [.ref true 9 (xs.flatMap eS)], .own 0 0 xs.length, .int .i64 (k0 : Int)] [.tup [.ref true 9 ((mS xs.length k0).flatMap eS)], .int .i64 ((k0 + xs.length : Nat) : Int)] :=
  Ev.fn (fun k => F_laws_markStringS_a k _ _ _) (laws_markStringS_l xs k0 hl xs.length 0 (by omega)).l0
theorem laws_heldStringS_l (n k0 : Nat) (hl : k0 + n ≤ 1000000000) (d : Nat) : ∀ i : Nat, i + d = n →
    Ev (fun k m _ _ => L_laws_heldStringS_0 k m n ((mS n k0).flatMap eS) (i : Int) ((k0 + i : Nat) : Int)) [.int .i64 ((k0 + n : Nat) : Int)] := by
  induction d with
  | zero =>
    intro i hi
    have : i = n := by omega
    subst this
    exact Ev.step (fun k m _ _ => L_laws_heldStringS_0_s k m _ _ _ _) (Ev.f (ltI_f (by rw [lenI_c]; omega)) (Ev.now _))
  | succ d ih =>
    intro i hi
    have hll := mS_len n k0
    have hg := mS_get n k0 i (by omega)
    have c0 : cellAt ((mS n k0).flatMap eS) (mulN (natI (i : Int)) 1) = .str ((mS n k0)[i]'(by omega)) := cell_enc0 eS_len (by omega) (by decide)
    rw [hg] at c0
    refine Ev.step (fun k m _ _ => L_laws_heldStringS_0_s k m _ _ _ _) (Ev.t (ltI_t (by rw [lenI_c]; omega)) (Ev.g (inR_n (by omega)) ?_))
    rw [c0]
    refine Ev.g rfl (Ev.c (laws_markText_ev (k0 + i) (by omega)) (Ev.f (by simp only [hdV_c, tlV_c, parts1_a, asInt_i, asBool_b, asStr_s, asLen_f, asCells_f, tupL_t, refCells_r, ownLen_o]; rw [eqS_t rfl]; rfl) ?_))
    rw [wrS (show i < 9223372036854775807 by omega), wrS (show k0 + i < 9223372036854775807 by omega)]
    exact ih (i + 1) (by omega)
theorem laws_heldStringS_ev (n k0 : Nat) (hl : k0 + n ≤ 1000000000) : Does cp n_laws_heldStringS [.fs n ((mS n k0).flatMap eS), .int .i64 (k0 : Int)] [.int .i64 ((k0 + n : Nat) : Int)] :=
  Ev.fn (fun k => F_laws_heldStringS k _ _ _) (laws_heldStringS_l n k0 hl n 0 (by omega)).l0


theorem laws_szPair_ev (x0 : ByteArray) (x1 : ByteArray) (h_x0 : x0.size ≤ 9223372036854775807) (h_x1 : x1.size ≤ 9223372036854775807) (v : Int) (h0 : 0 ≤ v) (h1 : v ≤ 1048576) :
    ∃ r, Does cp n_laws_szPair [.agg [.str x0, .str x1], .int .i64 v] [.int .i64 r] ∧ (0 ≤ r → r ≤ v ∧ x0.size ≤ 1048576 ∧ x1.size ≤ 1048576) := by
  suffices h : ∃ r, Ev (fun k _ _ _ => evF cp (k + 1) n_laws_szPair [.agg [.str x0, .str x1], .int .i64 v]) [.int .i64 r] ∧ (0 ≤ r → r ≤ v ∧ x0.size ≤ 1048576 ∧ x1.size ≤ 1048576) by
    obtain ⟨r, h, p⟩ := h; exact ⟨r, Ev.fn (fun _ => rfl) h, p⟩
  simp only [F_laws_szPair]
  have e1 : wr .i64 (subI v (lenI (lenS x0))) = v - (x0.size : Int) := by rw [subI_d, lenI_c, lenS_d, wr64 (by omega)]
  simp only [e1]
  by_cases c1 : v - (x0.size : Int) < 0
  · exact ⟨-1, Ev.t (ltI_t c1) (Ev.now _), fun h => by omega⟩
  have e2 : wr .i64 (subI (v - (x0.size : Int)) (lenI (lenS x1))) = (v - (x0.size : Int)) - (x1.size : Int) := by rw [subI_d, lenI_c, lenS_d, wr64 (by omega)]
  simp only [e2]
  by_cases c2 : (v - (x0.size : Int)) - (x1.size : Int) < 0
  · exact ⟨-1, Ev.f (ltI_f c1) (Ev.t (ltI_t c2) (Ev.now _)), fun h => by omega⟩
  exact ⟨((v - (x0.size : Int)) - (x1.size : Int)), Ev.f (ltI_f c1) (Ev.f (ltI_f c2) (Ev.now _)), fun h => ⟨by omega, (by omega), (by omega)⟩⟩


theorem laws_szPairS_l (xs : List TPair) (hl : xs.length ≤ 1048576) (hs : ∀ y ∈ xs, bigPair y) (d : Nat) : ∀ (i : Nat) (v : Int), i + d = xs.length → 0 ≤ v → v ≤ 1048576 →
    ∃ r, Ev (fun k m _ _ => L_laws_szPairS_0 k m xs.length (xs.flatMap ePair) (i : Int) v) [.int .i64 r] ∧ (0 ≤ r → r ≤ v ∧ ∀ y ∈ xs.drop i, smPair y) := by
  induction d with
  | zero =>
    intro i v hi h0 h1
    refine ⟨v, Ev.step (fun k m _ _ => L_laws_szPairS_0_s k m _ _ _ _) (Ev.f (ltI_f (by rw [lenI_c]; omega)) (Ev.now _)), fun _ => ⟨by omega, ?_⟩⟩
    rw [List.drop_eq_nil_of_le (by omega)]
    simp
  | succ d ih =>
    intro i v hi h0 h1
    have c0 : cellAt (xs.flatMap ePair) (mulN (natI (i : Int)) 2) = .str (xs[i]'(by omega)).1 := cell_enc0 ePair_len (by omega) (by decide)
    have c1 : cellAt (xs.flatMap ePair) (addN (mulN (natI (i : Int)) 2) 1) = .str (xs[i]'(by omega)).2 := cell_enc ePair_len (by omega) 1 (by decide)
    have hm := hs _ (List.getElem_mem (show i < xs.length by omega))
    obtain ⟨t, et, pt⟩ := laws_szPair_ev (xs[i]'(by omega)).1 (xs[i]'(by omega)).2 hm.1 hm.2 v h0 h1
    by_cases hc : t < 0
    · refine ⟨-1, Ev.step (fun k m _ _ => L_laws_szPairS_0_s k m _ _ _ _) (Ev.t (ltI_t (by rw [lenI_c]; omega)) (Ev.g (inR_n (by omega)) ?_)), fun h => by omega⟩
      simp only [c0, c1, hdV_c, tlV_c, parts1_a, asInt_i, asBool_b, asStr_s, asLen_f, asCells_f, tupL_t, refCells_r, ownLen_o]
      exact Ev.g rfl (Ev.c et (Ev.t (ltI_t hc) (Ev.now _)))
    · obtain ⟨ht, hq⟩ := pt (by omega)
      obtain ⟨r, hr, hp⟩ := ih (i + 1) t (by omega) (by omega) (by omega)
      refine ⟨r, Ev.step (fun k m _ _ => L_laws_szPairS_0_s k m _ _ _ _) (Ev.t (ltI_t (by rw [lenI_c]; omega)) (Ev.g (inR_n (by omega)) ?_)), fun h => ?_⟩
      · simp only [c0, c1, hdV_c, tlV_c, parts1_a, asInt_i, asBool_b, asStr_s, asLen_f, asCells_f, tupL_t, refCells_r, ownLen_o, wrS (show i < 9223372036854775807 by omega)]
        exact Ev.g rfl (Ev.c et (Ev.f (ltI_f hc) hr))
      obtain ⟨h2, h3⟩ := hp h
      refine ⟨by omega, ?_⟩
      rw [List.drop_eq_getElem_cons (show i < xs.length by omega)]
      intro s hs'
      rcases List.mem_cons.1 hs' with rfl | hs'
      · exact hq
      · exact h3 s hs'
theorem laws_szPairS_ev (xs : List TPair) (hl : xs.length ≤ 9223372036854775807) (hs : ∀ y ∈ xs, bigPair y) (v : Int) (h0 : 0 ≤ v) (h1 : v ≤ 1048576) :
    ∃ r, Does cp n_laws_szPairS [.fs xs.length (xs.flatMap ePair), .int .i64 v] [.int .i64 r] ∧ (0 ≤ r → r ≤ v ∧ xs.length ≤ 1048576 ∧ ∀ y ∈ xs, smPair y) := by
  have e : wr .i64 (subI v (lenI xs.length)) = v - (xs.length : Int) := by rw [subI_d, lenI_c, wr64 (by omega)]
  by_cases c : v - (xs.length : Int) < 0
  · exact ⟨-1, Ev.fn (fun k => F_laws_szPairS k _ _ _) (Ev.t (ltI_t (by rw [e]; exact c)) (Ev.now _)), fun h => by omega⟩
  · obtain ⟨r, hr, hp⟩ := laws_szPairS_l xs (by omega) hs xs.length 0 (v - (xs.length : Int)) (by omega) (by omega) (by omega)
    refine ⟨r, Ev.fn (fun k => F_laws_szPairS k _ _ _) (Ev.f (ltI_f (by rw [e]; exact c)) ?_), fun h => ?_⟩
    · simp only [e]
      exact hr.l0
    obtain ⟨h2, h3⟩ := hp h
    exact ⟨by omega, by omega, by simpa using h3⟩


theorem laws_toPair_ev (x0 : ByteArray) (x1 : ByteArray) : Does cp n_laws_toPair [.agg [.str x0, .str x1]] [.agg [.str x0, .str x1]] :=
  Ev.fn (fun k => F_laws_toPair k (x0) (x1) ) (Ev.now _)


theorem laws_toPairS_l (xs : List TPair) (hl : xs.length ≤ 1048576) (d : Nat) : ∀ i : Nat, i + d = xs.length →
    Ev (fun k m _ _ => L_laws_toPairS_0 k m xs.length (xs.flatMap ePair) xs.length (i : Int) ((xs.take i).flatMap ePair ++ (List.replicate d ([.str (ByteArray.mk (Array.mk [])), .str (ByteArray.mk (Array.mk []))] : List AV)).flatten)) [.fs xs.length (xs.flatMap ePair)] := by
  induction d with
  | zero =>
    intro i hi
    refine Ev.step (fun k m _ _ => L_laws_toPairS_0_s k m _ _ _ _ _) (Ev.f (ltI_f (by rw [lenI_c]; omega)) (Ev.some_ ?_))
    rw [List.replicate_zero, List.flatten_nil, List.append_nil, List.take_of_length_le (by omega), cut_all ePair_len]
  | succ d ih =>
    intro i hi
    have c0 : cellAt (xs.flatMap ePair) (mulN (natI (i : Int)) 2) = .str (xs[i]'(by omega)).1 := cell_enc0 ePair_len (by omega) (by decide)
    have c1 : cellAt (xs.flatMap ePair) (addN (mulN (natI (i : Int)) 2) 1) = .str (xs[i]'(by omega)).2 := cell_enc ePair_len (by omega) 1 (by decide)
    have hset : setMany ((xs.take i).flatMap ePair ++ (List.replicate (d + 1) ([.str (ByteArray.mk (Array.mk [])), .str (ByteArray.mk (Array.mk []))] : List AV)).flatten) (addN 0 (mulN (natI (i : Int)) 2)) ([.str (xs[i]'(by omega)).1, .str (xs[i]'(by omega)).2] : List AV) = (xs.take (i + 1)).flatMap ePair ++ (List.replicate d ([.str (ByteArray.mk (Array.mk [])), .str (ByteArray.mk (Array.mk []))] : List AV)).flatten := by
      rw [addN_d, Nat.zero_add, natI_c, mulN_d, ← take_next xs i (by omega)]
      have hp : (xs.take i).length = i := by rw [List.length_take]; omega
      have := fill_at ePair_len (z := ([.str (ByteArray.mk (Array.mk [])), .str (ByteArray.mk (Array.mk []))] : List AV)) rfl (xs.take i) (xs[i]'(by omega)) d
      rw [hp] at this
      exact this
    have hb : Nat.ble (Nat.succ (Nat.succ (addN 0 (mulN (natI (i : Int)) 2)))) (List.length ((xs.take i).flatMap ePair ++ (List.replicate (d + 1) ([.str (ByteArray.mk (Array.mk [])), .str (ByteArray.mk (Array.mk []))] : List AV)).flatten)) = true := by
      rw [fill_len ePair_len rfl, List.length_take]
      exact Nat.ble_eq_true_of_le (by rw [addN_d, natI_c, mulN_d, Nat.min_eq_left (by omega)]; omega)
    refine Ev.step (fun k m _ _ => L_laws_toPairS_0_s k m _ _ _ _ _) (Ev.t (ltI_t (by rw [lenI_c]; omega)) (Ev.g (inR_n (by omega)) ?_))
    simp only [c0, c1, hdV_c, tlV_c, parts1_a, asInt_i, asBool_b, asStr_s, asLen_f, asCells_f, tupL_t, refCells_r, ownLen_o]
    refine Ev.g rfl (Ev.c (laws_toPair_ev (xs[i]'(by omega)).1 (xs[i]'(by omega)).2) (Ev.g (inR_n (by omega)) (Ev.g hb ?_)))
    simp only [hdV_c, tlV_c, parts1_a, asInt_i, asBool_b, asStr_s, asLen_f, asCells_f, tupL_t, refCells_r, ownLen_o, wrS (show i < 9223372036854775807 by omega), hset]
    exact ih (i + 1) (by omega)
theorem laws_toPairS_ev (xs : List TPair) (hl : xs.length ≤ 1048576) : Does cp n_laws_toPairS [.fs xs.length (xs.flatMap ePair)] [.fs xs.length (xs.flatMap ePair)] :=
  Ev.fn (fun k => F_laws_toPairS k _ _) (Ev.g (fit_small hl (by decide)) (laws_toPairS_l xs hl xs.length 0 (by omega)).l0)


theorem laws_eqPair_same (x0 : ByteArray) (x1 : ByteArray) : Does cp n_laws_eqPair [.agg [.str x0, .str x1], .agg [.str x0, .str x1]] [.bool true] :=
  Ev.fn (fun k => F_laws_eqPair k (x0) (x1) (x0) (x1) ) (Ev.f (by rw [eqS_t rfl]; rfl) (Ev.f (by rw [eqS_t rfl]; rfl) (Ev.now _)))


theorem laws_eqPairS_l (xs : List TPair) (hl : xs.length ≤ 1048576) (d : Nat) : ∀ i : Nat, i + d = xs.length →
    Ev (fun k m _ _ => L_laws_eqPairS_0 k m xs.length (xs.flatMap ePair) xs.length (xs.flatMap ePair) (i : Int)) [.bool true] := by
  induction d with
  | zero =>
    intro i hi
    exact Ev.step (fun k m _ _ => L_laws_eqPairS_0_s k m _ _ _ _ _) (Ev.f (ltI_f (by rw [lenI_c]; omega)) (Ev.now _))
  | succ d ih =>
    intro i hi
    have c0 : cellAt (xs.flatMap ePair) (mulN (natI (i : Int)) 2) = .str (xs[i]'(by omega)).1 := cell_enc0 ePair_len (by omega) (by decide)
    have c1 : cellAt (xs.flatMap ePair) (addN (mulN (natI (i : Int)) 2) 1) = .str (xs[i]'(by omega)).2 := cell_enc ePair_len (by omega) 1 (by decide)
    refine Ev.step (fun k m _ _ => L_laws_eqPairS_0_s k m _ _ _ _ _) (Ev.t (ltI_t (by rw [lenI_c]; omega)) (Ev.g (inR_n (by omega)) ?_))
    simp only [c0, c1, hdV_c, tlV_c, parts1_a, asInt_i, asBool_b, asStr_s, asLen_f, asCells_f, tupL_t, refCells_r, ownLen_o]
    refine Ev.g rfl (Ev.g (inR_n (by omega)) (Ev.g rfl (Ev.c (laws_eqPair_same (xs[i]'(by omega)).1 (xs[i]'(by omega)).2) (Ev.f rfl ?_))))
    simp only [wrS (show i < 9223372036854775807 by omega)]
    exact ih (i + 1) (by omega)
theorem laws_eqPairS_same (xs : List TPair) (hl : xs.length ≤ 1048576) : Does cp n_laws_eqPairS [.fs xs.length (xs.flatMap ePair), .fs xs.length (xs.flatMap ePair)] [.bool true] :=
  Ev.fn (fun k => F_laws_eqPairS k _ _ _ _) (Ev.f (by rw [eqI_t rfl]; rfl) (laws_eqPairS_l xs hl xs.length 0 (by omega)).l0)


theorem laws_eqStringS_l (xs : List ByteArray) (hl : xs.length ≤ 1048576) (d : Nat) : ∀ i : Nat, i + d = xs.length →
    Ev (fun k m _ _ => L_laws_eqStringS_0 k m xs.length (xs.flatMap eS) xs.length (xs.flatMap eS) (i : Int)) [.bool true] := by
  induction d with
  | zero =>
    intro i hi
    exact Ev.step (fun k m _ _ => L_laws_eqStringS_0_s k m _ _ _ _ _) (Ev.f (ltI_f (by rw [lenI_c]; omega)) (Ev.now _))
  | succ d ih =>
    intro i hi
    have c0 : cellAt (xs.flatMap eS) (mulN (natI (i : Int)) 1) = .str (xs[i]'(by omega)) := cell_enc0 eS_len (by omega) (by decide)
    refine Ev.step (fun k m _ _ => L_laws_eqStringS_0_s k m _ _ _ _ _) (Ev.t (ltI_t (by rw [lenI_c]; omega)) (Ev.g (inR_n (by omega)) ?_))
    simp only [c0, hdV_c, tlV_c, parts1_a, asInt_i, asBool_b, asStr_s, asLen_f, asCells_f, tupL_t, refCells_r, ownLen_o]
    refine Ev.g rfl (Ev.g (inR_n (by omega)) (Ev.g rfl (Ev.f (by rw [eqS_t rfl]; rfl) ?_)))
    simp only [wrS (show i < 9223372036854775807 by omega)]
    exact ih (i + 1) (by omega)
theorem laws_eqStringS_same (xs : List ByteArray) (hl : xs.length ≤ 1048576) : Does cp n_laws_eqStringS [.fs xs.length (xs.flatMap eS), .fs xs.length (xs.flatMap eS)] [.bool true] :=
  Ev.fn (fun k => F_laws_eqStringS k _ _ _ _) (Ev.f (by rw [eqI_t rfl]; rfl) (laws_eqStringS_l xs hl xs.length 0 (by omega)).l0)


theorem catT (s : ByteArray) : catC (cutC [] 0 (mulN 0 1)) (cutC [.str s] 0 1) = [s].flatMap eS := rfl
theorem addT (s : ByteArray) : addN 0 1 = [s].length := rfl
theorem prove_top (kp : TPair) (hkp : kp.1.size = 4) (xs : List TPair) (a : Nat) (i : PInv xs a) (hi : ∀ p ∈ xs, (nibK p).take a = (nibK kp).take a) :
    ∃ res : List ByteArray, res.length ≤ 900 ∧ Ev (fun k m _ _ => L_spec_ProveTrie_0 k m xs.length (xs.flatMap ePair) (a : Int) (nibK kp).length ((nibK kp).flatMap eI) 0 true []) [.fs res.length (res.flatMap eS)] ∧
      Does cp n_impl_proveFrom [.tup [], .nils, .fs xs.length (xs.flatMap ePair), .fs (nibK kp).length ((nibK kp).flatMap eI), .int .i64 (a : Int), .bool true] [.tup [.ref true 9 (res.flatMap eS)], .own 0 0 res.length] := by
  have hle := i.le
  obtain ⟨t, ⟨tw, sh⟩, es, ei⟩ := trie_sh 9 xs a i (by omega)
  obtain ⟨r, hr, us, ui⟩ := spec_ItemText_ev t (by omega)
  clear hr
  match xs, i, hi, sh, es, ei with
  | [], i, hi, sh, es, ei =>
    subst sh
    obtain ⟨z, u, st, en, hst⟩ := next_empty ((nibK kp).drop a)
    refine ⟨[r.1], by show 1 ≤ 900; decide, ?_, ?_⟩
    · refine Ev.step (fun k m _ _ => L_spec_ProveTrie_0_s k m _ _ _ _ _ _ _ _) ?_
      refine Ev.c es ?_
      simp only [aItem, hdV_c, tlV_c, parts1_a, asInt_i, asBool_b, asStr_s, asLen_f, asCells_f, tupL_t, refCells_r, ownLen_o]
      refine Ev.c us ?_
      simp only [hdV_c, tlV_c, parts1_a, asInt_i, asBool_b, asStr_s, asLen_f, asCells_f, tupL_t, refCells_r, ownLen_o, nibLen, nibCut, catT, addT r.1]
      refine Ev.t rfl (Ev.g (fitN_small (by show 1 ≤ 1048576; decide) (by decide)) (Ev.g (nibIn hkp i.le) ?_))
      refine Ev.c en ?_
      simp only [hdV_c, tlV_c, parts1_a, asInt_i, asBool_b, asStr_s, asLen_f, asCells_f, tupL_t, refCells_r, ownLen_o]
      exact Ev.t (by rw [eqI_f hst]; rfl) (Ev.some_ (by rw [cut_all eS_len]))
    · refine Ev.fn (fun k => F_impl_proveFrom_a k ..) (Ev.c ei ?_)
      simp only [aItem, hdV_c, tlV_c, parts1_a, asInt_i, asBool_b, asStr_s, asLen_f, asCells_f, tupL_t, refCells_r, ownLen_o]
      refine Ev.c ui ?_
      simp only [hdV_c, tlV_c, parts1_a, asInt_i, asBool_b, asStr_s, asLen_f, asCells_f, tupL_t, refCells_r, ownLen_o]
      refine Ev.t rfl ?_
      exact Ev.t rfl (Ev.now _)
  | [p], i, hi, sh, es, ei =>
    have hp := i.k p (by simp)
    obtain ⟨z, u, st, en, hs1, _⟩ := next_two _ (.mk false p.2 []) _ true (leaf_round hp a 8 true).2.1 (leaf_round hp a 8 true).1 (by have := (leaf_round hp a 8 true).2.2; omega) ((nibK kp).drop a)
    have hst := hs1 rfl
    rw [List.take_of_length_le (by rw [List.length_drop, nibK_len hp]; omega)] at en
    rw [show (Tree.mk true ⟨#[]⟩ [.mk false (prefixText ((nibK p).drop a) true).1 [], .mk false p.2 []]) = t from sh.symm] at en
    refine ⟨[r.1], by show 1 ≤ 900; decide, ?_, ?_⟩
    · refine Ev.step (fun k m _ _ => L_spec_ProveTrie_0_s k m _ _ _ _ _ _ _ _) ?_
      refine Ev.c es ?_
      simp only [aItem, hdV_c, tlV_c, parts1_a, asInt_i, asBool_b, asStr_s, asLen_f, asCells_f, tupL_t, refCells_r, ownLen_o]
      refine Ev.c us ?_
      simp only [hdV_c, tlV_c, parts1_a, asInt_i, asBool_b, asStr_s, asLen_f, asCells_f, tupL_t, refCells_r, ownLen_o, nibLen, nibCut, catT, addT r.1]
      refine Ev.t rfl (Ev.g (fitN_small (by show 1 ≤ 1048576; decide) (by decide)) (Ev.g (nibIn hkp i.le) ?_))
      refine Ev.c en ?_
      simp only [hdV_c, tlV_c, parts1_a, asInt_i, asBool_b, asStr_s, asLen_f, asCells_f, tupL_t, refCells_r, ownLen_o]
      exact Ev.t (by rw [eqI_f hst]; rfl) (Ev.some_ (by rw [cut_all eS_len]))
    · refine Ev.fn (fun k => F_impl_proveFrom_a k ..) (Ev.c ei ?_)
      simp only [aItem, hdV_c, tlV_c, parts1_a, asInt_i, asBool_b, asStr_s, asLen_f, asCells_f, tupL_t, refCells_r, ownLen_o]
      refine Ev.c ui ?_
      simp only [hdV_c, tlV_c, parts1_a, asInt_i, asBool_b, asStr_s, asLen_f, asCells_f, tupL_t, refCells_r, ownLen_o]
      refine Ev.t rfl ?_
      exact Ev.t rfl (Ev.now _)
  | p :: q :: s, i, hi, sh, es, ei =>
    have hp := i.k p (by simp)
    have ha := pinv_lt i
    have h2 : ltI (lenI (p :: q :: s).length) 2 = false := ltI_f (by rw [lenI_c, List.length_cons, List.length_cons]; omega)
    have esh := impl_shared_ev i
    rcases sh with ⟨n, hn0, hn, y, rfl⟩ | ⟨hn, f, rfl, hf⟩
    · rw [hn] at esh
      obtain ⟨han, inv⟩ := shr_inv (p := p) (r := q :: s) i hn.symm
      obtain ⟨w1, w2, w3⟩ := leaf_round hp a n false
      obtain ⟨z, u, st, en, _, hs2⟩ := next_two _ y _ false w2 w1 (by omega) ((nibK kp).drop a)
      have hs3 := hs2 rfl
      have wl : (((nibK p).drop a).take n).length = n := by rw [List.length_take, List.length_drop, nibK_len hp]; omega
      rw [wl] at hs3
      have hc1 := common_iff (x := ((nibK p).drop a).take n) (y := (nibK kp).drop a) (n := n) (by omega) (by rw [List.length_drop, nibK_len hkp]; omega)
      have hc2 := common_iff (x := (nibK kp).drop a) (y := (nibK p).drop a) (n := n) (by rw [List.length_drop, nibK_len hkp]; omega) (by rw [List.length_drop, nibK_len hp]; omega)
      rw [List.take_take, Nat.min_self] at hc1
      have e1 : wr .i64 (addI (a : Int) (n : Int)) = ((a + n : Nat) : Int) := by rw [addI_d, wr64 (by omega)]; omega
      by_cases hm : ((nibK p).drop a).take n = ((nibK kp).drop a).take n
      · obtain ⟨hst, hu⟩ := hs3.2 (by have := hc1.2 hm; omega)
        subst hst
        subst hu
        have hall : ∀ t ∈ p :: q :: s, (nibK t).take (a + n) = (nibK kp).take (a + n) := fun t ht => by
          rw [inv.s t ht p (by simp), List.take_add, List.take_add, hi p (by simp), hm]
        obtain ⟨res, hb, rs, ri⟩ := prove_ev kp hkp 9 (p :: q :: s) (a + n) inv hall (by omega) [r.1] (by show 1 + _ ≤ _; omega)
        refine ⟨res, hb, ?_, ?_⟩
        · refine Ev.step (fun k m _ _ => L_spec_ProveTrie_0_s k m _ _ _ _ _ _ _ _) ?_
          refine Ev.c es ?_
          simp only [aItem, hdV_c, tlV_c, parts1_a, asInt_i, asBool_b, asStr_s, asLen_f, asCells_f, tupL_t, refCells_r, ownLen_o]
          refine Ev.c us ?_
          simp only [hdV_c, tlV_c, parts1_a, asInt_i, asBool_b, asStr_s, asLen_f, asCells_f, tupL_t, refCells_r, ownLen_o, nibLen, nibCut, catT, addT r.1]
          refine Ev.t rfl (Ev.g (fitN_small (by show 1 ≤ 1048576; decide) (by decide)) (Ev.g (nibIn hkp i.le) ?_))
          refine Ev.c en ?_
          simp only [hdV_c, tlV_c, parts1_a, asInt_i, asBool_b, asStr_s, asLen_f, asCells_f, tupL_t, refCells_r, ownLen_o]
          refine Ev.f rfl (Ev.l1 (spec_keep_l kp hkp (p :: q :: s) i.n i.k a n han (r := _) ?_ (p :: q :: s).length 0 [] (by omega) (Nat.le_refl _) rfl))
          rw [keep_all hall]
          exact rs
        · refine Ev.fn (fun k => F_impl_proveFrom_a k ..) (Ev.c ei ?_)
          simp only [aItem, hdV_c, tlV_c, parts1_a, asInt_i, asBool_b, asStr_s, asLen_f, asCells_f, tupL_t, refCells_r, ownLen_o]
          refine Ev.c ui ?_
          simp only [hdV_c, tlV_c, parts1_a, asInt_i, asBool_b, asStr_s, asLen_f, asCells_f, tupL_t, refCells_r, ownLen_o]
          refine Ev.t rfl ?_
          refine Ev.f h2 (Ev.c esh (Ev.f (eqI_f (by simp only [hdV_c, tlV_c, parts1_a, asInt_i, asBool_b, asStr_s, asLen_f, asCells_f, tupL_t, refCells_r, ownLen_o]; omega)) (Ev.g (nibIn hkp i.le) (Ev.g (inR_n (i := 0) (by simp)) ?_))))
          simp only [pc0, asStr_s]
          refine Ev.g rfl (Ev.c (impl_nib hp) ?_)
          simp only [hdV_c, tlV_c, parts1_a, asInt_i, asBool_b, asStr_s, asLen_f, asCells_f, tupL_t, refCells_r, ownLen_o, nibLen, nibCut, e1]
          refine Ev.g (nibIn hp i.le) (Ev.c (impl_Common_ev _ _ (drop_le8 hkp a)) (Ev.f (ltI_f (by simp only [hdV_c, tlV_c, parts1_a, asInt_i, asBool_b, asStr_s, asLen_f, asCells_f, tupL_t, refCells_r, ownLen_o]; have := hc2.2 hm.symm; omega)) (Ev.c ri (Ev.g rfl ?_))))
          simp only [hdV_c, tlV_c, parts1_a, asInt_i, asBool_b, asStr_s, asLen_f, asCells_f, tupL_t, refCells_r, ownLen_o]
          exact Ev.now _
      · have hst := hs3.1 (lt_of_nle (fun x => hm (hc1.1 x)))
        refine ⟨[r.1], by show 1 ≤ 900; decide, ?_, ?_⟩
        · refine Ev.step (fun k m _ _ => L_spec_ProveTrie_0_s k m _ _ _ _ _ _ _ _) ?_
          refine Ev.c es ?_
          simp only [aItem, hdV_c, tlV_c, parts1_a, asInt_i, asBool_b, asStr_s, asLen_f, asCells_f, tupL_t, refCells_r, ownLen_o]
          refine Ev.c us ?_
          simp only [hdV_c, tlV_c, parts1_a, asInt_i, asBool_b, asStr_s, asLen_f, asCells_f, tupL_t, refCells_r, ownLen_o, nibLen, nibCut, catT, addT r.1]
          refine Ev.t rfl (Ev.g (fitN_small (by show 1 ≤ 1048576; decide) (by decide)) (Ev.g (nibIn hkp i.le) ?_))
          refine Ev.c en ?_
          simp only [hdV_c, tlV_c, parts1_a, asInt_i, asBool_b, asStr_s, asLen_f, asCells_f, tupL_t, refCells_r, ownLen_o]
          exact Ev.t (by rw [eqI_f hst]; rfl) (Ev.some_ (by rw [cut_all eS_len]))
        · refine Ev.fn (fun k => F_impl_proveFrom_a k ..) (Ev.c ei ?_)
          simp only [aItem, hdV_c, tlV_c, parts1_a, asInt_i, asBool_b, asStr_s, asLen_f, asCells_f, tupL_t, refCells_r, ownLen_o]
          refine Ev.c ui ?_
          simp only [hdV_c, tlV_c, parts1_a, asInt_i, asBool_b, asStr_s, asLen_f, asCells_f, tupL_t, refCells_r, ownLen_o]
          refine Ev.t rfl ?_
          refine Ev.f h2 (Ev.c esh (Ev.f (eqI_f (by simp only [hdV_c, tlV_c, parts1_a, asInt_i, asBool_b, asStr_s, asLen_f, asCells_f, tupL_t, refCells_r, ownLen_o]; omega)) (Ev.g (nibIn hkp i.le) (Ev.g (inR_n (i := 0) (by simp)) ?_))))
          simp only [pc0, asStr_s]
          refine Ev.g rfl (Ev.c (impl_nib hp) ?_)
          simp only [hdV_c, tlV_c, parts1_a, asInt_i, asBool_b, asStr_s, asLen_f, asCells_f, tupL_t, refCells_r, ownLen_o, nibLen, nibCut, e1]
          exact Ev.g (nibIn hp i.le) (Ev.c (impl_Common_ev _ _ (drop_le8 hkp a)) (Ev.t (ltI_t (lt_of_nle (fun x => hm (hc2.1 x).symm))) (Ev.now _)))
    · rw [hn] at esh
      obtain ⟨h, h16, hd, hh⟩ := drop_cons_nib hkp ha
      obtain ⟨z, u, st, en, hs1, hs2⟩ := next_many f h h16 ((nibK kp).drop (a + 1))
      rw [← hd] at en
      have e1 : wr .i64 (addI (a : Int) 1) = ((a + 1 : Nat) : Int) := wrS (by omega)
      have cK : cellAt ((nibK kp).flatMap eI) (mulN (natI (a : Int)) 1) = .int .i64 (h : Int) := by rw [nibAt hkp ha, hh]
      have eh := impl_half_ev h a ha (p :: q :: s) i.n i.k
      by_cases hm : filt h a (p :: q :: s) = []
      · have hst := hs1 ((hf h h16).1 hm)
        rw [hm] at eh
        refine ⟨[r.1], by show 1 ≤ 900; decide, ?_, ?_⟩
        · refine Ev.step (fun k m _ _ => L_spec_ProveTrie_0_s k m _ _ _ _ _ _ _ _) ?_
          refine Ev.c es ?_
          simp only [aItem, hdV_c, tlV_c, parts1_a, asInt_i, asBool_b, asStr_s, asLen_f, asCells_f, tupL_t, refCells_r, ownLen_o]
          refine Ev.c us ?_
          simp only [hdV_c, tlV_c, parts1_a, asInt_i, asBool_b, asStr_s, asLen_f, asCells_f, tupL_t, refCells_r, ownLen_o, nibLen, nibCut, catT, addT r.1]
          refine Ev.t rfl (Ev.g (fitN_small (by show 1 ≤ 1048576; decide) (by decide)) (Ev.g (nibIn hkp i.le) ?_))
          refine Ev.c en ?_
          simp only [hdV_c, tlV_c, parts1_a, asInt_i, asBool_b, asStr_s, asLen_f, asCells_f, tupL_t, refCells_r, ownLen_o]
          exact Ev.t (by rw [eqI_f hst]; rfl) (Ev.some_ (by rw [cut_all eS_len]))
        · refine Ev.fn (fun k => F_impl_proveFrom_a k ..) (Ev.c ei ?_)
          simp only [aItem, hdV_c, tlV_c, parts1_a, asInt_i, asBool_b, asStr_s, asLen_f, asCells_f, tupL_t, refCells_r, ownLen_o]
          refine Ev.c ui ?_
          simp only [hdV_c, tlV_c, parts1_a, asInt_i, asBool_b, asStr_s, asLen_f, asCells_f, tupL_t, refCells_r, ownLen_o]
          refine Ev.t rfl ?_
          refine Ev.f h2 (Ev.c esh (Ev.t (eqI_t (by simp only [hdV_c, tlV_c, parts1_a, asInt_i, asBool_b, asStr_s, asLen_f, asCells_f, tupL_t, refCells_r, ownLen_o]; rfl)) (Ev.g (inR_n (by rw [nibK_len hkp]; exact ha)) ?_)))
          simp only [cK, hdV_c, tlV_c, parts1_a, asInt_i, asBool_b, asStr_s, asLen_f, asCells_f, tupL_t, refCells_r, ownLen_o]
          refine Ev.g rfl (Ev.c eh ?_)
          simp only [hdV_c, tlV_c, parts1_a, asInt_i, asBool_b, asStr_s, asLen_f, asCells_f, tupL_t, refCells_r, ownLen_o, e1]
          refine Ev.c (impl_prove_nil kp ((a + 1 : Nat) : Int) [r.1]) (Ev.g rfl ?_)
          simp only [hdV_c, tlV_c, parts1_a, asInt_i, asBool_b, asStr_s, asLen_f, asCells_f, tupL_t, refCells_r, ownLen_o]
          exact Ev.now _
      · obtain ⟨hst, hu⟩ := hs2 ((hf h h16).2 hm)
        subst hst
        subst hu
        obtain ⟨res, hb, rs, ri⟩ := prove_ev kp hkp 9 (filt h a (p :: q :: s)) (a + 1) (filt_inv i ha h) (filt_nil_take hkp ha i.k hi hh) (by omega) [r.1] (by show 1 + _ ≤ _; omega)
        refine ⟨res, hb, ?_, ?_⟩
        · refine Ev.step (fun k m _ _ => L_spec_ProveTrie_0_s k m _ _ _ _ _ _ _ _) ?_
          refine Ev.c es ?_
          simp only [aItem, hdV_c, tlV_c, parts1_a, asInt_i, asBool_b, asStr_s, asLen_f, asCells_f, tupL_t, refCells_r, ownLen_o]
          refine Ev.c us ?_
          simp only [hdV_c, tlV_c, parts1_a, asInt_i, asBool_b, asStr_s, asLen_f, asCells_f, tupL_t, refCells_r, ownLen_o, nibLen, nibCut, catT, addT r.1]
          refine Ev.t rfl (Ev.g (fitN_small (by show 1 ≤ 1048576; decide) (by decide)) (Ev.g (nibIn hkp i.le) ?_))
          refine Ev.c en ?_
          simp only [hdV_c, tlV_c, parts1_a, asInt_i, asBool_b, asStr_s, asLen_f, asCells_f, tupL_t, refCells_r, ownLen_o]
          refine Ev.f rfl (Ev.l1 (spec_keep_l kp hkp (p :: q :: s) i.n i.k a 1 (by omega) (r := _) ?_ (p :: q :: s).length 0 [] (by omega) (Nat.le_refl _) rfl))
          rw [keep_filt hkp ha i.k hi hh]
          exact rs
        · refine Ev.fn (fun k => F_impl_proveFrom_a k ..) (Ev.c ei ?_)
          simp only [aItem, hdV_c, tlV_c, parts1_a, asInt_i, asBool_b, asStr_s, asLen_f, asCells_f, tupL_t, refCells_r, ownLen_o]
          refine Ev.c ui ?_
          simp only [hdV_c, tlV_c, parts1_a, asInt_i, asBool_b, asStr_s, asLen_f, asCells_f, tupL_t, refCells_r, ownLen_o]
          refine Ev.t rfl ?_
          refine Ev.f h2 (Ev.c esh (Ev.t (eqI_t (by simp only [hdV_c, tlV_c, parts1_a, asInt_i, asBool_b, asStr_s, asLen_f, asCells_f, tupL_t, refCells_r, ownLen_o]; rfl)) (Ev.g (inR_n (by rw [nibK_len hkp]; exact ha)) ?_)))
          simp only [cK, hdV_c, tlV_c, parts1_a, asInt_i, asBool_b, asStr_s, asLen_f, asCells_f, tupL_t, refCells_r, ownLen_o]
          refine Ev.g rfl (Ev.c eh ?_)
          simp only [hdV_c, tlV_c, parts1_a, asInt_i, asBool_b, asStr_s, asLen_f, asCells_f, tupL_t, refCells_r, ownLen_o, e1]
          refine Ev.c ri (Ev.g rfl ?_)
          simp only [hdV_c, tlV_c, parts1_a, asInt_i, asBool_b, asStr_s, asLen_f, asCells_f, tupL_t, refCells_r, ownLen_o]
          exact Ev.now _
theorem proveTrie_ev (xs : List TPair) (hl : xs.length ≤ 1048576) (hs : ∀ y ∈ xs, smPair y) (x : ByteArray) (hx : x.size ≤ 1048576) :
    ∃ res : List ByteArray, res.length ≤ 900 ∧ Does cp n_spec_ProveTrie [.fs xs.length (xs.flatMap ePair), .str x] [.fs res.length (res.flatMap eS)] ∧ Does cp n_impl_ProveTrie [.fs xs.length (xs.flatMap ePair), .str x] [.fs res.length (res.flatMap eS)] := by
  have e4 : eqI (lenI (lenS x)) 4 = decide (x.size = 4) := by rw [eqI_d, lenI_c, lenS_d, decide_eq_decide]; omega
  cases hok : pairsOk xs with
  | false =>
    refine ⟨[], by decide, Ev.fn (fun k => F_spec_ProveTrie k ..) (Ev.c (spec_PairsOk_ev xs hl hs) (Ev.t ?_ (Ev.now _))), Ev.fn (fun k => F_impl_ProveTrie k ..) (Ev.b (fun _ => Ev.now _) (fun _ => Ev.c (impl_PairsOk_ev xs hl) (Ev.t ?_ (Ev.now _))))⟩
    · simp only [hdV_c, tlV_c, parts1_a, asInt_i, asBool_b, asStr_s, asLen_f, asCells_f, tupL_t, refCells_r, ownLen_o, hok]; rfl
    · simp only [hdV_c, tlV_c, parts1_a, asInt_i, asBool_b, asStr_s, asLen_f, asCells_f, tupL_t, refCells_r, ownLen_o, hok]; rfl
  | true =>
    by_cases h4 : x.size = 4
    · obtain ⟨res, hr, rs, ri⟩ := prove_top (x, ⟨#[]⟩) h4 xs 0 (pinv_of hok) (fun p _ => by simp)
      refine ⟨res, hr, Ev.fn (fun k => F_spec_ProveTrie k ..) (Ev.c (spec_PairsOk_ev xs hl hs) (Ev.f ?_ (Ev.f (by rw [e4, decide_eq_true h4]; rfl) (Ev.c (spec_NibblesOf_ev x (by omega)) ?_)))), Ev.fn (fun k => F_impl_ProveTrie k ..) (Ev.f (by rw [e4, decide_eq_true h4]; rfl) (Ev.c (impl_PairsOk_ev xs hl) (Ev.f ?_ (Ev.c (impl_NibblesOf_ev x (by omega)) ?_))))⟩
      · simp only [hdV_c, tlV_c, parts1_a, asInt_i, asBool_b, asStr_s, asLen_f, asCells_f, tupL_t, refCells_r, ownLen_o, hok]; rfl
      · simp only [hdV_c, tlV_c, parts1_a, asInt_i, asBool_b, asStr_s, asLen_f, asCells_f, tupL_t, refCells_r, ownLen_o]
        exact rs.l0
      · simp only [hdV_c, tlV_c, parts1_a, asInt_i, asBool_b, asStr_s, asLen_f, asCells_f, tupL_t, refCells_r, ownLen_o, hok]; rfl
      · simp only [hdV_c, tlV_c, parts1_a, asInt_i, asBool_b, asStr_s, asLen_f, asCells_f, tupL_t, refCells_r, ownLen_o]
        refine Ev.c ri (Ev.g rfl ?_)
        simp only [hdV_c, tlV_c, parts1_a, asInt_i, asBool_b, asStr_s, asLen_f, asCells_f, tupL_t, refCells_r, ownLen_o]
        exact Ev.some_ (by rw [cut_all eS_len])
    · refine ⟨[], by decide, Ev.fn (fun k => F_spec_ProveTrie k ..) (Ev.c (spec_PairsOk_ev xs hl hs) (Ev.f ?_ (Ev.t (by rw [e4, decide_eq_false h4]; rfl) (Ev.now _)))), Ev.fn (fun k => F_impl_ProveTrie k ..) (Ev.t (by rw [e4, decide_eq_false h4]; rfl) (Ev.now _))⟩
      simp only [hdV_c, tlV_c, parts1_a, asInt_i, asBool_b, asStr_s, asLen_f, asCells_f, tupL_t, refCells_r, ownLen_o, hok]; rfl
theorem markPairS_l (n : Nat) (hn : n ≤ 1048576) (d : Nat) : ∀ (i kk : Nat) (b : List AV), i + d = n → b.length = n * 2 → kk + 2 * d ≤ 10000000 →
    ∃ (b' : List AV) (k' : Nat), Ev (fun k m _ _ => L_laws_markPairS_a_0 k m n (i : Int) (kk : Int) b) [.tup [.ref true 63 b'], .int .i64 (k' : Int)] := by
  induction d with
  | zero =>
    intro i kk b hi hb hk
    exact ⟨b, kk, Ev.step (fun k m _ _ => L_laws_markPairS_a_0_s k m _ _ _ _) (Ev.f (ltI_f (by rw [lenI_c]; omega)) (Ev.now _))⟩
  | succ d ih =>
    intro i kk b hi hb hk
    have e1 : wr .i64 (addI (kk : Int) 1) = ((kk + 1 : Nat) : Int) := wrS (by omega)
    have e2 : wr .i64 (addI ((kk + 1 : Nat) : Int) 1) = ((kk + 2 : Nat) : Int) := wrS (by omega)
    have e3 : wr .i64 (addI (i : Int) 1) = ((i + 1 : Nat) : Int) := wrS (by omega)
    obtain ⟨b', k', e⟩ := ih (i + 1) (kk + 2) (setMany (setMany b (i * 2) [.str (mT kk)]) (i * 2 + 1) [.str (mT (kk + 1))]) (by omega) (by rw [set1_len, set1_len]; exact hb) (by omega)
    refine ⟨b', k', Ev.step (fun k m _ _ => L_laws_markPairS_a_0_s k m _ _ _ _) (Ev.t (ltI_t (by rw [lenI_c]; omega)) (Ev.c (laws_markText_ev kk (by omega)) (Ev.g (inR_n (by omega)) (Ev.g ?_ ?_))))⟩
    · rw [addN_d, mulN_d, natI_c, hb]
      exact Nat.ble_eq_true_of_le (by omega)
    · rw [e1]
      refine Ev.c (laws_markText_ev (kk + 1) (by omega)) (Ev.g (inR_n (by omega)) (Ev.g ?_ ?_))
      · rw [set1_len, addN_d, addN_d, mulN_d, natI_c, hb]
        exact Nat.ble_eq_true_of_le (by omega)
      · simp only [hdV_c, tlV_c, parts1_a, asInt_i, asBool_b, asStr_s, asLen_f, asCells_f, tupL_t, refCells_r, ownLen_o, addN_d, mulN_d, natI_c, Nat.zero_add, e2, e3]
        exact e
theorem markPairS_ev (xs : List TPair) (hl : xs.length ≤ 1048576) : ∃ (b : List AV) (k' : Nat), Does cp n_laws_markPairS [.tup [.ref true 63 (xs.flatMap ePair)], .own 0 0 xs.length, .int .i64 1] [.tup [.ref true 63 b], .int .i64 (k' : Int)] := by
  obtain ⟨b, k', e⟩ := markPairS_l xs.length hl xs.length 0 1 (xs.flatMap ePair) (by omega) (encs_len ePair_len xs) (by omega)
  exact ⟨b, k', Ev.fn (fun k => F_laws_markPairS_a k _ _ _) e.l0⟩
theorem plain_strs (ys : List ByteArray) : plainRes [.fs ys.length (ys.flatMap eS)] = true := by
  have : (ys.flatMap eS).all plain1 = true := by
    rw [List.all_eq_true]
    intro v hv
    obtain ⟨p, _, h⟩ := List.mem_flatMap.1 hv
    simp only [eS, List.mem_cons, List.not_mem_nil, or_false] at h
    rcases h with rfl; rfl
  simp [plainRes, AV.parts1, plainV, this]
theorem law_ProveTrie (xs : List TPair) (hl : xs.length ≤ 9223372036854775807) (hs : ∀ y ∈ xs, bigPair y) (x : ByteArray) : ∃ k, evF cp k n_laws_FnExactProveTrie [.fs xs.length (xs.flatMap ePair), .str x] = some [.bool true] := by
  apply Ev.rounds
  refine Ev.fn (fun k => F_laws_FnExactProveTrie k ..) (Ev.b (fun _ => Ev.now _) (fun hx => ?_))
  have hx' : x.size ≤ 1048576 := by
    have := ltI_fo hx
    rw [lenI_c, lenS_d] at this
    omega
  obtain ⟨r, e, p⟩ := laws_szPairS_ev xs hl hs 1048576 (by omega) (by omega)
  refine Ev.c e ?_
  simp only [hdV_c, tlV_c, parts1_a, asInt_i, asBool_b, asStr_s, asLen_f, asCells_f, tupL_t, refCells_r, ownLen_o]
  by_cases h0 : r < 0
  · exact Ev.t (ltI_t h0) (Ev.now _)
  refine Ev.f (ltI_f h0) ?_
  obtain ⟨_, l1, l2⟩ := p (by omega)
  have et := laws_toPairS_ev xs l1
  have eq := laws_eqPairS_same xs l1
  obtain ⟨res, hr, us, ui⟩ := proveTrie_ev xs l1 l2 x hx'
  obtain ⟨mb, mn, em⟩ := markPairS_ev xs l1
  have er := laws_eqStringS_same res (by omega)
  have ems := laws_markStringS_ev res 1 (by omega)
  have eh := laws_heldStringS_ev res.length 1 (by omega)
  have hpl := plain_strs res
  have hcm : cutC ((mS res.length 1).flatMap eS) 0 (mulN res.length 1) = (mS res.length 1).flatMap eS := by
    have := cut_all eS_len (mS res.length 1)
    rw [mS_len] at this
    exact this
  refine Ev.c et ?_
  simp only [hdV_c, tlV_c, parts1_a, asInt_i, asBool_b, asStr_s, asLen_f, asCells_f, tupL_t, refCells_r, ownLen_o, cut_all ePair_len]
  refine Ev.c us (Ev.c et ?_)
  simp only [hdV_c, tlV_c, parts1_a, asInt_i, asBool_b, asStr_s, asLen_f, asCells_f, tupL_t, refCells_r, ownLen_o, cut_all ePair_len]
  refine Ev.c ui (Ev.g hpl ?_)
  simp only [hdV_c, tlV_c, parts1_a, asInt_i, asBool_b, asStr_s, asLen_f, asCells_f, tupL_t, refCells_r, ownLen_o, cut_all eS_len]
  refine Ev.c er (Ev.f rfl (Ev.c et ?_))
  simp only [hdV_c, tlV_c, parts1_a, asInt_i, asBool_b, asStr_s, asLen_f, asCells_f, tupL_t, refCells_r, ownLen_o, cut_all ePair_len]
  refine Ev.c eq (Ev.f rfl (Ev.c em (Ev.g rfl (Ev.f (ltI_f (by simp only [hdV_c, tlV_c, parts1_a, asInt_i, asBool_b, asStr_s, asLen_f, asCells_f, tupL_t, refCells_r, ownLen_o]; omega)) (Ev.c er (Ev.f rfl (Ev.c ems (Ev.g rfl ?_))))))))
  simp only [hdV_c, tlV_c, parts1_a, asInt_i, asBool_b, asStr_s, asLen_f, asCells_f, tupL_t, refCells_r, ownLen_o, hcm]
  refine Ev.c eh (Ev.f (ltI_f (by simp only [hdV_c, tlV_c, parts1_a, asInt_i, asBool_b, asStr_s, asLen_f, asCells_f, tupL_t, refCells_r, ownLen_o]; omega)) (Ev.f (by (try simp only [hdV_c, tlV_c, parts1_a, asInt_i, asBool_b, asStr_s, asLen_f, asCells_f, tupL_t, refCells_r, ownLen_o]); rw [eqI_t rfl]; rfl) (Ev.c et ?_)))
  simp only [hdV_c, tlV_c, parts1_a, asInt_i, asBool_b, asStr_s, asLen_f, asCells_f, tupL_t, refCells_r, ownLen_o, cut_all ePair_len]
  refine Ev.c ui (Ev.g hpl ?_)
  simp only [hdV_c, tlV_c, parts1_a, asInt_i, asBool_b, asStr_s, asLen_f, asCells_f, tupL_t, refCells_r, ownLen_o, cut_all eS_len]
  exact Ev.c er (Ev.f rfl (Ev.c eh (Ev.f (ltI_f (by simp only [hdV_c, tlV_c, parts1_a, asInt_i, asBool_b, asStr_s, asLen_f, asCells_f, tupL_t, refCells_r, ownLen_o]; omega)) (Ev.f (by (try simp only [hdV_c, tlV_c, parts1_a, asInt_i, asBool_b, asStr_s, asLen_f, asCells_f, tupL_t, refCells_r, ownLen_o]); rw [eqI_t rfl]; rfl) (Ev.now _)))))


end Go.Proofs.YtlbapjocadmaeaaDoor.FnExactProveTrie
