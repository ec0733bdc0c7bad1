/- A part of the proof: RgAll, RefPeer. -/
import Derived.Test.YtpfjjpihnibnhaaRa17
import Derived.Deep.LoopGhost

set_option linter.unusedVariables false
set_option linter.unusedSimpArgs false
namespace Go.Proofs.Ytpfjjpihnibnhaa
open Go.RowKit Go.Maps Bdd

theorem startF_snoc {L : List StepT} {k : Nat} {t : StepT} (h : L[k]? = some t) : startF (L.take (k + 1)) = fun x => if t.src = x then (fun _ => true) else startF (L.take k) x := by
  obtain ⟨hk, e⟩ := List.getElem?_eq_some_iff.1 h
  rw [List.take_succ_eq_append_getElem hk, e]
  funext x a
  rw [Bool.eq_iff_iff]
  by_cases ht : t.src = x
  · rw [if_pos ht, startF_at]
    simp [ht]
  · rw [if_neg ht, startF_at, startF_at]
    simp [ht]
structure SG (B g base : Nat) (v : Value) (l : List StepV) (L : List StepT) (A : St) (sb : Nat) (M : PoK → Option Value) (S : Pl → Bdd.Fn) (wr : World) (more : List Nat) : Prop where
  row : RowS wr B g A base 76 5 v l.length (l.flatMap StepV.cells) (more ++ [sb])
  ok : StepsOk A l L
  m : MapPl wr sb M
  s : SetsOk A M S (srcs L)

section
variable {B g base : Nat} {v : Value} {l : List StepV} {L : List StepT} {A : St} {sb : Nat} {M : PoK → Option Value} {S : Pl → Bdd.Fn} {wr w' : World} {more : List Nat}
theorem SG.below (h : SG B g base v l L A sb M S wr more) (hb : RowKit.Below wr.heap.size wr w') : SG B g base v l L A sb M S w' more := ⟨h.row.below hb, h.ok, h.m.same (hb.block sb h.m.lt), h.s⟩
theorem SG.alloc (h : SG B g base v l L A sb M S wr more) (o : Obj) : SG B g base v l L A sb M S (wr.alloc o) (wr.heap.size :: more) := ⟨h.row.alloc o, h.ok, (h.below (below_alloc2 wr o)).m, h.s⟩
theorem SG.less {more' : List Nat} (h : SG B g base v l L A sb M S wr more) (hs : ∀ j ∈ more', j ∈ more) : SG B g base v l L A sb M S wr more' :=
  ⟨h.row.less (fun j hj => by
    rcases List.mem_append.1 hj with a | a
    · exact List.mem_append_left _ (hs j a)
    · exact List.mem_append_right _ a), h.ok, h.m, h.s⟩
theorem SG.start (h : RowS wr B g A base 76 5 v l.length (l.flatMap StepV.cells) []) (hok : StepsOk A l L) : SG B g base v l L A wr.heap.size (fun _ => none) (startF []) (wr.alloc (.map #[] 0)) [] :=
  ⟨h.alloc _, hok, MapIs.made wr, SetsOk.empty h.sa.inv _⟩
theorem SG.store (h : SG B g base v l L A sb M S wr more) {a : Pl} {n : Nat} {F : Bdd.Fn} (ha : poDom a) (hk : a ∈ srcs L) (hF : IsF A n F) (hL : L.length ≤ 1000) (hv : ∀ q, v.ownBlock = some q → q ≠ sb) :
    ∃ w', (Instr.mapUpdate 74 (.map (some sb)) (poVal a) (.int .i64 (n : Int))).run Try.prog wr = .ok () w' ∧ SG B g base v l L A sb (putM M a (.int .i64 (n : Int))) (fun x => if a = x then F else S x) w' more ∧ RowKit.Below B wr w' := by
  obtain ⟨w', hrun, r1, r2⟩ := h.m.storeA placeKeys (srcs L) (by rw [srcs_len]; unfold maxLen; omega) (fun x _ hx => h.s.keys x hx) Try.underlying74 ha (.int .i64 (n : Int))
  have hg := r2.grown
  have hB := h.row.sa.hB
  have hlts := h.row.sa.lt
  have hblk : ∀ j, j < wr.heap.size → j ≠ sb → w'.heap[j]? = wr.heap[j]? := fun j hj hn => hg.block j hj (fun e => by cases e; exact hn rfl)
  exact ⟨w', hrun, ⟨⟨h.row.sa.grown hg (fun j hj => by cases hj; simp), own_same h.row.own (fun q hq => hblk q (h.row.own.lt q hq).2 (hv q hq)), h.row.ap⟩, h.ok, r1, h.s.put ha hk hF⟩,
    ⟨hg.os, hg.tape, hg.output, hg.size, fun i hi => hblk i (by omega) (by have := (hlts sb (by simp)).1; omega)⟩⟩
theorem SH.sgw {w : World} {nbk wb : Nat} {A0 : St} {Mw : PoK → Option Value} {Sw : Pl → Bdd.Fn} (h : SH w B g A0 [] base v l L wb nbk Mw Sw wr A M S []) : SG B g base v l L A wb Mw Sw wr [] :=
  ⟨h.row.less (fun j hj => by simp at hj; simp [hj]), h.ok, h.mw, h.sw⟩
theorem SH.sg {w : World} {nbk wb : Nat} {A0 : St} {Mw : PoK → Option Value} {Sw : Pl → Bdd.Fn} (h : SH w B g A0 [] base v l L wb nbk Mw Sw wr A M S []) : SG B g base v l L A nbk M S wr [] :=
  ⟨h.row.less (fun j hj => by simp at hj; simp [hj]), h.ok, h.mn, h.sn⟩
end

theorem sets_same {A : St} {M M' : PoK → Option Value} {S S' : Pl → Bdd.Fn} {ks : List Pl} (h : SetsOk A M S ks) (h' : SetsOk A M' S' ks) (hle : ∀ x a, S' x a = true → S x a = true) (hs : ∀ x, (M x).isSome = true → numAt M' x = numAt M x) (x : Pl) : S' x = S x := by
  cases e : M x with
  | some v =>
    have := hs x (by rw [e]; rfl)
    rw [← (h.isF x).2, ← (h'.isF x).2, this]
  | none =>
    have h0 : S x = fun _ => false := by rw [← (h.isF x).2, numAt_none e, den_zero]
    rw [h0]
    funext a
    cases hb : S' x a
    · rfl
    · have := hle x a hb
      rw [h0] at this
      cases this
theorem sets_diff {A : St} {M M' : PoK → Option Value} {S S' : Pl → Bdd.Fn} {ks : List Pl} (i : Inv A) (h : SetsOk A M S ks) (h' : SetsOk A M' S' ks) {x : Pl} (hx : (M x).isSome = true) (hne : numAt M' x ≠ numAt M x) : x ∈ ks ∧ S' x ≠ S x :=
  ⟨h.keys x hx, fun e => hne ((canon i.ok (h'.isF x).1 (h.isF x).1).1 (by rw [(h'.isF x).2, (h.isF x).2, e]))⟩
theorem srcs_place {ds : List Dev} {ls : List LinkV} {x : Pl} (h : x ∈ srcs (devL ds ls ds.length)) : x ∈ allPl ds ds.length := by
  obtain ⟨t, ht, rfl⟩ := List.mem_map.1 h
  obtain ⟨i, port, k, d, to_, hi, hd, hk, hp, hk4, hto, rfl⟩ := mem_devL ht
  refine mem_allPl.2 ⟨⟨by simp, by simp; omega⟩, by simp, ?_⟩
  have : kindAt ds ((i : Nat) : Int) = 2 := by simp [kindAt, hd, hk]
  show ((k : Nat) : Int) < portsF (kindAt ds ((i : Nat) : Int))
  rw [this]
  have hp4 : portsF 2 = 4 := by decide
  omega
theorem steps_dom {ds : List Dev} {ls : List LinkV} (hn : NetOk ds ls) : ∀ t ∈ devL ds ls ds.length, poDom t.src ∧ poDom t.to_ := fun t ht => by
  obtain ⟨i, port, k, d, to_, hi, hd, hk, hp, hk4, hto, rfl⟩ := mem_devL ht
  have hv := hn.pl _ (peerF_some hn.nd hto).2.1
  obtain ⟨⟨a1, a2⟩, a3, a4⟩ := placeB_iff.1 hv
  have hq := portsF_range (kindAt ds to_.1)
  have hdl := hn.dl
  refine ⟨⟨?_, ?_⟩, ?_, ?_⟩ <;> (simp only [i64ok]; omega)

theorem allPl_succ (ds : List Dev) (n : Nat) : allPl ds (n + 1) = allPl ds n ++ rowPl n (portsN ds n) := by rw [allPl, List.range_succ, List.flatMap_append]; simp [allPl]
theorem rowPl_succ (n k : Nat) : rowPl n (k + 1) = rowPl n k ++ [((n : Int), (k : Int))] := by simp [rowPl, List.range_succ]

def badMost (most : Int) : Prop := most < 2 ∨ 40000 < most
def AllP (W : World) (ds : List Dev) (ls : List LinkV) (most : Int) (e : Ending) (W' : World) : Prop := RowKit.Below W.heap.size W W' ∧
  ((plainE ds ls ≠ 0 ∧ e = .returned (.tuple #[.slice none 0 0, .int .i64 (plainE ds ls)])) ∨
   (plainE ds ls = 0 ∧ badMost most ∧ e = .returned (.tuple #[.slice none 0 0, .int .i64 1])) ∨
   (plainE ds ls = 0 ∧ ¬ badMost most ∧ e = .returned (.tuple #[.slice none 0 0, .int .i64 6])) ∨
   (plainE ds ls = 0 ∧ ¬ badMost most ∧ ∃ (v : Value) (S : Pl → Bdd.Fn), e = .returned (.tuple #[v, .int .i64 0]) ∧ SInv ds ls S ∧ (∀ x, shrinkF (devL ds ls ds.length) S x = S x) ∧
     W'.ownsRow W.heap.size 3 1 v (allPl ds ds.length).length (intCells ((allPl ds ds.length).map fun x => cntF 14 14 (S x)))))

set_option maxRecDepth 100000 in
set_option maxHeartbeats 4000000 in
theorem all_bad (n : NetV) (most : Int) (W : World) (hn : NetAt W W.heap.size n) (h : plainE n.devs n.ls ≠ 0 ∨ badMost most) :
    Calls Try.prog 6 #[n.val, .int .i64 most] W (AllP W n.devs n.ls most) := by
  have HN := hide hn
  clear hn
  obtain ⟨E, hE⟩ : ∃ E, plainE n.devs n.ls = E := ⟨_, rfl⟩
  have HC := hide (fun (w' : World) (hb : RowKit.Below W.heap.size W w') => ringCheck_walk n w' (HN.out.below hb hb.size))
  simp only [hE] at HC h
  have HE := hide hE
  clear hE
  obtain ⟨dA, dn, dc, ds, lA, ln, lc, ls⟩ := n
  simp only [NetV.val, NetV.devs] at *
  go_enter Try.func6, Try.ntmps6
  go_wp2_with fail
  have hb0 := below_alloc2 W (.cells #[.slice dA dn dc, .slice lA ln lc] 25)
  have HB0 := hide hb0
  refine (HC.out _ hb0).mono ?_
  rintro e w1 ⟨rfl, hb⟩
  have HB1 := hide (HB0.out.trans (hb.mono HB0.out.size))
  clear hb hb0
  by_cases h0 : E = 0
  · subst h0
    have hm : badMost most := by rcases h with h | h; exact absurd rfl h; exact h
    have HM := hide hm
    clear h hm
    go_wp2_with fail
    refine (new_most_bad w1 14 most HM.out).mono ?_
    rintro e w2 ⟨rfl, hb⟩
    have HF := hide (show AllP W (ds.map DevV.dev) ls most (.returned (.tuple #[.slice none 0 0, .int .i64 1])) w2 from ⟨HB1.out.trans (hb.mono HB1.out.size), .inr (.inl ⟨HE.out, HM.out, rfl⟩)⟩)
    clear hb
    go_wp2
    go_ret2
    exact HF.out
  · have hE0 : (E != 0) = true := by simpa using h0
    have HF := hide (show AllP W (ds.map DevV.dev) ls most (.returned (.tuple #[.slice none 0 0, .int .i64 E])) w1 from ⟨HB1.out, .inl ⟨by rw [HE.out]; exact h0, by rw [HE.out]⟩⟩)
    clear h h0
    go_wp2
    go_ret2
    exact HF.out

structure SC (B g base : Nat) (L : List StepT) (A : St) (sb : Nat) (M : PoK → Option Value) (S : Pl → Bdd.Fn) (ks : List Pl) (v : Value) (wr : World) (more : List Nat) : Prop where
  row : RowS wr B g A base 3 1 v ks.length (intCells (ks.map fun x => cntF 14 14 (S x))) (more ++ [sb])
  m : MapPl wr sb M
  s : SetsOk A M S (srcs L)
section
variable {B g base : Nat} {v : Value} {ks : List Pl} {L : List StepT} {A : St} {sb : Nat} {M : PoK → Option Value} {S : Pl → Bdd.Fn} {wr w' : World} {more : List Nat}
theorem SC.below (h : SC B g base L A sb M S ks v wr more) (hb : RowKit.Below wr.heap.size wr w') : SC B g base L A sb M S ks v w' more := ⟨h.row.below hb, h.m.same (hb.block sb h.m.lt), h.s⟩
theorem SC.alloc (h : SC B g base L A sb M S ks v wr more) (o : Obj) : SC B g base L A sb M S ks v (wr.alloc o) (wr.heap.size :: more) := ⟨h.row.alloc o, (h.below (below_alloc2 wr o)).m, h.s⟩
theorem SC.less {more' : List Nat} (h : SC B g base L A sb M S ks v wr more) (hs : ∀ j ∈ more', j ∈ more) : SC B g base L A sb M S ks v wr more' :=
  ⟨h.row.less (fun j hj => by
    rcases List.mem_append.1 hj with a | a
    · exact List.mem_append_left _ (hs j a)
    · exact List.mem_append_right _ a), h.m, h.s⟩
theorem SC.start {v0 : Value} {l : List StepV} {base0 : Nat} (h : SG B g base0 v0 l L A sb M S wr []) : SC B g base L A sb M S [] (.slice none 0 0) wr [] := ⟨RowS.nil h.row.sa' _ _ _, h.m, h.s⟩
theorem SC.append {v5 : Value} {x : Pl} (h : SC B g base L A sb M S ks v wr more) (hown : w'.ownsRow base 3 1 v5 (ks.length + 1) (intCells (ks.map fun x => cntF 14 14 (S x)) ++ [.int .i64 ((cntF 14 14 (S x) : Nat) : Int)])) (hg : wr.grownBy w' v.ownBlock) (hat : v5.ownBlock = v.ownBlock ∨ v5.ownBlock = some wr.heap.size) :
    SC B g base L A sb M S (ks ++ [x]) v5 w' more ∧ (∀ j ∈ more, w'.heap[j]? = wr.heap[j]?) ∧ RowKit.Below B wr w' := by
  obtain ⟨r1, r2⟩ := h.row.append hown hg hat
  refine ⟨⟨?_, h.m.same (r2.same sb (by simp)), h.s⟩, fun j hj => r2.same j (by simp [hj]), r2.low⟩
  have e1 : (ks ++ [x]).length = ks.length + 1 := by simp
  have e2 : intCells ((ks ++ [x]).map fun x => cntF 14 14 (S x)) = intCells (ks.map fun x => cntF 14 14 (S x)) ++ [.int .i64 ((cntF 14 14 (S x) : Nat) : Int)] := by simp [intCells]
  rw [e1, e2]
  exact r1
end

set_option maxRecDepth 100000 in
set_option maxHeartbeats 8000000 in
theorem all_good (n : NetV) (most : Nat) (W : World) (hn : NetAt W W.heap.size n) (hE : plainE n.devs n.ls = 0) (hm1 : 2 ≤ most) (hm2 : most ≤ 40000) :
    Calls Try.prog 6 #[n.val, .int .i64 (most : Int)] W (AllP W n.devs n.ls (most : Int)) := by
  obtain ⟨i0, hi0, hz0, hz1, hz2⟩ := info_parts Try.infoInt
  have HNW := hide (fun (w' : World) (hb : RowKit.Below W.heap.size W w') (B' : Nat) (hB : W.heap.size ≤ B') => show NetAt w' B' n from hn.below hb hB)
  have HOK := hide (plainE_ok hE)
  have hro : ∀ d ∈ n.devs, ∀ r ∈ d.rules, r.ok := fun d hd r hr => by
    obtain ⟨dv, hdv, rfl⟩ := List.mem_map.1 hd
    exact (hn.dok dv hdv).rs.2.1 r hr
  have HRO := hide hro
  have HDL := hide (show n.ds.length = n.dn from hn.dlen)
  have hd10 : n.dn ≤ 10 := by have := HOK.out.dl; simp only [NetV.devs, List.length_map] at this; have := HDL.out; omega
  have HM := hide (show ¬ badMost (most : Int) from by unfold badMost; omega)
  have HC := hide (fun (w' : World) (hb : RowKit.Below W.heap.size W w') => ringCheck_walk n w' (hn.below hb hb.size))
  have HE := hide hE
  simp only [hE] at HC
  clear hn hE hro
  have hmm := @run_makeMap Try.prog
  obtain ⟨dA, dn, dc, ds, lA, ln, lc, ls⟩ := n
  simp only [NetV.val, NetV.devs] at *
  go_enter Try.func6, Try.ntmps6
  go_wp2_with fail
  have hb0 := below_alloc2 W (.cells #[.slice dA dn dc, .slice lA ln lc] 25)
  have HB0 := hide hb0
  have HX0 := hide (Bx.new W #[.slice dA dn dc, .slice lA ln lc] 25)
  refine (HC.out _ hb0).mono ?_
  clear HC
  rintro e w1 ⟨rfl, hb⟩
  have HB1 := hide (HB0.out.trans (hb.mono HB0.out.size))
  have HX1 := hide (HX0.out.below hb)
  clear hb hb0 HB0 HX0
  go_wp2_with fail
  refine (as_new w1 14 most (by omega) (by omega) hm1 hm2).mono ?_
  rintro e w2 ⟨g, rfl, has, hb⟩
  have HA2 := hide has
  have HB2 := hide (HB1.out.trans (hb.mono HB1.out.size))
  have HX2 := hide (HX1.out.below hb)
  have HBL := hide (Nat.lt_of_lt_of_le HX1.out.lt (Nat.le_refl _))
  clear has hb
  have x0 : w2.cell? ⟨W.heap.size, 0, none⟩ = some (.slice dA dn dc) := HX2.out.get 0 _ rfl
  have x1 : w2.cell? ⟨W.heap.size, 1, none⟩ = some (.slice lA ln lc) := HX2.out.get 1 _ rfl
  go_wp2_with fail
  refine (steps_walk w2 w1.heap.size g (newSt 14 most) [] ⟨dA, dn, dc, ds, lA, ln, lc, ls⟩ HA2.out rfl (HNW.out w2 HB2.out _ HB1.out.size) HE.out).mono ?_
  clear x0 x1
  rintro e w3 ⟨A3, hext, hkp, hres⟩
  have HL3 := hide hkp.low
  have HX3 := hide (HX2.out.same (hkp.low.block _ HBL.out))
  have HV3 := hide (show A3.vars = 14 from hext.vars)
  clear hext hkp
  rcases hres with ⟨v, l, rfl, hrow, hok⟩ | ⟨rfl, _⟩
  case inr =>
    have HF := hide (show AllP W (ds.map DevV.dev) ls (most : Int) (.returned (.tuple #[.slice none 0 0, .int .i64 6])) w3 from ⟨HB2.out.trans (HL3.out.mono HB1.out.size), .inr (.inr (.inl ⟨HE.out, HM.out, rfl⟩))⟩)
    go_wp2
    go_ret2
    exact HF.out
  replace hok : StepsOk A3 l (devL (ds.map DevV.dev) ls (ds.map DevV.dev).length) := hok
  obtain ⟨A0, c0, rfl, hc0, _, _⟩ := SlAt.of_own StepV.len hrow.own rfl
  have hll : l.length ≤ 160 := by have h1 := hok.1; have h2 := devL_len (ds.map DevV.dev) ls (ds.map DevV.dev).length; have := HDL.out; simp only [List.length_map] at *; omega
  have HLE := hide hok.1
  have HL1 := hide (show (devL (ds.map DevV.dev) ls (ds.map DevV.dev).length).length ≤ 1000 from by rw [← hok.1]; omega)
  have HSD := hide (steps_dom (ls := ls) HOK.out)
  have HSG := hide (SG.start hrow hok)
  have HXM := hide (HX3.out.below (below_alloc2 w3 (.map #[] 0)))
  have HBM := hide (HB2.out.trans ((HL3.out.mono HB1.out.size).trans ((below_alloc2 w3 (.map #[] 0)).mono (by have := HL3.out.size; have := HB2.out.size; omega))))
  have HNB := hide (fun q (hq : (Value.slice A0 l.length c0).ownBlock = some q) => (Nat.ne_of_lt (hrow.own.lt q hq).2 : q ≠ w3.heap.size))
  clear hrow hok
  generalize hLL : devL (ds.map DevV.dev) ls (ds.map DevV.dev).length = L at *
  go_wp2_with fail
  clear hmm
  generalize hG : World.alloc w3 (.map #[] 0) = w4 at *
  generalize w3.heap.size = sb at *
  have HLL := hide hLL
  clear hG hLL
  go_loopw [46] (fun i wr => ∃ (k : Nat) (M : PoK → Option Value), k ≤ l.length ∧ i = .int .i64 (k : Int) ∧ Hid (SG w1.heap.size g w2.heap.size (.slice A0 l.length c0) l L A3 sb M (startF (L.take k)) wr []) ∧ Hid (RowKit.Below W.heap.size W wr) ∧ Hid (Bx wr W.heap.size #[.slice dA dn dc, .slice lA ln lc] 25)) (fun i _ => l.length - (intOf i).toNat)
  case atStart => exact ⟨0, _, Nat.zero_le _, rfl, hide (by simpa using HSG.out), HBM, HXM⟩
  case round =>
    clear HSG HBM HXM
    obtain ⟨k, M, hk, rfl, HS, HB, HX⟩ := hrel
    by_cases hlt : k < l.length
    · obtain ⟨s, hs⟩ : ∃ s, l[k]? = some s := ⟨_, List.getElem?_eq_getElem hlt⟩
      obtain ⟨t, ht⟩ : ∃ t, L[k]? = some t := ⟨_, List.getElem?_eq_getElem (by have := HLE.out; omega)⟩
      have HT := hide ht
      obtain ⟨e1, _, _⟩ := HS.out.ok.2 k s t hs ht
      have hsl := own_sl StepV.len HS.out.row.own rfl
      obtain ⟨b, o, rfl, _, _⟩ := hsl.2 (by omega)
      obtain ⟨_, hg⟩ := hsl.get hs
      have q0 := hg 0 _ rfl
      have q1 := hg 1 _ rfl
      have q2 := hg 2 _ rfl
      have q3 := hg 3 _ rfl
      have q4 := hg 4 _ rfl
      obtain ⟨⟨x, y⟩, ⟨x', y'⟩, id⟩ := s
      simp only [Nat.add_zero] at q0 q1 q2 q3 q4 e1
      have HSB := hide (HS.out.alloc (.cells #[.int .i64 x, .int .i64 y, .int .i64 x', .int .i64 y', .int .i64 (id : Int)] 76))
      have htm := List.mem_of_getElem? ht
      have hdx := (HSD.out t htm).1
      rw [← e1] at hdx
      obtain ⟨w5, hrun, hs5, hlow5⟩ := HSB.out.store (a := (x, y)) (n := 1) (F := fun _ => true) hdx (by rw [e1]; exact List.mem_map_of_mem htm) (IsF.one HSB.out.row.sa.inv) HL1.out HNB.out
      simp only [poVal] at hrun
      rw [show ((1 : Nat) : Int) = 1 from rfl] at hrun
      have HS5 := hide hs5
      have hwb := HB.out.size
      have HW1 := hide (HX.out.below (below_alloc2 wr (.cells #[.int .i64 x, .int .i64 y, .int .i64 x', .int .i64 y', .int .i64 (id : Int)] 76)) |>.same (hlow5.block _ HBL.out))
      have HB5 := hide ((HB.out.trans ((below_alloc2 wr (.cells #[.int .i64 x, .int .i64 y, .int .i64 x', .int .i64 y', .int .i64 (id : Int)] 76)).mono hwb)).trans (hlow5.mono HB1.out.size))
      have HFE := hide (show (fun z => if (x, y) = z then (fun _ => true) else startF (List.take k L) z) = startF (List.take (k + 1) L) from by
        rw [startF_snoc HT.out, e1])
      clear hs ht e1 hg hsl hs5 hlow5 hdx htm hwb HS HB HX HSB
      go_wp2_with fail
      go_roundw
      case rel => exact ⟨k + 1, _, by omega, by go_num, hide (by rw [← HFE.out]; exact HS5.out.less (by simp)), HB5, HW1⟩
      case measure => simp [intOf]; omega
    · obtain rfl : k = l.length := by omega
      have HS1 := hide (show SG w1.heap.size g w2.heap.size (.slice A0 l.length c0) l L A3 sb M (startF L) wr [] from by have := HS.out; rwa [show List.take l.length L = L from by rw [HLE.out, List.take_length]] at this)
      clear HS hk hlt
      go_wp2_with fail
      clear HX1 HX2 HX3 HL3 HA2
      go_loopg [10] (cntS (startF L) (allPl (ds.map DevV.dev) (ds.map DevV.dev).length)) (fun m u wr => ∃ (sb' : Nat) (A2 : St) (M2 : PoK → Option Value) (S2 : Pl → Bdd.Fn), u = .map (some sb') ∧ Hid (SG w1.heap.size g w2.heap.size (.slice A0 l.length c0) l L A2 sb' M2 S2 wr []) ∧ Hid (SInv (ds.map DevV.dev) ls S2) ∧ Hid (m = cntS S2 (allPl (ds.map DevV.dev) (ds.map DevV.dev).length)) ∧ Hid (A2.vars = 14) ∧ Hid (RowKit.Below W.heap.size W wr) ∧ Hid (Bx wr W.heap.size #[.slice dA dn dc, .slice lA ln lc] 25))
      case atStart => exact ⟨sb, A3, M, _, rfl, HS1, hide (by have := SInv.start (ls := ls) HRO.out; rwa [HLL.out] at this), hide rfl, HV3, HB, HX⟩
      case round =>
        clear HS1 HB HX HV3
        obtain ⟨sb', A2, M2, S2, rfl, HS, HI, HMU, HV, HB, HX⟩ := hrel
        have HSW := hide (shrink_walk wr w1.heap.size g A2 [] w2.heap.size (.slice A0 l.length c0) l L sb' M2 S2 HS.out.row HS.out.ok HS.out.m HS.out.s HL1.out HSD.out)
        go_wp2_with fail
        refine HSW.out.mono ?_
        clear HSW
        rintro e w6 hq
        rcases hq with ⟨nbk, A6, M6, rfl, hsh⟩ | ⟨rfl, hlow⟩
        case inr =>
          have HF := hide (show AllP W (ds.map DevV.dev) ls (most : Int) (.returned (.tuple #[.slice none 0 0, .int .i64 6])) w6 from ⟨HB.out.trans (hlow.mono HB1.out.size), .inr (.inr (.inl ⟨HE.out, HM.out, rfl⟩))⟩)
          clear hlow
          go_wp2
          go_ret2
          exact HF.out
        have HSH := hide hsh
        clear hsh
        have HB6 := hide (HB.out.trans (HSH.out.kp.low.mono HB1.out.size))
        have HX6 := hide (HX.out.same (HSH.out.kp.low.block _ HBL.out))
        clear HB HX
        go_wp2_with fail
        refine (same_walk w6 sb' nbk M2 M6 HSH.out.mw HSH.out.mn HSH.out.sw.ints HSH.out.sn.ints).mono ?_
        rintro e w7 ⟨hb, hres⟩
        have HSG7 := hide (HSH.out.sg.below hb)
        have HSW7 := hide (HSH.out.sgw.below hb)
        have HB7 := hide (HB6.out.trans (hb.mono HB6.out.size))
        have HX7 := hide (HX6.out.below hb)
        have HV7 := hide (show A6.vars = 14 from HSH.out.ext.vars.trans HV.out)
        clear hb HB6 HX6
        have hdec : ∀ x a, shrinkF L S2 x a = true → S2 x a = true := fun x a hh => HI.out.dec x a (by rw [HLL.out]; exact hh)
        have hnxt : SInv (ds.map DevV.dev) ls (shrinkF L S2) := by have := HI.out.next HRO.out; rwa [HLL.out] at this
        rcases hres with ⟨rfl, hsame⟩ | ⟨rfl, x, hx, hdiff⟩
        case inr =>
          obtain ⟨hxk, hne⟩ := sets_diff HSH.out.inv HSH.out.sw HSH.out.sn hx hdiff
          have hlt2 : cntS (shrinkF L S2) (allPl (ds.map DevV.dev) (ds.map DevV.dev).length) < gk := by
            rw [HMU.out]
            exact cntS_lt HI.out.below hnxt.below hdec hne _ (srcs_place (by rw [HLL.out]; exact hxk))
          have HNX := hide (And.intro hnxt hlt2)
          clear hxk hne hx hdiff hdec hnxt hlt2
          go_wp2_with fail
          go_roundg (cntS (shrinkF L S2) (allPl (ds.map DevV.dev) (ds.map DevV.dev).length))
          case measure => exact HNX.out.2
          case rel => exact ⟨nbk, A6, M6, _, rfl, HSG7, hide HNX.out.1, hide rfl, HV7, HB7, HX7⟩
        have HFX := hide (fun x => (sets_same HSH.out.sw HSH.out.sn hdec hsame x : shrinkF L S2 x = S2 x))
        clear hsame hdec hnxt HSH HSG7
        have x0 : w7.cell? ⟨W.heap.size, 0, none⟩ = some (.slice dA dn dc) := HX7.out.get 0 _ rfl
        have HSC := hide (SC.start (base := W.heap.size) HSW7.out)
        clear HSW7
        go_wp2_with fail
        clear x0
        go_loopw [15, 71] (fun u i wr => ∃ (k : Nat) (v5 : Value), k ≤ dn ∧ i = .int .i64 (k : Int) ∧ u = v5 ∧ Hid (SC w1.heap.size g W.heap.size L A6 sb' M2 S2 (allPl (ds.map DevV.dev) k) v5 wr []) ∧ Hid (RowKit.Below W.heap.size W wr)) (fun _ i _ => dn - (intOf i).toNat)
        case atStart => exact ⟨0, _, Nat.zero_le _, rfl, rfl, HSC, HB7⟩
        case round =>
          clear HSC HB7
          obtain ⟨k, v5, hk, rfl, rfl, HS, HB⟩ := hrel
          generalize u15 = v5 at *
          by_cases hlt : k < dn
          · obtain ⟨r, hr⟩ : ∃ r, ds[k]? = some r := ⟨_, List.getElem?_eq_getElem (by have := HDL.out; omega)⟩
            have hka : kindAt (ds.map DevV.dev) (k : Int) = r.kind := by simp [kindAt, hr, DevV.dev]
            have hna := HNW.out wr HB.out wr.heap.size HB.out.size
            obtain ⟨b, o, rfl, _, _⟩ := hna.ds.2 (by show 0 < dn; omega)
            obtain ⟨_, q0, q1, q2, q3, q4, q5, q6⟩ := dev_get hna.ds hr
            obtain ⟨nm, kd, ad, pl, bA, bn, bc, bs, rA, rn, rc, rs, tA, tn, tc, ts⟩ := r
            simp only at q0 q1 q2 q3 q4 q5 q6 hka
            have hpn : portsF kd = ((portsN (ds.map DevV.dev) k : Nat) : Int) := by
              have := portsF_range kd
              unfold portsN; rw [hka]; omega
            have hpn4 := portsN_le (ds.map DevV.dev) k
            have hks4 := allPl_len (ds.map DevV.dev) k
            generalize hPN : portsN (ds.map DevV.dev) k = PN at *
            have HPN := hide hPN
            clear hPN hka hna hr
            have HPW := hide (fun (w' : World) => ports_walk kd w')
            simp only [hpn] at HPW
            have HSB := hide (HS.out.alloc (.cells #[.string nm, .int .i64 kd, .int .i64 ad, .int .u8 pl, .slice bA bn bc, .slice rA rn rc, .slice tA tn tc] 35))
            have HB8 := hide (HB.out.trans ((below_alloc2 wr (.cells #[.string nm, .int .i64 kd, .int .i64 ad, .int .u8 pl, .slice bA bn bc, .slice rA rn rc, .slice tA tn tc] 35)).mono HB.out.size))
            clear HS HB hpn
            go_wp2_with fail
            refine (HPW.out _).mono ?_
            clear HPW q0 q1 q2 q3 q4 q5 q6
            rintro e w8 ⟨rfl, rfl⟩
            generalize World.alloc wr _ = w8 at *
            generalize wr.heap.size = Nd at *
            go_wp2_with fail
            go_loopw [15, 79] (fun u i wr => ∃ (j : Nat) (v6 : Value), j ≤ PN ∧ i = .int .i64 (j : Int) ∧ u = v6 ∧ Hid (SC w1.heap.size g W.heap.size L A6 sb' M2 S2 (allPl (ds.map DevV.dev) k ++ rowPl k j) v6 wr []) ∧ Hid (RowKit.Below W.heap.size W wr)) (fun _ i _ => PN - (intOf i).toNat)
            case atStart => exact ⟨0, v5, Nat.zero_le _, rfl, rfl, hide (by simpa [rowPl] using HSB.out.less (by simp)), HB8⟩
            case round =>
              clear HSB HB8
              obtain ⟨j, v6, hj, rfl, rfl, HS, HB⟩ := hrel
              generalize u15 = v6 at *
              by_cases hltj : j < PN
              · have hlk := MapIs.lookN HS.out.m HS.out.s.ints (k : Int) (j : Int) (by simp only [i64ok]; omega) (by simp only [i64ok]; omega)
                have hcw := as_count HS.out.row.sa (HS.out.s.isF ((k : Int), (j : Int)))
                rw [HV7.out] at hcw
                have HCW := hide hcw
                have hln : (allPl (ds.map DevV.dev) k ++ rowPl k j).length ≤ 80 := by simp [rowPl]; omega
                clear hcw
                go_wp2_with fail
                refine HCW.out.mono ?_
                clear HCW hlk
                rintro e w9 ⟨rfl, hb⟩
                have HS9 := hide (HS.out.below hb)
                have HB9 := hide (HB.out.trans (hb.mono HB.out.size))
                clear hb HS HB
                have hb := below_alloc2 w9 (.cells #[.int .i64 ((cntF 14 14 (S2 ((k : Int), (j : Int))) : Nat) : Int)] 3)
                have HSL := hide (HS9.out.below hb)
                have HBL9 := hide (HB9.out.trans (hb.mono HB9.out.size))
                have HLIT := hide (show Reads (w9.alloc (.cells #[.int .i64 ((cntF 14 14 (S2 ((k : Int), (j : Int))) : Nat) : Int)] 3)) (w9.heap.size + 1) 1 (some ⟨w9.heap.size, 0, none⟩) 1 [.int .i64 ((cntF 14 14 (S2 ((k : Int), (j : Int))) : Nat) : Int)] from
                  ⟨rfl, fun _ => ⟨_, rfl, Nat.lt_succ_self _, fun j u hu => by
                    rw [addr_add, Nat.zero_add, cell_of_row _ _ _ _ _ _ (heap_alloc_new w9 _)]
                    simpa using hu⟩⟩)
                have hbs := HBL9.out.size
                clear hb HS9 HB9
                generalize hks : allPl (ds.map DevV.dev) k ++ rowPl k j = ks at *
                have HKS := hide hks
                clear hks
                go_wp2_with (at_builtin; refine wpList_append_any _ rfl (.tmp 92) (.tmp 94) 26 rfl W.heap.size 3 i0 _ 1 8 Try.underlying26 hi0 hz0 hz1 hz2 rfl (by omega) v6 ks.length (intCells (ks.map fun x => cntF 14 14 (S2 x))) rfl HSL.out.row.own (w9.heap.size + 1) (some ⟨w9.heap.size, 0, none⟩) 1 1 [.int .i64 ((cntF 14 14 (S2 ((k : Int), (j : Int))) : Nat) : Int)] rfl HLIT.out (by intro u hu; simp at hu; subst hu; rfl) (by simp only [maxLen]; omega) (by omega) hbs ?_; intro v9 wa hown9 hg9 hat9; have HT := hide (And.intro hown9 (And.intro hg9 hat9)); clear hown9 hg9 hat9)
                have HS9 := hide (SC.append (x := ((k : Int), (j : Int))) HSL.out HT.out.1 HT.out.2.1 HT.out.2.2)
                go_roundw
                case rel => exact ⟨j + 1, v9, by omega, by go_num, rfl, hide (by rw [rowPl_succ, ← List.append_assoc, HKS.out]; exact HS9.out.1), hide (HBL9.out.trans (HS9.out.2.2.mono HB1.out.size))⟩
                case measure => simp [intOf]; omega
              · obtain rfl : j = PN := by omega
                go_wp2_with fail
                go_roundw
                case rel => exact ⟨k + 1, v6, by omega, by go_num, rfl, hide (by rw [allPl_succ, HPN.out]; exact HS.out), HB⟩
                case measure => simp [intOf]; omega
          · obtain rfl : k = dn := by omega
            have HF := hide (show AllP W (ds.map DevV.dev) ls (most : Int) (.returned (.tuple #[v5, .int .i64 0])) wr from ⟨HB.out, .inr (.inr (.inr ⟨HE.out, HM.out, v5, S2, rfl, HI.out, (fun x => by rw [HLL.out]; exact HFX.out x), by
              have := HS.out.row.own
              rwa [show (ds.map DevV.dev).length = k from by simp [HDL.out]]⟩))⟩)
            go_wp2
            go_ret2
            exact HF.out
theorem ringAll_walk (n : NetV) (most : Int) (W : World) (hn : NetAt W W.heap.size n) : Calls Try.prog 6 #[n.val, .int .i64 most] W (AllP W n.devs n.ls most) := by
  by_cases h : plainE n.devs n.ls ≠ 0 ∨ badMost most
  · exact all_bad n most W hn h
  · have h1 : plainE n.devs n.ls = 0 := Classical.byContradiction fun h1 => h (.inl h1)
    have h2 : ¬ badMost most := fun h2 => h (.inr h2)
    unfold badMost at h2
    obtain ⟨m, rfl⟩ : ∃ m : Nat, most = (m : Int) := ⟨most.toNat, by omega⟩
    exact all_good n m W hn h1 (by omega) (by omega)
end Go.Proofs.Ytpfjjpihnibnhaa

set_option linter.unusedVariables false
set_option linter.unusedSimpArgs false
namespace Go.Proofs.Ytpfjjpihnibnhaa
open Go.RowKit

theorem beqI (a b : Int) : (a == b) = (b == a) := by
  rw [Bool.eq_iff_iff, beq_iff_eq, beq_iff_eq]; exact eq_comm

set_option maxRecDepth 100000 in
set_option maxHeartbeats 8000000 in
theorem refPeer_any (dA : Option Addr) (dn dc : Nat) (lA : Option Addr) (ln lc : Nat) (ls : List LinkV) (x y : Int) (W : World) (hn : ln ≤ 9223372036854775807) (hl : SlAt LinkV.cells 4 W W.heap.size lA ln ls) :
    Calls Try.prog 73 #[.agg #[.slice dA dn dc, .slice lA ln lc], .agg #[.int .i64 x, .int .i64 y]] W fun e W' => e = .returned (peerV (peerF ls (x, y))) ∧ Below W.heap.size W W' := by
  have HL := hide (fun (w' : World) (hb : RowKit.Below W.heap.size W w') => show SlAt LinkV.cells 4 w' w'.heap.size lA ln ls from hl.below hb hb.size)
  have HLL := hide hl.1
  clear hl
  have hG : ∃ W0, W0 = ((W.alloc (.cells #[.slice dA dn dc, .slice lA ln lc] 25)).alloc (.cells #[.int .i64 x, .int .i64 y] 41)).alloc (.cells #[.int .i64 0, .int .i64 0] 41) := ⟨_, rfl⟩
  obtain ⟨W0, hG⟩ := hG
  have hz : W0.heap.size = W.heap.size + 3 := by rw [hG]; simp
  have HQ := hide (fun (w' : World) (hb : RowKit.Below W0.heap.size W0 w') => show (w'.cell? ⟨W.heap.size, 1, none⟩ = some (.slice lA ln lc) ∧ w'.cell? ⟨W.heap.size + 1, 0, none⟩ = some (.int .i64 x) ∧ w'.cell? ⟨W.heap.size + 1, 1, none⟩ = some (.int .i64 y)) ∧ Box2 w' (W.heap.size + 1 + 1) 0 0 ∧ RowKit.Below W.heap.size W w' from by
    have hbB : Box2 W0 (W.heap.size + 1 + 1) 0 0 := by
      rw [hG]
      have := Box2.new ((W.alloc (.cells #[.slice dA dn dc, .slice lA ln lc] 25)).alloc (.cells #[.int .i64 x, .int .i64 y] 41)) 0 0 41
      simpa using this
    have hbox := hbB.below hb (by omega)
    rw [hz, hG] at hb
    obtain ⟨c, h1, h2⟩ := boxesL [(#[.slice dA dn dc, .slice lA ln lc], 25), (#[.int .i64 x, .int .i64 y], 41), (#[.int .i64 0, .int .i64 0], 41)] W hb
    exact ⟨⟨c 0 _ _ rfl 1 _ rfl, c 1 _ _ rfl 0 _ rfl, c 1 _ _ rfl 1 _ rfl⟩, hbox, h1⟩)
  have HG := hide hG
  have HR := hide (RowKit.Below.refl W0.heap.size W0)
  have HZ := hide hz
  clear hG hz
  go_enter Try.func73, Try.ntmps73
  go_wp2
  rw [← HG.out]
  go_loopw [6] (fun i wr => ∃ k : Nat, k ≤ ln ∧ i = .int .i64 k ∧ Hid (peerF ls (x, y) = peerF (ls.drop k) (x, y)) ∧ Hid (RowKit.Below W0.heap.size W0 wr)) (fun i _ => ln - (intOf i).toNat)
  case atStart => exact ⟨0, Nat.zero_le _, rfl, hide rfl, HR⟩
  case round =>
    clear HR
    obtain ⟨k, hk, rfl, HE, HB⟩ := hrel
    obtain ⟨⟨x0, x1, x2⟩, ⟨z0, z1, z2, z3⟩, hbW⟩ := HQ.out wr HB.out
    have HBW := hide hbW
    clear hbW
    by_cases hlt : k < ln
    · obtain ⟨r, hr⟩ : ∃ r, ls[k]? = some r := ⟨_, List.getElem?_eq_getElem (by have := HLL.out; omega)⟩
      have HS := hide (peerF_drop hr (x, y))
      obtain ⟨b, o, rfl, _, _⟩ := (HL.out _ HBW.out).2 (by omega)
      obtain ⟨hbB, q0, q1, q2, q3⟩ := link_get (HL.out _ HBW.out) hr
      have HBA := hide (fun o => show RowKit.Below W0.heap.size W0 (wr.alloc o) from HB.out.alloc HB.out.size o)
      have v1 := fun o => (HQ.out _ (HBA.out o)).1.2.1
      have v2 := fun o => (HQ.out _ (HBA.out o)).1.2.2
      have v3 := fun o => (HQ.out _ (HBA.out o)).2.1.1
      have v4 := fun o => (HQ.out _ (HBA.out o)).2.1.2.1
      have v5 := fun o => (HQ.out _ (HBA.out o)).2.1.2.2.1
      have v6 := fun o => (HQ.out _ (HBA.out o)).2.1.2.2.2
      have HBB := hide (fun o => (HQ.out _ (HBA.out o)).2.2)
      clear hr
      obtain ⟨ra, rp, rb, rq⟩ := r
      cases e1 : (ra == x)
      · cases e3 : (rb == x)
        · have HN := hide (show peerF ls (x, y) = peerF (ls.drop (k + 1)) (x, y) from by rw [HE.out, HS.out]; simp only [eqP, LinkV.e1, LinkV.e2, beqI x, beqI y, e1, e3, Bool.false_and, Bool.and_false, Bool.false_eq_true, if_false])
          go_wp2
          go_roundw
          case rel => exact ⟨k + 1, by omega, by go_num, HN, hide (HBA.out _)⟩
          case measure => simp [intOf]; omega
        · cases e4 : (rq == y)
          · have HN := hide (show peerF ls (x, y) = peerF (ls.drop (k + 1)) (x, y) from by rw [HE.out, HS.out]; simp only [eqP, LinkV.e1, LinkV.e2, beqI x, beqI y, e1, e3, e4, Bool.false_and, Bool.and_false, Bool.false_eq_true, if_false])
            go_wp2
            go_roundw
            case rel => exact ⟨k + 1, by omega, by go_num, HN, hide (HBA.out _)⟩
            case measure => simp [intOf]; omega
          · have HN := hide (show peerF ls (x, y) = some (ra, rp) from by rw [HE.out, HS.out]; simp only [eqP, LinkV.e1, LinkV.e2, beqI x, beqI y, e1, e3, e4, Bool.false_and, Bool.and_false, Bool.and_self, Bool.false_eq_true, if_false, if_true])
            go_wp2
            refine bodyPost_ret (v := .tuple #[.agg #[.int .i64 ra, .int .i64 rp], .bool true]) (by simp [results, Try.results73, go_sem, v3, v4]) rfl ⟨by rw [HN.out]; rfl, ?_⟩
            exact ((HBB.out _).setCell (le2 _) _).setCell (le2 _) _
      · cases e2 : (rp == y)
        · cases e3 : (rb == x)
          · have HN := hide (show peerF ls (x, y) = peerF (ls.drop (k + 1)) (x, y) from by rw [HE.out, HS.out]; simp only [eqP, LinkV.e1, LinkV.e2, beqI x, beqI y, e1, e2, e3, Bool.false_and, Bool.and_false, Bool.false_eq_true, if_false])
            go_wp2
            go_roundw
            case rel => exact ⟨k + 1, by omega, by go_num, HN, hide (HBA.out _)⟩
            case measure => simp [intOf]; omega
          · cases e4 : (rq == y)
            · have HN := hide (show peerF ls (x, y) = peerF (ls.drop (k + 1)) (x, y) from by rw [HE.out, HS.out]; simp only [eqP, LinkV.e1, LinkV.e2, beqI x, beqI y, e1, e2, e3, e4, Bool.false_and, Bool.and_false, Bool.false_eq_true, if_false])
              go_wp2
              go_roundw
              case rel => exact ⟨k + 1, by omega, by go_num, HN, hide (HBA.out _)⟩
              case measure => simp [intOf]; omega
            · have HN := hide (show peerF ls (x, y) = some (ra, rp) from by rw [HE.out, HS.out]; simp only [eqP, LinkV.e1, LinkV.e2, beqI x, beqI y, e1, e2, e3, e4, Bool.false_and, Bool.and_false, Bool.and_self, Bool.false_eq_true, if_false, if_true])
              go_wp2
              refine bodyPost_ret (v := .tuple #[.agg #[.int .i64 ra, .int .i64 rp], .bool true]) (by simp [results, Try.results73, go_sem, v3, v4]) rfl ⟨by rw [HN.out]; rfl, ?_⟩
              exact ((HBB.out _).setCell (le2 _) _).setCell (le2 _) _
        · have HN := hide (show peerF ls (x, y) = some (rb, rq) from by rw [HE.out, HS.out]; simp only [eqP, LinkV.e1, LinkV.e2, beqI x, beqI y, e1, e2, Bool.false_and, Bool.and_false, Bool.and_self, Bool.false_eq_true, if_false, if_true])
          go_wp2
          refine bodyPost_ret (v := .tuple #[.agg #[.int .i64 rb, .int .i64 rq], .bool true]) (by simp [results, Try.results73, go_sem, v3, v4]) rfl ⟨by rw [HN.out]; rfl, ?_⟩
          exact ((HBB.out _).setCell (le2 _) _).setCell (le2 _) _
    · have HN := hide (show peerF ls (x, y) = none from by rw [HE.out, List.drop_of_length_le (by have := HLL.out; omega)]; rfl)
      go_wp2
      refine bodyPost_ret (v := .tuple #[.agg #[.int .i64 0, .int .i64 0], .bool false]) (by simp [results, Try.results73, go_sem, z0, z1]) rfl ⟨by rw [HN.out]; rfl, ?_⟩
      exact (HBW.out.setCell (le2 _) _).setCell (le2 _) _
end Go.Proofs.Ytpfjjpihnibnhaa
