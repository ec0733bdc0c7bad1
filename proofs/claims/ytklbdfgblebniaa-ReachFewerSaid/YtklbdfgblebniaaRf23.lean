/- wireward/wirekeep.ReachFewer: whatever is handed in, it returns true, and leaves the input as it reads. -/
import Derived.Test.YtklbdfgblebniaaRf22

set_option linter.unusedVariables false
set_option linter.unusedSimpArgs false
namespace Go.Proofs.Ytklbdfgblebniaa
open Go.RowKit Go.Maps Bdd

def AllT : Bdd.Fn → Prop := fun _ => True
theorem pcT (F : Bdd.Fn) : PC AllT F := fun _ _ => trivial
theorem sendT (ls : List LinkV) (x : Pl) (F : Bdd.Fn) (S : Pl → Bdd.Fn) : SendPC AllT ls x F S := fun _ _ _ _ => trivial
theorem anyT (F : Bdd.Fn) (a n : Nat) : AnyPC AllT F a n := fun _ _ => ⟨pcT _, pcT _, pcT _⟩
theorem matchT (m : M4) : MatchPC AllT m := fun _ _ => trivial
theorem swapT (F : Bdd.Fn) (i j : Nat) : SwapPC AllT F i j := ⟨pcT _, pcT _, pcT _, pcT _, pcT _, pcT _, pcT _, pcT _, pcT _, pcT _, pcT _⟩
theorem flipT (F : Bdd.Fn) : FlipPC AllT F := ⟨fun _ _ => swapT _ _ _, fun _ _ => swapT _ _ _⟩
theorem aclT (rs : List RuleV) : AclPC AllT rs := ⟨fun _ _ _ _ => trivial, fun _ _ _ => trivial⟩
theorem toT (F : Bdd.Fn) (a : Nat) : ToPC AllT F a := ⟨anyT _ _ _, matchT _, pcT _⟩
theorem fromT (F : Bdd.Fn) (a : Nat) : FromPC AllT F a := ⟨anyT _ _ _, matchT _, pcT _⟩
theorem firstT (ds : List Dev) (ls : List LinkV) (S : Pl → Bdd.Fn) : FirstPC AllT ds ls S := fun _ _ _ _ => ⟨matchT _, sendT _ _ _ _⟩
theorem nextT (ds : List Dev) (ls : List LinkV) (S S' : Pl → Bdd.Fn) : NextPC AllT ds ls S S' := fun _ _ _ =>
  ⟨fun _ => ⟨aclT _, fun _ _ => pcT _, fun _ _ _ _ => trivial, fun _ _ _ _ => pcT _, fun _ _ _ _ => sendT _ _ _ _⟩,
   fun _ => ⟨aclT _, pcT _, sendT _ _ _ _, flipT _, pcT _, sendT _ _ _ _⟩,
   fun _ => ⟨anyT _ _ _, anyT _ _ _, matchT _, pcT _, sendT _ _ _ _, matchT _, pcT _, anyT _ _ _, anyT _ _ _, anyT _ _ _, anyT _ _ _, flipT _, pcT _, sendT _ _ _ _⟩,
   fun _ => ⟨matchT _, pcT _, pcT _, pcT _, sendT _ _ _ _, sendT _ _ _ _, fun _ _ _ => toT _ _, fun _ _ _ => sendT _ _ _ _, fun _ _ _ => flipT _, fun _ _ _ => pcT _, fun _ _ _ => fromT _ _, fun _ _ _ => sendT _ _ _ _⟩⟩

def NewAny (n : NetV) (W : World) (e : Ending) (W' : World) : Prop := RowKit.Below W.heap.size W W' ∧
  ((∃ N K, e = .returned (.tuple #[.pointer (some ⟨N, 0, none⟩), .int .i64 0]) ∧ netE n.devs n.ls = 0 ∧ ReachAt W' N n.devs n.ls K) ∨
   ∃ E : Int, E ≠ 0 ∧ e = .returned (.tuple #[.pointer none, .int .i64 E]))
theorem badE_ne (E : Int) : badE E ≠ 0 := by
  unfold badE
  split
  · decide
  · assumption
theorem reachNew_any (n : NetV) (W : World) (hn : NetAt W W.heap.size n) : Calls Try.prog 7 #[n.val, .int .i64 40000] W (NewAny n W) := by
  rcases Classical.em (netE n.devs n.ls = 0) with hE | hE
  · exact (reachNew_good n 40000 W hn hE (by omega) (by omega) AllT (firstT _ _ _) (fun _ => nextT _ _ _ _)).mono fun e w' ⟨hb, h⟩ => ⟨hb, by
      rcases h with ⟨N, K, h1, h2⟩ | ⟨A, h1, _⟩
      · exact .inl ⟨N, K, h1, hE, h2⟩
      · exact .inr ⟨6, by decide, h1⟩⟩
  · exact (reachNew_bad n 40000 W hn (.inl hE)).mono fun e w' ⟨hb, h⟩ => ⟨hb, .inr ⟨_, badE_ne _, h⟩⟩

def awayB (i : Nat) (l : LinkV) : Bool := decide (l.a ≠ (i : Int)) && decide (l.b ≠ (i : Int))
theorem fewer_le {ds : List Dev} {ls : List LinkV} (hE : netE ds ls = 0) (i Ka Kb : Nat) (hf : roundS ds ls (Ka + 1) = roundS ds ls Ka) : LeS (roundS ds (ls.filter (awayB i)) Kb) (roundS ds ls Ka) :=
  (round_mono (SubL.filter _ (netE_ok hE).nd) ds Kb).trans (round_below ds ls hf Kb)
theorem fewer_cnt {ds : List Dev} {ls : List LinkV} (hE : netE ds ls = 0) (i Ka Kb : Nat) (hf : roundS ds ls (Ka + 1) = roundS ds ls Ka) (x : Pl) : cntF 14 14 (roundS ds (ls.filter (awayB i)) Kb x) ≤ cntF 14 14 (roundS ds ls Ka x) :=
  cnt_le (fun a => fewer_le hE i Ka Kb hf x a)
theorem fewer_round {ds : List Dev} {ls : List LinkV} (hE : netE ds ls = 0) (i Ka Kb : Nat) (hf : roundS ds ls (Ka + 1) = roundS ds ls Ka) (x : Pl) (p : P4) (h : 0 ≤ roundP ds (ls.filter (awayB i)) Kb x p) : 0 ≤ roundP ds ls Ka x p := by
  rw [roundP_some] at h ⊢
  exact ⟨h.1, fewer_le hE i Ka Kb hf x _ h.2⟩
theorem filter_take_succ {α : Type} (p : α → Bool) {l : List α} {k : Nat} {x : α} (h : l[k]? = some x) : (l.take (k + 1)).filter p = (l.take k).filter p ++ if p x then [x] else [] := by
  obtain ⟨hk, e⟩ := List.getElem?_eq_some_iff.1 h
  rw [List.take_succ_eq_append_getElem hk, e, List.filter_append]
  by_cases hp : p x = true
  · rw [if_pos hp, List.filter_cons_of_pos hp, List.filter_nil]
  · rw [if_neg hp, List.filter_cons_of_neg hp, List.filter_nil]

theorem Try.infoLinkF : (Try.prog.info? 36).map (fun i => (i.zero, i.size, i.bytes)) = some (some (.agg #[.int .i64 0, .int .i64 0, .int .i64 0, .int .i64 0]), 4, 32) := by kernel_rfl
theorem linkOne (l : LinkV) : ∀ u ∈ l.cells, u.oneCell' = true := by
  intro u hu
  simp only [LinkV.cells, List.mem_cons, List.not_mem_nil, or_false] at hu
  rcases hu with rfl | rfl | rfl | rfl <;> rfl
theorem rest_walk2 (n m : Int) (W : World) (hn : i64ok n) (hm : 0 < m) (hm2 : m ≤ 4611686018427387904) : Calls Try.prog 6 #[.int .i64 n, .int .i64 m] W fun e W' => e = .returned (.int .i64 (n % m)) ∧ W = W' := by
  obtain ⟨h1, h2⟩ := hn
  obtain ⟨t1, t2, e⟩ := rest_eq n m hm
  have E := hide e
  clear e
  have hm0 : (m == 0) = false := by simp; omega
  by_cases h : n.tmod m < 0
  · go_enter Try.func6, Try.ntmps6
    go_wp2
    go_ret
    exact ⟨ret_i64' (by rw [E.out, if_pos h]), rfl⟩
  · go_enter Try.func6, Try.ntmps6
    go_wp2
    go_ret
    exact ⟨ret_i64' (by rw [E.out, if_neg (by omega)]), rfl⟩

theorem net_away {w : World} {B base : Nat} {n : NetV} {v : Value} {fl : List LinkV} (hn : NetAt w B n) (hB : B ≤ w.heap.size) (ho : w.ownsRow base 36 4 v fl.length (fl.flatMap LinkV.cells)) (hs : ∀ l ∈ fl, l ∈ n.ls) :
    ∃ lA lc, v = .slice lA fl.length lc ∧ NetAt w w.heap.size ⟨n.dA, n.dn, n.dc, n.ds, lA, fl.length, lc, fl⟩ := by
  obtain ⟨A, c, rfl, hc, hsl, _⟩ := SlAt.of_own LinkV.len ho rfl
  have hcm : c ≤ maxLen := by
    rcases ho.2 with ⟨e, _⟩ | ⟨g, cap, cur, e, _, _, _, hm, _⟩
    · simp only [Value.slice.injEq] at e
      rw [e.2.2]; exact Nat.zero_le _
    · simp only [Value.slice.injEq] at e
      rw [e.2.2]; exact hm
  have h2 := hn.below (RowKit.Below.refl _ _) hB
  exact ⟨A, c, rfl, ⟨h2.ds, h2.dok, hsl, fun l hl => h2.lok l (hs l hl), h2.cd, ⟨hc, hcm⟩⟩⟩

set_option maxRecDepth 100000 in
set_option maxHeartbeats 8000000 in
theorem reachFewer_walk (n : NetV) (kk : Int) (p : P4) (W : World) (hn : NetAt W W.heap.size n) (hkk : i64ok kk) (hp : p.ok) (hlw : n.ln * 32 ≤ reachBytes) (hdw : n.dn * 112 ≤ reachBytes) :
    Calls Try.prog 3 #[n.val, .int .i64 kk, .agg #[.int .i64 p.src, .int .i64 p.dst, .int .i64 p.sport, .int .i64 p.dport]] W fun e W' => e = .returned (.bool true) ∧ RowKit.Below W.heap.size W W' := by
  have hl47 : n.ln * 32 ≤ 140737488351232 := hlw
  have hd47 : n.dn * 112 ≤ 140737488351232 := hdw
  have HNW := hide (fun (w' : World) (hb : RowKit.Below W.heap.size W w') => show NetAt w' W.heap.size n from hn.below hb (Nat.le_refl _))
  have HDL := hide hn.dlen
  have HLL := hide hn.llen
  clear hlw hdw hn
  obtain ⟨dA, dn, dc, ds, lA, ln, lc, ls⟩ := n
  obtain ⟨pa, pb, pc, pd⟩ := p
  simp only [NetV.val, NetV.devs] at *
  obtain ⟨i, hi, hid⟩ : ∃ i : Nat, kk % ((dn : Int) + 1) = (i : Int) ∧ i ≤ dn := ⟨(kk % ((dn : Int) + 1)).toNat, by
    have h1 := Int.emod_nonneg kk (show (dn : Int) + 1 ≠ 0 by omega)
    omega, by
    have h2 := Int.emod_lt_of_pos kk (show (0 : Int) < (dn : Int) + 1 by omega)
    omega⟩
  have HRS := hide (fun (w : World) => rest_walk2 kk ((dn : Int) + 1) w hkk (by omega) (by omega))
  simp only [hi] at HRS
  clear hi
  go_enter Try.func3, Try.ntmps3
  go_wp2_with fail
  have hb2 := (below_alloc2 W (.cells #[.slice dA dn dc, .slice lA ln lc] 25)).trans ((below_alloc2 (W.alloc (.cells #[.slice dA dn dc, .slice lA ln lc] 25)) (.cells #[.int .i64 pa, .int .i64 pb, .int .i64 pc, .int .i64 pd] 27)).mono (below_alloc2 W _).size)
  have HB2 := hide hb2
  have HXN2 := hide ((Bx.new W #[.slice dA dn dc, .slice lA ln lc] 25).below (below_alloc2 (W.alloc (.cells #[.slice dA dn dc, .slice lA ln lc] 25)) (.cells #[.int .i64 pa, .int .i64 pb, .int .i64 pc, .int .i64 pd] 27)))
  have HXP2 := hide (show Bx ((W.alloc (.cells #[.slice dA dn dc, .slice lA ln lc] 25)).alloc (.cells #[.int .i64 pa, .int .i64 pb, .int .i64 pc, .int .i64 pd] 27)) (W.heap.size + 1) #[.int .i64 pa, .int .i64 pb, .int .i64 pc, .int .i64 pd] 27 from by
    have := Bx.new (W.alloc (.cells #[.slice dA dn dc, .slice lA ln lc] 25)) #[.int .i64 pa, .int .i64 pb, .int .i64 pc, .int .i64 pd] 27
    simpa using this)
  clear hb2
  generalize World.alloc (World.alloc W _) _ = w2 at *
  refine (ready_walk w2).mono ?_
  rintro e w3 ⟨rfl, hb⟩
  have HB3 := hide (HB2.out.trans (hb.mono HB2.out.size))
  have HXN3 := hide (HXN2.out.below hb)
  have HXP3 := hide (HXP2.out.below hb)
  clear hb HB2 HXN2 HXP2
  have x0 : w3.cell? ⟨W.heap.size, 0, none⟩ = some (.slice dA dn dc) := HXN3.out.get 0 _ rfl
  have x1 : w3.cell? ⟨W.heap.size, 1, none⟩ = some (.slice lA ln lc) := HXN3.out.get 1 _ rfl
  go_wp2_with fail
  refine (HRS.out w3).mono ?_
  clear HRS
  rintro e w4 ⟨rfl, rfl⟩
  by_cases hin : i = dn
  · subst hin
    go_wp2
    go_ret
    exact ⟨rfl, HB3.out⟩
  have hilt : i < dn := by omega
  have hin1 : ((i : Int) == (dn : Int)) = false := by simp; omega
  obtain ⟨rd, hrd⟩ : ∃ rd, ds[i]? = some rd := ⟨_, List.getElem?_eq_getElem (by have := HDL.out; omega)⟩
  have hna := HNW.out w3 HB3.out
  obtain ⟨b, o, rfl, _, _⟩ := hna.ds.2 (by show 0 < dn; omega)
  obtain ⟨_, q0, q1, q2, q3, q4, q5, q6⟩ := dev_get hna.ds hrd
  clear q0 q2 q3 q4 q5 q6 hna hrd
  by_cases hk1 : rd.kind = 1
  case neg =>
    have hk2 : (rd.kind != 1) = true := by simpa using hk1
    go_wp2
    go_ret
    exact ⟨rfl, HB3.out⟩
  rw [hk1] at q1
  clear hk1
  have x1o : ∀ o', (w3.alloc o').cell? ⟨W.heap.size, 1, none⟩ = some (.slice lA ln lc) := fun o' => (HXN3.out.below (below_alloc2 w3 o')).get 1 _ rfl
  have HM0 := hide (Bx.new w3 #[.slice (some ⟨b, o, none⟩) dn dc, .slice none 0 0] 25)
  have HBM0 := hide (below_alloc2 w3 (.cells #[.slice (some ⟨b, o, none⟩) dn dc, .slice none 0 0] 25))
  go_wp2_with fail
  clear x0 x1 x1o q1
  generalize World.alloc w3 _ = w5 at *
  obtain ⟨M, hM⟩ : ∃ M, w3.heap.size = M := ⟨_, rfl⟩
  rw [hM] at HM0 HBM0 ⊢
  have HMM := hide hM
  clear hM
  go_loopw [47] (fun u wr => ∃ (k : Nat) (v : Value), k ≤ ln ∧ u = .int .i64 (k : Int) ∧ Hid (Bx wr M #[.slice (some ⟨b, o, none⟩) dn dc, v] 25) ∧ Hid (wr.ownsRow (M + 1) 36 4 v ((ls.take k).filter (awayB i)).length (((ls.take k).filter (awayB i)).flatMap LinkV.cells)) ∧ Hid (RowKit.Below M w3 wr)) (fun u _ => ln - (intOf u).toNat)
  case atStart => exact ⟨0, _, Nat.zero_le _, rfl, HM0, hide (World.ownsRow_nil _ _ _ _), HBM0⟩
  case round =>
    clear HM0 HBM0
    obtain ⟨k, v, hk, rfl, HM, HO, HB⟩ := hrel
    have hMW : W.heap.size ≤ M := by rw [← HMM.out]; exact HB3.out.size
    have HBW := hide (HB3.out.trans (HB.out.mono hMW))
    by_cases hlt : k < ln
    · obtain ⟨r, hr⟩ : ∃ r, ls[k]? = some r := ⟨_, List.getElem?_eq_getElem (by have := HLL.out; omega)⟩
      have hna := HNW.out wr HBW.out
      obtain ⟨lb, lo, rfl, _, _⟩ := hna.ls.2 (by show 0 < ln; omega)
      obtain ⟨_, q0, q1, q2, q3⟩ := link_get hna.ls hr
      have HFT := hide (filter_take_succ (awayB i) hr)
      have hfl : ((ls.take k).filter (awayB i)).length ≤ k := by
        have h1 := List.length_filter_le (awayB i) (ls.take k)
        have h2 := List.length_take_le k ls
        omega
      clear hna hr
      generalize (ls.take k).filter (awayB i) = fl at *
      obtain ⟨ra, rp, rb, rq⟩ := r
      simp only at q0 q1 q2 q3
      have HBL := hide (below_alloc2 wr (.cells #[.int .i64 ra, .int .i64 rp, .int .i64 rb, .int .i64 rq] 36))
      have HMsz := hide HM.out.lt
      by_cases ha : ra = (i : Int)
      · have HN := hide (show (ls.take (k + 1)).filter (awayB i) = fl from by rw [HFT.out, if_neg (by simp [awayB, ha]), List.append_nil])
        have ha2 : (ra != (i : Int)) = false := by simpa using ha
        have HM8 := hide (HM.out.below HBL.out)
        have HO8 := hide (own_below HO.out HBL.out)
        have HB8 := hide (HB.out.trans (HBL.out.mono (Nat.le_of_lt HMsz.out)))
        clear HM HO HB HBL ha
        go_wp2_with fail
        go_roundw
        case rel => exact ⟨k + 1, v, by omega, by go_num, HM8, hide (by rw [HN.out]; exact HO8.out), HB8⟩
        case measure => simp [intOf]; omega
      have ha2 : (ra != (i : Int)) = true := by simpa using ha
      by_cases hb : rb = (i : Int)
      · have HN := hide (show (ls.take (k + 1)).filter (awayB i) = fl from by rw [HFT.out, if_neg (by simp [awayB, hb]), List.append_nil])
        have hb2 : (rb != (i : Int)) = false := by simpa using hb
        have HM8 := hide (HM.out.below HBL.out)
        have HO8 := hide (own_below HO.out HBL.out)
        have HB8 := hide (HB.out.trans (HBL.out.mono (Nat.le_of_lt HMsz.out)))
        clear HM HO HB HBL hb ha
        go_wp2_with fail
        go_roundw
        case rel => exact ⟨k + 1, v, by omega, by go_num, HM8, hide (by rw [HN.out]; exact HO8.out), HB8⟩
        case measure => simp [intOf]; omega
      have hb2 : (rb != (i : Int)) = true := by simpa using hb
      have HN := hide (show (ls.take (k + 1)).filter (awayB i) = fl ++ [⟨ra, rp, rb, rq⟩] from by rw [HFT.out, if_pos (by simp [awayB, ha, hb])])
      clear ha hb
      obtain ⟨i0, hi0, hz0, hz1, hz2⟩ := info_parts Try.infoLinkF
      have hb10 := HBL.out.trans ((below_alloc2 (wr.alloc (.cells #[.int .i64 ra, .int .i64 rp, .int .i64 rb, .int .i64 rq] 36)) (.cells #[.int .i64 ra, .int .i64 rp, .int .i64 rb, .int .i64 rq] 36)).mono HBL.out.size)
      have HM8 := hide (HM.out.below hb10)
      have HO8 := hide (own_below HO.out hb10)
      have HB8 := hide (HB.out.trans (hb10.mono (Nat.le_of_lt HMsz.out)))
      have HLIT := hide (show Reads ((wr.alloc (.cells #[.int .i64 ra, .int .i64 rp, .int .i64 rb, .int .i64 rq] 36)).alloc (.cells #[.int .i64 ra, .int .i64 rp, .int .i64 rb, .int .i64 rq] 36)) (wr.heap.size + 1 + 1) 4 (some ⟨wr.heap.size + 1, 0, none⟩) 1 (LinkV.cells ⟨ra, rp, rb, rq⟩) from
        ⟨rfl, fun _ => ⟨_, rfl, Nat.lt_succ_self _, fun j u hu => by
          have hx := heap_alloc_new (wr.alloc (.cells #[.int .i64 ra, .int .i64 rp, .int .i64 rb, .int .i64 rq] 36)) (.cells #[.int .i64 ra, .int .i64 rp, .int .i64 rb, .int .i64 rq] 36)
          rw [World.size_alloc] at hx
          rw [addr_add, Nat.zero_add, cell_of_row _ _ _ _ _ _ hx]
          simpa [LinkV.cells] using hu⟩⟩)
      have c1 : ∀ o', (wr.alloc o').cell? ⟨M, 1, none⟩ = some v := fun o' => (HM.out.below (below_alloc2 wr o')).get 1 _ rfl
      have hsM : M + 1 ≤ wr.heap.size + 1 + 1 := by have := HMsz.out; omega
      have HGM := hide (fun (w9 : World) (hg : ((wr.alloc (.cells #[.int .i64 ra, .int .i64 rp, .int .i64 rb, .int .i64 rq] 36)).alloc (.cells #[.int .i64 ra, .int .i64 rp, .int .i64 rb, .int .i64 rq] 36)).grownBy w9 v.ownBlock) => show Bx w9 M #[.slice (some ⟨b, o, none⟩) dn dc, v] 25 from
        HM8.out.same (hg.block M HM8.out.lt (fun e => by
          have := (HO8.out.lt M e.symm).1
          omega)))
      clear HM HO HB HBL hb10
      go_wp2_with (at_builtin; refine wpList_append_any _ rfl (.tmp 62) (.tmp 64) 23 rfl (M + 1) 36 i0 _ 4 32 Try.underlying23 hi0 hz0 hz1 hz2 rfl (by omega) v fl.length (fl.flatMap LinkV.cells) rfl HO8.out (wr.heap.size + 1 + 1) (some ⟨wr.heap.size + 1, 0, none⟩) 1 1 (LinkV.cells ⟨ra, rp, rb, rq⟩) rfl HLIT.out (linkOne _) (by simp only [maxLen]; omega) (by omega) (by simp; omega) ?_; intro v9 w9 hown9 hg9 hat9; obtain ⟨g9, d9, rfl, _⟩ := hown9.form (by omega); have c9 := (HGM.out w9 hg9).get 1 _ rfl; have f9 := (HGM.out w9 hg9).frozen 1; have HT := hide (And.intro hown9 (And.intro hg9 hat9)); clear hown9 hg9 hat9)
      have hne9 : ∀ q, (Value.slice (some ⟨g9, 0, none⟩) (fl.length + 1) d9).ownBlock = some q → q ≠ M := fun q hq e => by
        have := (HT.out.1.lt q hq).1
        omega
      have hcb : ∀ q, q ≠ M → (w9.setCell ⟨M, 1, none⟩ (.slice (some ⟨g9, 0, none⟩) (fl.length + 1) d9)).heap[q]? = w9.heap[q]? := fun q hq => RowKit.Below.heap_setCell _ _ _ _ hq
      go_roundw
      case rel => exact ⟨k + 1, _, by omega, by go_num, hide ((HGM.out w9 HT.out.2.1).set 1 _), hide (by
          rw [HN.out, List.length_append, List.flatMap_append]
          exact own_same HT.out.1 (fun q hq => hcb q (hne9 q hq))), hide ((grow_new HB8.out (Nat.le_of_eq HMM.out.symm) HT.out.2.1 (fun q hq => by
          have := (HO8.out.lt q hq).1
          omega)).setCell (Nat.le_refl _) _)⟩
      case measure => simp [intOf]; omega
    · obtain rfl : k = ln := by omega
      have HFL := hide (show (ls.take k).filter (awayB i) = ls.filter (awayB i) from by rw [List.take_of_length_le (Nat.le_of_eq HLL.out)])
      have hso : ∀ l ∈ ls.filter (awayB i), l ∈ ls := fun l hl => (List.mem_filter.1 hl).1
      have ho := HO.out
      rw [HFL.out] at ho
      obtain ⟨mA, mc, rfl, hmn⟩ := net_away (n := ⟨some ⟨b, o, none⟩, dn, dc, ds, lA, k, lc, ls⟩) (HNW.out wr HBW.out) HBW.out.size ho hso
      have HMN := hide hmn
      have HNA := hide (reachNew_any ⟨some ⟨b, o, none⟩, dn, dc, ds, lA, k, lc, ls⟩ wr ((HNW.out wr HBW.out).below (RowKit.Below.refl _ _) HBW.out.size))
      have HXN := hide (HXN3.out.below (HB.out.mono (Nat.le_of_eq HMM.out)))
      have HXP := hide (HXP3.out.below (HB.out.mono (Nat.le_of_eq HMM.out)))
      have x0 : wr.cell? ⟨W.heap.size, 0, none⟩ = some (.slice (some ⟨b, o, none⟩) dn dc) := HXN.out.get 0 _ rfl
      have x1 : wr.cell? ⟨W.heap.size, 1, none⟩ = some (.slice lA k lc) := HXN.out.get 1 _ rfl
      clear ho hso HO HXN3 HXP3 HB3 HFL
      go_wp2_with fail
      refine HNA.out.mono ?_
      clear HNA x0 x1
      rintro e w6 ⟨hb, hra⟩
      have HB6 := hide (HBW.out.trans (hb.mono HBW.out.size))
      have HXN6 := hide (HXN.out.below hb)
      have HXP6 := hide (HXP.out.below hb)
      have HM6 := hide (HM.out.below hb)
      have HNB := hide (reachNew_any ⟨some ⟨b, o, none⟩, dn, dc, ds, mA, (ls.filter (awayB i)).length, mc, ls.filter (awayB i)⟩ w6 (HMN.out.below hb hb.size))
      clear hb HBW HXN HXP HM HMN
      have m0 : w6.cell? ⟨M, 0, none⟩ = some (.slice (some ⟨b, o, none⟩) dn dc) := HM6.out.get 0 _ rfl
      have m1 : w6.cell? ⟨M, 1, none⟩ = some (.slice mA (ls.filter (awayB i)).length mc) := HM6.out.get 1 _ rfl
      rcases hra with ⟨Na, Ka, rfl, hEa, hRa⟩ | ⟨Ea, hEa, rfl⟩
      case inr =>
        have hEa2 : (Ea != 0) = true := by simpa using hEa
        clear hEa
        go_wp2_with fail
        refine HNB.out.mono ?_
        rintro e w7 ⟨hb, hrb⟩
        have HB7 := hide (HB6.out.trans (hb.mono HB6.out.size))
        rcases hrb with ⟨Nb, Kb, rfl, _, _⟩ | ⟨Eb, _, rfl⟩
        all_goals
          clear hb
          go_wp2
          go_ret
          exact ⟨rfl, HB7.out⟩
      have HEA := hide hEa
      have HRA := hide hRa
      clear hEa hRa
      go_wp2_with fail
      refine HNB.out.mono ?_
      clear HNB m0 m1
      rintro e w7 ⟨hb, hrb⟩
      have HB7 := hide (HB6.out.trans (hb.mono HB6.out.size))
      have HXN7 := hide (HXN6.out.below hb)
      have HXP7 := hide (HXP6.out.below hb)
      have HRA7 := hide (HRA.out.below hb)
      clear hb HB6 HXN6 HXP6 HM6 HRA
      rcases hrb with ⟨Nb, Kb, rfl, _, hRb⟩ | ⟨Eb, hEb, rfl⟩
      case inr =>
        have hEb2 : (Eb != 0) = true := by simpa using hEb
        clear hEb
        go_wp2
        go_ret
        exact ⟨rfl, HB7.out⟩
      have HRB7 := hide hRb
      clear hRb
      have x0 : w7.cell? ⟨W.heap.size, 0, none⟩ = some (.slice (some ⟨b, o, none⟩) dn dc) := HXN7.out.get 0 _ rfl
      have HLE := hide (show ∀ x, cntF 14 14 (roundS (ds.map DevV.dev) (ls.filter (awayB i)) Kb x) ≤ cntF 14 14 (roundS (ds.map DevV.dev) ls Ka x) from fun x => fewer_cnt HEA.out i Ka Kb HRA7.out.fix x)
      have HRO := hide (show ∀ x, 0 ≤ roundP (ds.map DevV.dev) (ls.filter (awayB i)) Kb x ⟨pa, pb, pc, pd⟩ → 0 ≤ roundP (ds.map DevV.dev) ls Ka x ⟨pa, pb, pc, pd⟩ from fun x hx => fewer_round HEA.out i Ka Kb HRA7.out.fix x _ hx)
      have HA := hide (show ReachAt w7 Na (ds.map DevV.dev) ls Ka from HRA7.out)
      have HBb := hide (show ReachAt w7 Nb (ds.map DevV.dev) (ls.filter (awayB i)) Kb from HRB7.out)
      have hdn9 : dn ≤ 2000000000000 := by omega
      clear HRA7 HRB7 HEA
      go_wp2_with fail
      clear x0
      generalize ls.filter (awayB i) = fl at *
      go_loopw [87] (fun u wr => ∃ (j : Nat), j ≤ dn ∧ u = .int .i64 (j : Int) ∧ Hid (RowKit.Below w7.heap.size w7 wr)) (fun u _ => dn - (intOf u).toNat)
      case atStart => exact ⟨0, Nat.zero_le _, rfl, hide (RowKit.Below.refl _ _)⟩
      case round =>
        obtain ⟨j, hj, rfl, HBL⟩ := hrel
        by_cases hjl : j < dn
        · obtain ⟨r, hr⟩ : ∃ r, ds[j]? = some r := ⟨_, List.getElem?_eq_getElem (by have := HDL.out; omega)⟩
          have hna := HNW.out _ (HB7.out.trans (HBL.out.mono HB7.out.size))
          obtain ⟨_, q0, q1, q2, q3, q4, q5, q6⟩ := dev_get hna.ds hr
          clear hna hr
          obtain ⟨nm, kd, ad, pl, bA, bn, bc, bs, rA, rn, rc, rs, tA, tn, tc, ts⟩ := r
          simp only at q0 q1 q2 q3 q4 q5 q6
          have hb8 := below_alloc2 wr (.cells #[.string nm, .int .i64 kd, .int .i64 ad, .int .u8 pl, .slice bA bn bc, .slice rA rn rc, .slice tA tn tc] 34)
          have HBL8 := hide (HBL.out.trans (hb8.mono HBL.out.size))
          have hpr := portsF_range kd
          obtain ⟨PN, hPN⟩ : ∃ PN : Nat, portsF kd = (PN : Int) := ⟨(portsF kd).toNat, by omega⟩
          have HPW := hide (fun (w' : World) => ports_walk kd w')
          rw [hPN] at HPW hpr
          have hPN4 : PN ≤ 4 := by omega
          clear hb8 hpr hPN
          go_wp2_with fail
          clear q0 q1 q2 q3 q4 q5 q6 HBL
          generalize World.alloc wr _ = w8 at *
          refine (HPW.out w8).mono ?_
          clear HPW
          rintro e w9 ⟨rfl, rfl⟩
          go_wp2_with fail
          go_loopw [95] (fun u wr => ∃ (t : Nat), t ≤ PN ∧ u = .int .i64 (t : Int) ∧ Hid (RowKit.Below w7.heap.size w7 wr)) (fun u _ => PN - (intOf u).toNat)
          case atStart => exact ⟨0, Nat.zero_le _, rfl, HBL8⟩
          case round =>
            clear HBL8
            obtain ⟨t, ht, rfl, HBT⟩ := hrel
            by_cases htl : t < PN
            · have hPX : poDom ((j : Int), (t : Int)) := ⟨by simp only [i64ok]; omega, by simp only [i64ok]; omega⟩
              have HPX := hide hPX
              clear hPX
              go_wp2_with fail
              refine (placeOf_walk (j : Int) (t : Int) wr).mono ?_
              rintro e w10 ⟨rfl, hb⟩
              have hb11 := below_alloc2 w10 (.cells #[.int .i64 (j : Int), .int .i64 (t : Int)] 43)
              have HB11 := hide (HBT.out.trans ((hb.trans (hb11.mono hb.size)).mono HBT.out.size))
              have HX11 := hide (Bx.new w10 #[.int .i64 (j : Int), .int .i64 (t : Int)] 43)
              clear hb hb11
              go_wp2_with fail
              generalize World.alloc w10 _ = w11 at *
              generalize w10.heap.size = N11 at *
              have HA11 := hide (HA.out.below HB11.out)
              have HBb11 := hide (HBb.out.below HB11.out)
              have HXP11 := hide (HXP7.out.below HB11.out)
              have hcle := HLE.out ((j : Int), (t : Int))
              have hrle := HRO.out ((j : Int), (t : Int))
              have HCA := hide (fun (w' : World) (h : ReachAt w' Na (ds.map DevV.dev) ls Ka) => reachCount_walk Na _ _ Ka ((j : Int), (t : Int)) HPX.out w' h)
              have HCB := hide (fun (w' : World) (h : ReachAt w' Nb (ds.map DevV.dev) fl Kb) => reachCount_walk Nb _ _ Kb ((j : Int), (t : Int)) HPX.out w' h)
              have HDA := hide (fun (w' : World) (h : ReachAt w' Na (ds.map DevV.dev) ls Ka) => reachRound_walk Na _ _ Ka ((j : Int), (t : Int)) HPX.out ⟨pa, pb, pc, pd⟩ w' h)
              have HDB := hide (fun (w' : World) (h : ReachAt w' Nb (ds.map DevV.dev) fl Kb) => reachRound_walk Nb _ _ Kb ((j : Int), (t : Int)) HPX.out ⟨pa, pb, pc, pd⟩ w' h)
              generalize cntF 14 14 (roundS (ds.map DevV.dev) ls Ka ((j : Int), (t : Int))) = ca at *
              generalize cntF 14 14 (roundS (ds.map DevV.dev) fl Kb ((j : Int), (t : Int))) = cb at *
              generalize roundP (ds.map DevV.dev) ls Ka ((j : Int), (t : Int)) ⟨pa, pb, pc, pd⟩ = ra at *
              generalize roundP (ds.map DevV.dev) fl Kb ((j : Int), (t : Int)) ⟨pa, pb, pc, pd⟩ = rb at *
              have hg1 : decide (ca < cb) = false := by simp; omega
              refine wp_region_abs (by kernel_rfl) (by kernel_rfl) ?_
              intro T hT gt hg0 hgi
              have HGT := hide hg0
              have HGI := hide hgi
              clear hg0 hgi
              have k2 : ∀ t', (gt t').cell? ⟨N11, 0, none⟩ = some (.int .i64 (j : Int)) := fun t' => (HX11.out.below (HGT.out t')).get 0 _ rfl
              have k3 : ∀ t', (gt t').cell? ⟨N11, 1, none⟩ = some (.int .i64 (t : Int)) := fun t' => (HX11.out.below (HGT.out t')).get 1 _ rfl
              have k4 : ∀ t', (gt t').cell? ⟨W.heap.size + 1, 0, none⟩ = some (.int .i64 pa) := fun t' => (HXP11.out.below (HGT.out t')).get 0 _ rfl
              have k5 : ∀ t', (gt t').cell? ⟨W.heap.size + 1, 1, none⟩ = some (.int .i64 pb) := fun t' => (HXP11.out.below (HGT.out t')).get 1 _ rfl
              have k6 : ∀ t', (gt t').cell? ⟨W.heap.size + 1, 2, none⟩ = some (.int .i64 pc) := fun t' => (HXP11.out.below (HGT.out t')).get 2 _ rfl
              have k7 : ∀ t', (gt t').cell? ⟨W.heap.size + 1, 3, none⟩ = some (.int .i64 pd) := fun t' => (HXP11.out.below (HGT.out t')).get 3 _ rfl
              by_cases hrb : 0 ≤ rb
              · have hra := hrle hrb
                have hg2 : decide (ra < 0) = false := by simp; omega
                repeat (go_big_quiet_step ((first | (go_at_call_of 10 (Value.pointer (some ⟨Nb, 0, none⟩)); exact inAbs HGT.out HGI.out (HCB.out _ (HBb11.out.below (HGT.out _)))) | (go_at_call_of 10 (Value.pointer (some ⟨Na, 0, none⟩)); exact inAbs HGT.out HGI.out (HCA.out _ (HA11.out.below (HGT.out _)))) | (go_at_call_of 11 (Value.pointer (some ⟨Nb, 0, none⟩)); exact inAbs HGT.out HGI.out (HDB.out _ (HBb11.out.below (HGT.out _)))) | (go_at_call_of 11 (Value.pointer (some ⟨Na, 0, none⟩)); exact inAbs HGT.out HGI.out (HDA.out _ (HA11.out.below (HGT.out _)))))))
                refine wpQuiet_nil ?_
                intro _ hw'
                obtain ⟨t', rfl⟩ := hw'
                have HBF := hide (HB11.out.trans ((HGT.out t').mono HB11.out.size))
                generalize gt t' = w12 at *
                clear HGT HGI k2 k3 k4 k5 k6 k7 HCA HCB HDA HDB
                go_wp2_with fail
                go_roundw
                case rel => exact ⟨t + 1, by omega, by go_num, HBF⟩
                case measure => simp [intOf]; omega
              · have hg2 : decide (0 ≤ rb) = false := by simpa using hrb
                repeat (go_big_quiet_step ((first | (go_at_call_of 10 (Value.pointer (some ⟨Nb, 0, none⟩)); exact inAbs HGT.out HGI.out (HCB.out _ (HBb11.out.below (HGT.out _)))) | (go_at_call_of 10 (Value.pointer (some ⟨Na, 0, none⟩)); exact inAbs HGT.out HGI.out (HCA.out _ (HA11.out.below (HGT.out _)))) | (go_at_call_of 11 (Value.pointer (some ⟨Nb, 0, none⟩)); exact inAbs HGT.out HGI.out (HDB.out _ (HBb11.out.below (HGT.out _)))) | (go_at_call_of 11 (Value.pointer (some ⟨Na, 0, none⟩)); exact inAbs HGT.out HGI.out (HDA.out _ (HA11.out.below (HGT.out _)))))))
                refine wpQuiet_nil ?_
                intro _ hw'
                obtain ⟨t', rfl⟩ := hw'
                have HBF := hide (HB11.out.trans ((HGT.out t').mono HB11.out.size))
                generalize gt t' = w12 at *
                clear HGT HGI k2 k3 k4 k5 k6 k7 HCA HCB HDA HDB
                go_wp2_with fail
                go_roundw
                case rel => exact ⟨t + 1, by omega, by go_num, HBF⟩
                case measure => simp [intOf]; omega
            · go_wp2_with fail
              go_roundw
              case rel => exact ⟨j + 1, by omega, by go_num, HBT⟩
              case measure => simp [intOf]; omega
        · go_wp2
          go_ret
          exact ⟨rfl, HB7.out.trans (HBL.out.mono HB7.out.size)⟩
end Go.Proofs.Ytklbdfgblebniaa

set_option linter.unusedVariables false
set_option linter.unusedSimpArgs false
namespace Go.Proofs.Ytklbdfgblebniaa
open Go.ChangeShapes Go.WideShapes Go.ChangeAt Go.RowKit Go.Maps

set_option maxRecDepth 100000 in
theorem reachFewer_lifted (os : Os) (started : os.Started) (H : Type) (enc : TypeId × Value → H) :
    ReturnsInHanded {} Try.checked os 3 .any (Rows.reachFewerSpec.pre6 enc Try.prog Try.f3 Rows.reachFewerRow.domain false) (Rows.reachFewerSpec.post enc Try.prog Try.f3 false true false false) :=
  law_lifted (C := Try.checked) (tb := 4) Try.own started (by kernel_rfl) Try.func3 Try.laidOut (by kernel_rfl) rfl (by kernel_rfl) Try.underlying4
    (fun ds h => by
      match ds, h with
      | [_, _, _], _ => exact ⟨rfl, rfl, rfl⟩)
    (ChangeSpec.witness6 (enc := enc) (C := Try.checked) false ⟨#[], #[.agg #[.slice none 0 0, .slice none 0 0], .int .i64 0, .agg #[.int .i64 0, .int .i64 0, .int .i64 0, .int .i64 0]], []⟩ 8 (by kernel_rfl) (by kernel_rfl) (by kernel_rfl) (by kernel_rfl))
    (fun W base args ds p hval0 hA0 hlt hsz0 => by
      have hval : ∀ (j : Nat) t v, Try.f3.params[j]? = some t → args[j]? = some v → Value.okWide Try.prog W .any base t v := hval0
      have hA : DataW.TrodAll enc Try.prog W 0 (fun _ => true) true Try.f3.params.toList args.toList ds p := hA0
      have hsz : (DataW.weightsEach Try.prog (Try.f3.params.toList ++ Rows.reachFewerSpec.plain.varTypes Try.prog) (ds ++ [])).all (· ≤ reachBytes) = true := hsz0
      rw [Try.params3] at hA hval hsz
      obtain ⟨v0, vs0, d0, ds0, p0, q0, hargs, rfl, rfl, h0, r0⟩ := args_cons hA
      obtain ⟨v1, vs1, d1, ds1, p1, q1, rfl, rfl, rfl, h1, r1⟩ := args_cons r0
      obtain ⟨v2, vs2, d2, ds2, p2, q2, rfl, rfl, rfl, h2, r2⟩ := args_cons r1
      obtain ⟨rfl, rfl, rfl⟩ := args_nil r2
      obtain rfl : args = #[v0, v1, v2] := arr_eq hargs
      have hw : ∀ m ∈ d0.weights Try.prog 25, m ≤ reachBytes := fun m hm => by
        have := List.all_eq_true.1 hsz m (DataW.weights_mem_each (j := 0) rfl rfl m hm)
        simpa using this
      obtain ⟨n0, hn0, rfl, hl0, hd0⟩ := open_net_sized (hval 0 _ v0 rfl rfl) h0 hw
      obtain ⟨x1, rfl, hx1⟩ := open_i64 (hval 1 _ v1 rfl rfl) h1
      obtain ⟨a2, b2, c2, e2, rfl, ha2, hb2, hc2, he2⟩ := open_packet (hval 2 _ v2 rfl rfl) h2
      exact reachFewer_walk n0 x1 ⟨a2, b2, c2, e2⟩ W hn0 hx1 ⟨ha2, hb2, hc2, he2⟩ hl0 hd0)

theorem reachFewer_holds : Rows.ReachFewerSaid :=
  OpenClaim.holds_of_wide 3 Try.f3 rfl rfl rfl rfl rfl rfl rfl ⟨rfl, rfl, rfl, rfl, rfl⟩ rfl rfl rfl rfl rfl (by kernel_rfl) Try.func3 (by kernel_rfl)
    (of_decide_eq_true (by kernel_rfl)) (by unfold Func.isWrapper; first | (rw [if_pos (by decide +kernel)]; kernel_rfl) | (rw [if_neg (by decide +kernel)]; exact ⟨rfl, rfl⟩))
    (fun os started H enc _ => reachFewer_lifted os started H enc)
end Go.Proofs.Ytklbdfgblebniaa
