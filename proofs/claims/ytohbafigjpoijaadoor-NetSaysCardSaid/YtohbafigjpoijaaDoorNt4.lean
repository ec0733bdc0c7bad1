/- net.Print. -/
import Derived.Test.YtohbafigjpoijaaDoorNtB
import Derived.Test.YtohbafigjpoijaaDoorNt3
import Derived.Test.YtohbafigjpoijaaDoorNetCheck
set_option linter.unusedVariables false
set_option linter.unusedSimpArgs false
set_option maxRecDepth 100000
set_option maxHeartbeats 8000000
namespace Go.Proofs.YtohbafigjpoijaaDoor
open Go.RowKit

theorem linkT_len {ds : List Dev} (hd : ∀ d ∈ ds, d.name.size ≤ 8) (l : LinkV) (hp : l.p < 100) (hq : l.q < 100) : (linkT ds l).length ≤ 30 := by
  have key : ∀ i : Int, (nameAt ds i).length ≤ 8 := by
    intro i
    unfold nameAt
    cases e : ds[i.toNat]? with
    | none => simp
    | some d =>
      have := hd d (List.mem_of_getElem? e)
      simpa using this
  have h1 := key l.a
  have h2 := key l.b
  have h3 := dec_len2 (show l.p.toNat < 100 by omega)
  have h4 := dec_len2 (show l.q.toNat < 100 by omega)
  simp [linkT]; omega
theorem netPrint_walk (n : NetV) (W : World) (hn : NetAt W W.heap.size n) :
    Calls Tryd.prog 31 #[n.val] W fun e W' => e = .returned (.tuple #[.string ⟨(printN n.devs n.ls).toArray⟩, .int .i64 (netE n.devs n.ls)]) ∧ Below W.heap.size W W' := by
  have HCH := hide (fun w (hb : Below W.heap.size W w) => netCheck_walk n w (hn.below hb hb.size))
  by_cases h0 : netE n.devs n.ls = 0
  case neg =>
    have HP := hide (show printN n.devs n.ls = [] by rw [printN, if_neg h0])
    have e1 : (netE n.devs n.ls == 0) = false := by simpa using h0
    have e2 : (netE n.devs n.ls != 0) = true := by simpa using h0
    rw [HP.out]
    generalize netE n.devs n.ls = E at *
    obtain ⟨dA, dn, dc, ds, lA, ln, lc, ls⟩ := n
    have hb0 := (Below.refl W.heap.size W).alloc (Nat.le_refl _) (.cells #[.slice dA dn dc, .slice lA ln lc] 53)
    simp only [NetV.val] at *
    go_enter Tryd.func31, Tryd.ntmps31
    go_wp2_with fail
    refine (HCH.out _ hb0).mono ?_
    rintro e w1 ⟨rfl, hb⟩
    have HB := hide (hb0.trans (hb.mono hb0.size))
    clear hb hb0 HCH
    go_wp2
    go_ret2
    exact ⟨rfl, HB.out⟩
  have HP := hide (show printN n.devs n.ls = netT n.devs n.ls by rw [printN, if_pos h0])
  have HDO := hide (fun (d : DevV) (hd : d ∈ n.ds) => show TxOk d.dev from tx_ok (net_devs_ok h0 d.dev (List.mem_map_of_mem hd)) (named_all n.devs [] (netE_ok h0).de d.dev (List.mem_map_of_mem hd)) (hn.dok d hd).pl)
  have HLO := hide (fun (l : LinkV) (hl : l ∈ n.ls) => link_ok h0 hl)
  have hdl : n.ds.length ≤ 10 := by have := (netE_ok h0).dl; simpa [NetV.devs] using this
  have hll : n.ls.length ≤ 15 := (netE_ok h0).ll
  have HNT := hide (show netT n.devs n.ls = n.ds.flatMap (fun d => devT d.dev) ++ n.ls.flatMap (linkT n.devs) by simp [netT, NetV.devs, List.flatMap_map])
  have HLT := hide (fun (l : LinkV) (hl : l ∈ n.ls) => linkT_len (ds := n.devs) (fun d hd => by
    obtain ⟨x, hx, rfl⟩ := List.mem_map.1 hd
    exact (HDO.out x hx).nm) l (HLO.out l hl).p.2 (HLO.out l hl).q.2)
  have HGT := hide (fun (i : Nat) (d : DevV) (hd : n.ds[i]? = some d) => show nameAt n.devs (i : Int) = d.name.data.toList from nameAt_get (d := d.dev) (by simp [NetV.devs, hd]))
  have HDL := hide (show (n.devs.length : Int) = n.dn by have := hn.dlen; simp [NetV.devs, this])
  rw [h0] at HCH ⊢
  rw [HP.out]
  generalize n.devs = DV at *
  obtain ⟨NT, hNT⟩ : ∃ l, netT DV n.ls = l := ⟨_, rfl⟩
  rw [hNT] at HNT ⊢
  have hdn := hn.dlen
  have hln := hn.llen
  have HN := hide hn
  obtain ⟨dA, dn, dc, ds, lA, ln, lc, ls⟩ := n
  have hb0 := (Below.refl W.heap.size W).alloc (Nat.le_refl _) (.cells #[.slice dA dn dc, .slice lA ln lc] 53)
  have hx0 := heap_alloc_new W (.cells #[.slice dA dn dc, .slice lA ln lc] 53)
  simp only [NetV.val] at *
  clear h0 HP hNT hn
  go_enter Tryd.func31, Tryd.ntmps31
  go_wp2_with fail
  refine (HCH.out _ hb0).mono ?_
  rintro e w1 ⟨rfl, hb⟩
  have HB1 := hide (hb0.trans (hb.mono hb0.size))
  have HX1 := hide ((hb.block W.heap.size (heap_lt hx0)).trans hx0)
  clear hb hb0 hx0 HCH
  have hx2 := (((Below.refl w1.heap.size w1).alloc (Nat.le_refl _) (.cells #[.pointer none, .slice none 0 0] 111)).block W.heap.size (heap_lt HX1.out)).trans HX1.out
  have n0 : (w1.alloc (.cells #[.pointer none, .slice none 0 0] 111)).cell? ⟨W.heap.size, 0, none⟩ = some (.slice dA dn dc) := by rw [cell_of_row _ _ _ _ _ _ hx2]; rfl
  have HBN := hide (Bld.new w1)
  have hdn10 : dn ≤ 10 := by omega
  have hln15 : ln ≤ 15 := by omega
  clear hx2
  go_wp2_with fail
  have HBX := hide ((Below.refl w1.heap.size w1).alloc (Nat.le_refl _) (.cells #[.pointer none, .slice none 0 0] 111))
  generalize w1.alloc (.cells #[.pointer none, .slice none 0 0] 111) = w2 at *
  go_loopw [18] (fun i wr => ∃ (k : Nat) (J : List UInt8), k ≤ dn ∧ i = .int .i64 (k : Int) ∧ Hid (J = (ds.take k).flatMap (fun d => devT d.dev)) ∧ Hid (Bld wr w1.heap.size w1.heap.size J) ∧ Hid (Below w1.heap.size w1 wr)) (fun i _ => dn - (intOf i).toNat)
  case atStart => exact ⟨0, [], Nat.zero_le _, rfl, hide (by simp), HBN, HBX⟩
  case round =>
    obtain ⟨k, J, hk, rfl, HJ, HBL, HBW⟩ := hrel
    have hJl : J.length ≤ 30000 := by
      have h := flat_len (fun d : DevV => devT d.dev) 3000 (ds.take k) (fun x hx => devT_len (HDO.out x (List.mem_of_mem_take hx)))
      rw [HJ.out]; rw [List.length_take] at h; omega
    have hbW : Below W.heap.size W wr := HB1.out.trans (HBW.out.mono HB1.out.size)
    by_cases hlt : k < dn
    case pos =>
      obtain ⟨d, hd⟩ : ∃ d, ds[k]? = some d := ⟨_, List.getElem?_eq_getElem (by omega)⟩
      have hds := HN.out.ds
      simp only at hds
      obtain ⟨bb, oo, rfl, hbb, hgg⟩ := hds.2 (by omega)
      have tr : ∀ o v, W.cell? ⟨bb, o, none⟩ = some v → wr.cell? ⟨bb, o, none⟩ = some v := fun o v h => (hbW.cell (p := ⟨bb, o, none⟩) hbb).trans h
      have q0 : wr.cell? ⟨bb, oo + k * 7, none⟩ = some (.string d.name) := tr _ _ (hgg k d hd 0 _ rfl)
      have q1 := tr _ _ (hgg k d hd 1 _ rfl)
      have q2 := tr _ _ (hgg k d hd 2 _ rfl)
      have q3 := tr _ _ (hgg k d hd 3 _ rfl)
      have q4 := tr _ _ (hgg k d hd 4 _ rfl)
      have q5 := tr _ _ (hgg k d hd 5 _ rfl)
      have q6 := tr _ _ (hgg k d hd 6 _ rfl)
      have HTX := hide (fun w (hb : Below W.heap.size W w) => netText_walk d w ((HN.out.dok d (List.mem_of_getElem? hd)).below hb hb.size) (HDO.out d (List.mem_of_getElem? hd)))
      have HTK := hide (flat_take (fun d : DevV => devT d.dev) hd)
      have hlD := devT_len (HDO.out d (List.mem_of_getElem? hd))
      obtain ⟨D, hD⟩ : ∃ D, devT d.dev = D := ⟨_, rfl⟩
      rw [hD] at HTX HTK hlD
      have HJ2 := hide (show J ++ D = (ds.take (k + 1)).flatMap (fun d : DevV => devT d.dev) by rw [HTK.out, HJ.out])
      clear hgg tr hds HTK hD HJ hd
      obtain ⟨name, kind, addr, pool, bA, bn, bc, bs, rA, rn, rc, rs, tA, tn, tc, ts⟩ := d
      simp only [DevV.val] at HTX q0 q1 q2 q3 q4 q5 q6
      have ho := (Below.refl wr.heap.size wr).alloc (Nat.le_refl _) (.cells #[.string name, .int .i64 kind, .int .i64 addr, .int .u8 pool, .slice bA bn bc, .slice rA rn rc, .slice tA tn tc] 71)
      obtain ⟨y0, y1, y2, y3, y4, y5, y6⟩ := cells7f (heap_alloc_new wr (.cells #[.string name, .int .i64 kind, .int .i64 addr, .int .u8 pool, .slice bA bn bc, .slice rA rn rc, .slice tA tn tc] 71))
      have HBL4 := hide (HBL.out.below ho)
      have HBW4 := hide (HBW.out.trans (ho.mono HBW.out.size))
      have HBV4 := hide (hbW.trans (ho.mono hbW.size))
      clear ho HBL HBW hbW
      go_wp2_with fail
      generalize wr.alloc (.cells #[.string name, .int .i64 kind, .int .i64 addr, .int .u8 pool, .slice bA bn bc, .slice rA rn rc, .slice tA tn tc] 71) = w4 at *
      refine (HTX.out _ HBV4.out).mono ?_
      rintro e w5 ⟨rfl, hb5⟩
      have HBL5 := hide (HBL4.out.below hb5)
      have HBW5 := hide (HBW4.out.trans (hb5.mono HBW4.out.size))
      clear hb5 HBL4 HBW4 HBV4 y0 y1 y2 y3 y4 y5 y6 q0 q1 q2 q3 q4 q5 q6 HTX
      go_wp2_with fail
      refine (bld_write _ _ J D _ HBL5.out (by omega) HBW5.out.size).mono ?_
      rintro e w6 ⟨rfl, h6, hb6, _⟩
      have HBL6 := hide h6
      have HBW6 := hide (HBW5.out.trans hb6)
      clear h6 hb6 HBL5 HBW5
      go_wp2_with fail
      go_roundw
      case rel => exact ⟨k + 1, _, by omega, by go_num, HJ2, HBL6, HBW6⟩
      case measure => simp [intOf]; omega
    case neg =>
      obtain rfl : k = dn := by omega
      have hall : ds.take k = ds := List.take_of_length_le (by omega)
      rw [hall] at HJ
      have HXR := hide ((HBW.out.block W.heap.size (Nat.lt_of_lt_of_le (heap_lt HX1.out) (Nat.le_refl _))).trans HX1.out)
      have HBR := hide hbW
      have HBL1 := HBL
      have HBW1 := HBW
      have hJl1 := hJl
      have m1 : wr.cell? ⟨W.heap.size, 1, none⟩ = some (.slice lA ln lc) := by rw [cell_of_row _ _ _ _ _ _ HXR.out]; rfl
      obtain ⟨w7, hw7⟩ : ∃ w, w = wr := ⟨_, rfl⟩
      subst hw7
      clear hJl hbW HBW HBL hall n0
      go_wp2_with fail
      go_loopw [29] (fun i wf => ∃ (n : Nat) (L : List UInt8), n ≤ ln ∧ i = .int .i64 (n : Int) ∧ Hid (L = J ++ (ls.take n).flatMap (linkT DV)) ∧ Hid (Bld wf w1.heap.size w1.heap.size L) ∧ Hid (Below w1.heap.size w1 wf)) (fun i _ => ln - (intOf i).toNat)
      case atStart => exact ⟨0, J, Nat.zero_le _, rfl, hide (by simp), HBL1, HBW1⟩
      case round =>
        obtain ⟨n, L, hn, rfl, HL, HBL, HBW⟩ := hrel
        have hLl : L.length ≤ 31000 := by
          have h := flat_len (linkT DV) 30 (ls.take n) (fun x hx => HLT.out x (List.mem_of_mem_take hx))
          rw [HL.out, List.length_append]; rw [List.length_take] at h; omega
        have hbF : Below W.heap.size W wr := HB1.out.trans (HBW.out.mono HB1.out.size)
        have hxR := (HBW.out.block W.heap.size (heap_lt HX1.out)).trans HX1.out
        by_cases hlt2 : n < ln
        case pos =>
          obtain ⟨l, hl⟩ : ∃ l, ls[n]? = some l := ⟨_, List.getElem?_eq_getElem (by omega)⟩
          have hls := HN.out.ls
          simp only at hls
          have hlk := HLO.out l (List.mem_of_getElem? hl)
          obtain ⟨bb, oo, rfl, hbb, hgg⟩ := hls.2 (by omega)
          have tr : ∀ o v, W.cell? ⟨bb, o, none⟩ = some v → wr.cell? ⟨bb, o, none⟩ = some v := fun o v h => (hbF.cell (p := ⟨bb, o, none⟩) hbb).trans h
          have q0 : wr.cell? ⟨bb, oo + n * 4, none⟩ = some (.int .i64 l.a) := tr _ _ (hgg n l hl 0 _ rfl)
          have q1 := tr _ _ (hgg n l hl 1 _ rfl)
          have q2 := tr _ _ (hgg n l hl 2 _ rfl)
          have q3 := tr _ _ (hgg n l hl 3 _ rfl)
          have hdl2 := HDL.out
          have hka := hlk.a
          have hkb := hlk.b
          have hkp := hlk.p
          have hkq := hlk.q
          -- the ends' names
          have hds := HN.out.ds
          simp only at hds
          obtain ⟨ia, hia⟩ : ∃ i : Nat, l.a = i := ⟨l.a.toNat, by omega⟩
          obtain ⟨ib, hib⟩ : ∃ i : Nat, l.b = i := ⟨l.b.toNat, by omega⟩
          have hial : ia < k := by omega
          have hibl : ib < k := by omega
          obtain ⟨da, hda⟩ : ∃ d, ds[ia]? = some d := ⟨_, List.getElem?_eq_getElem (by omega)⟩
          obtain ⟨db, hdb⟩ : ∃ d, ds[ib]? = some d := ⟨_, List.getElem?_eq_getElem (by omega)⟩
          obtain ⟨b2, o2, rfl, hb2, hg2⟩ := hds.2 (by omega)
          obtain ⟨A, hA⟩ : ∃ A : List UInt8, da.name = ⟨A.toArray⟩ := ⟨_, str_list _⟩
          obtain ⟨Bn, hBn⟩ : ∃ A : List UInt8, db.name = ⟨A.toArray⟩ := ⟨_, str_list _⟩
          have na : wr.cell? ⟨b2, o2 + ia * 7, none⟩ = some (.string ⟨A.toArray⟩) := by rw [← hA]; exact (hbF.cell (p := ⟨b2, o2 + ia * 7, none⟩) hb2).trans (hg2 ia da hda 0 _ rfl)
          have nb : wr.cell? ⟨b2, o2 + ib * 7, none⟩ = some (.string ⟨Bn.toArray⟩) := by rw [← hBn]; exact (hbF.cell (p := ⟨b2, o2 + ib * 7, none⟩) hb2).trans (hg2 ib db hdb 0 _ rfl)
          have hAn : nameAt DV l.a = A := by rw [hia, HGT.out ia da hda, hA]
          have hBm : nameAt DV l.b = Bn := by rw [hib, HGT.out ib db hdb, hBn]
          have hAl : A.length ≤ 8 := by have h := (HDO.out da (List.mem_of_getElem? hda)).nm; have e : da.dev.name = da.name := rfl; have e2 : (⟨A.toArray⟩ : ByteArray).size = A.length := List.size_toArray; rw [e, hA, e2] at h; exact h
          have hBl : Bn.length ≤ 8 := by have h := (HDO.out db (List.mem_of_getElem? hdb)).nm; have e : db.dev.name = db.name := rfl; have e2 : (⟨Bn.toArray⟩ : ByteArray).size = Bn.length := List.size_toArray; rw [e, hBn, e2] at h; exact h
          have HRT := hide (show linkT DV l = [108, 105, 110, 107, 32] ++ (nameAt DV l.a ++ 32 :: (Lib.decDigits l.p.toNat ++ 32 :: (nameAt DV l.b ++ 32 :: (Lib.decDigits l.q.toNat ++ [10])))) from rfl)
          rw [hAn, hBm] at HRT
          have HTK := hide (flat_take (linkT DV) hl)
          have n0 : wr.cell? ⟨W.heap.size, 0, none⟩ = some (.slice (some ⟨b2, o2, none⟩) k dc) := by rw [cell_of_row _ _ _ _ _ _ hxR]; rfl
          have hWlt := heap_lt hxR
          have hb2W : b2 < wr.heap.size := Nat.lt_of_lt_of_le hb2 hbF.size
          have hW1 : W.heap.size < w1.heap.size := heap_lt HX1.out
          have hb2w1 : b2 < w1.heap.size := by omega
          obtain ⟨la, lp, lb, lq⟩ := l
          simp only at hia hib hkp hkq HRT q0 q1 q2 q3
          subst hia hib
          have I1 := hide (fun w => show Calls Tryd.prog 41 #[.int .i64 lp] w (fun e w' => e = .returned (.string ⟨(Lib.decDigits (lp).toNat).toArray⟩) ∧ w' = w) from by
            have h := Tryd.strconv_Itoa_small (lp).toNat (by have := hkp; omega) w
            rw [show (((lp).toNat : Nat) : Int) = lp by have := hkp; omega] at h
            exact h)
          have I2 := hide (fun w => show Calls Tryd.prog 41 #[.int .i64 lq] w (fun e w' => e = .returned (.string ⟨(Lib.decDigits (lq).toNat).toArray⟩) ∧ w' = w) from by
            have h := Tryd.strconv_Itoa_small (lq).toNat (by have := hkq; omega) w
            rw [show (((lq).toNat : Nat) : Int) = lq by have := hkq; omega] at h
            exact h)
          have l1 := dec_len2 (show lp.toNat < 100 by omega)
          have l2 := dec_len2 (show lq.toNat < 100 by omega)
          generalize Lib.decDigits lp.toNat = X at *
          generalize Lib.decDigits lq.toNat = Y at *
          have HL2 := hide (show L ++ ([108, 105, 110, 107, 32] ++ (A ++ 32 :: (X ++ 32 :: (Bn ++ 32 :: (Y ++ [10]))))) = J ++ (ls.take (n + 1)).flatMap (linkT DV) by rw [HTK.out, HL.out, HRT.out, List.append_assoc])
          have hTl : ([108, 105, 110, 107, 32] ++ (A ++ 32 :: (X ++ 32 :: (Bn ++ 32 :: (Y ++ [10]))))).length ≤ 40 := by simp; omega
          have hial : ((ia : Nat) : Int) < (k : Int) := by omega
          have hibl : ((ib : Nat) : Int) < (k : Int) := by omega
          clear hgg tr hds hg2 HRT HTK hAn hBm hA hBn hl hlk hka hkb hda hdb HL hls hxR
          have e1 : ∀ w', (Op.stringOp .add ⟨List.toArray ([108, 105, 110, 107, 32])⟩ ⟨List.toArray (A)⟩).run Tryd.prog w' = .ok (.string ⟨List.toArray (108 :: 105 :: 110 :: 107 :: 32 :: A)⟩) w' := fun w' => by
            have := add_run ([108, 105, 110, 107, 32]) (A) (by (try simp only [List.length_append, List.length_cons, List.length_nil]) <;> omega) (by (try simp only [List.length_append, List.length_cons, List.length_nil]) <;> omega) w'
            simpa using this
          have e2 : ∀ w', (Op.stringOp .add ⟨List.toArray (108 :: 105 :: 110 :: 107 :: 32 :: A)⟩ ⟨List.toArray ([32])⟩).run Tryd.prog w' = .ok (.string ⟨List.toArray (108 :: 105 :: 110 :: 107 :: 32 :: (A ++ [32]))⟩) w' := fun w' => by
            have := add_run (108 :: 105 :: 110 :: 107 :: 32 :: A) ([32]) (by (try simp only [List.length_append, List.length_cons, List.length_nil]) <;> omega) (by (try simp only [List.length_append, List.length_cons, List.length_nil]) <;> omega) w'
            simpa using this
          have e3 : ∀ w', (Op.stringOp .add ⟨List.toArray (108 :: 105 :: 110 :: 107 :: 32 :: (A ++ [32]))⟩ ⟨List.toArray (X)⟩).run Tryd.prog w' = .ok (.string ⟨List.toArray (108 :: 105 :: 110 :: 107 :: 32 :: (A ++ 32 :: X))⟩) w' := fun w' => by
            have := add_run (108 :: 105 :: 110 :: 107 :: 32 :: (A ++ [32])) (X) (by (try simp only [List.length_append, List.length_cons, List.length_nil]) <;> omega) (by (try simp only [List.length_append, List.length_cons, List.length_nil]) <;> omega) w'
            simpa using this
          have e4 : ∀ w', (Op.stringOp .add ⟨List.toArray (108 :: 105 :: 110 :: 107 :: 32 :: (A ++ 32 :: X))⟩ ⟨List.toArray ([32])⟩).run Tryd.prog w' = .ok (.string ⟨List.toArray (108 :: 105 :: 110 :: 107 :: 32 :: (A ++ 32 :: (X ++ [32])))⟩) w' := fun w' => by
            have := add_run (108 :: 105 :: 110 :: 107 :: 32 :: (A ++ 32 :: X)) ([32]) (by (try simp only [List.length_append, List.length_cons, List.length_nil]) <;> omega) (by (try simp only [List.length_append, List.length_cons, List.length_nil]) <;> omega) w'
            simpa using this
          have e5 : ∀ w', (Op.stringOp .add ⟨List.toArray (108 :: 105 :: 110 :: 107 :: 32 :: (A ++ 32 :: (X ++ [32])))⟩ ⟨List.toArray (Bn)⟩).run Tryd.prog w' = .ok (.string ⟨List.toArray (108 :: 105 :: 110 :: 107 :: 32 :: (A ++ 32 :: (X ++ 32 :: Bn)))⟩) w' := fun w' => by
            have := add_run (108 :: 105 :: 110 :: 107 :: 32 :: (A ++ 32 :: (X ++ [32]))) (Bn) (by (try simp only [List.length_append, List.length_cons, List.length_nil]) <;> omega) (by (try simp only [List.length_append, List.length_cons, List.length_nil]) <;> omega) w'
            simpa using this
          have e6 : ∀ w', (Op.stringOp .add ⟨List.toArray (108 :: 105 :: 110 :: 107 :: 32 :: (A ++ 32 :: (X ++ 32 :: Bn)))⟩ ⟨List.toArray ([32])⟩).run Tryd.prog w' = .ok (.string ⟨List.toArray (108 :: 105 :: 110 :: 107 :: 32 :: (A ++ 32 :: (X ++ 32 :: (Bn ++ [32]))))⟩) w' := fun w' => by
            have := add_run (108 :: 105 :: 110 :: 107 :: 32 :: (A ++ 32 :: (X ++ 32 :: Bn))) ([32]) (by (try simp only [List.length_append, List.length_cons, List.length_nil]) <;> omega) (by (try simp only [List.length_append, List.length_cons, List.length_nil]) <;> omega) w'
            simpa using this
          have e7 : ∀ w', (Op.stringOp .add ⟨List.toArray (108 :: 105 :: 110 :: 107 :: 32 :: (A ++ 32 :: (X ++ 32 :: (Bn ++ [32]))))⟩ ⟨List.toArray (Y)⟩).run Tryd.prog w' = .ok (.string ⟨List.toArray (108 :: 105 :: 110 :: 107 :: 32 :: (A ++ 32 :: (X ++ 32 :: (Bn ++ 32 :: Y))))⟩) w' := fun w' => by
            have := add_run (108 :: 105 :: 110 :: 107 :: 32 :: (A ++ 32 :: (X ++ 32 :: (Bn ++ [32])))) (Y) (by (try simp only [List.length_append, List.length_cons, List.length_nil]) <;> omega) (by (try simp only [List.length_append, List.length_cons, List.length_nil]) <;> omega) w'
            simpa using this
          have e8 : ∀ w', (Op.stringOp .add ⟨List.toArray (108 :: 105 :: 110 :: 107 :: 32 :: (A ++ 32 :: (X ++ 32 :: (Bn ++ 32 :: Y))))⟩ ⟨List.toArray ([10])⟩).run Tryd.prog w' = .ok (.string ⟨List.toArray (108 :: 105 :: 110 :: 107 :: 32 :: (A ++ 32 :: (X ++ 32 :: (Bn ++ 32 :: (Y ++ [10])))))⟩) w' := fun w' => by
            have := add_run (108 :: 105 :: 110 :: 107 :: 32 :: (A ++ 32 :: (X ++ 32 :: (Bn ++ 32 :: Y)))) ([10]) (by (try simp only [List.length_append, List.length_cons, List.length_nil]) <;> omega) (by (try simp only [List.length_append, List.length_cons, List.length_nil]) <;> omega) w'
            simpa using this
          have ho := (Below.refl wr.heap.size wr).alloc (Nat.le_refl _) (.cells #[.int .i64 (ia : Int), .int .i64 lp, .int .i64 (ib : Int), .int .i64 lq] 100)
          have hbx := heap_alloc_new wr (.cells #[.int .i64 (ia : Int), .int .i64 lp, .int .i64 (ib : Int), .int .i64 lq] 100)
          have n1 := (ho.cell (p := ⟨W.heap.size, 0, none⟩) hWlt).trans n0
          have na1 := (ho.cell (p := ⟨b2, o2 + ia * 7, none⟩) hb2W).trans na
          have nb1 := (ho.cell (p := ⟨b2, o2 + ib * 7, none⟩) hb2W).trans nb
          have HBL4 := hide (HBL.out.below ho)
          have HBW4 := hide (HBW.out.trans (ho.mono HBW.out.size))
          have hNb : wr.heap.size ≠ w1.heap.size := by have := HBL.out.lt; omega
          clear ho HBL HBW hbF
          go_wp2_with fail
          generalize hw4 : wr.alloc (.cells #[.int .i64 (ia : Int), .int .i64 lp, .int .i64 (ib : Int), .int .i64 lq] 100) = w4 at *
          clear hw4 n0 na nb
          generalize wr.heap.size = N9 at *
          obtain ⟨y0, y1, y2, y3, _⟩ := cells4f hbx
          have HRE := hide (fun (w' : World) (hb : Below w1.heap.size w4 w') (ho : Lib.OthersKept 5 (some w1.heap.size) w4 w') => show (w'.cell? ⟨W.heap.size, 0, none⟩ = some (.slice (some ⟨b2, o2, none⟩) k dc) ∧ w'.cell? ⟨b2, o2 + ia * 7, none⟩ = some (.string ⟨A.toArray⟩) ∧ w'.cell? ⟨b2, o2 + ib * 7, none⟩ = some (.string ⟨Bn.toArray⟩) ∧ w'.cell? ⟨N9, 0, none⟩ = some (.int .i64 (ia : Int)) ∧ w'.cell? ⟨N9, 1, none⟩ = some (.int .i64 lp) ∧ w'.cell? ⟨N9, 2, none⟩ = some (.int .i64 (ib : Int)) ∧ w'.cell? ⟨N9, 3, none⟩ = some (.int .i64 lq)) from by
            obtain ⟨z0, z1, z2, z3, _⟩ := cells4f (ho N9 _ hbx (fun h => hNb (Option.some.inj h)) (fun c fz h => by injection h with _ h2 _; exact absurd h2 (by decide)))
            exact ⟨(hb.cell (p := ⟨W.heap.size, 0, none⟩) hW1).trans n1, (hb.cell (p := ⟨b2, o2 + ia * 7, none⟩) hb2w1).trans na1, (hb.cell (p := ⟨b2, o2 + ib * 7, none⟩) hb2w1).trans nb1, z0, z1, z2, z3⟩)
          clear hbx
          go_region_held3 (fun w' => w'.cell? ⟨W.heap.size, 0, none⟩ = some (.slice (some ⟨b2, o2, none⟩) k dc) ∧ w'.cell? ⟨b2, o2 + ia * 7, none⟩ = some (.string ⟨A.toArray⟩) ∧ w'.cell? ⟨b2, o2 + ib * 7, none⟩ = some (.string ⟨Bn.toArray⟩) ∧ w'.cell? ⟨N9, 0, none⟩ = some (.int .i64 (ia : Int)) ∧ w'.cell? ⟨N9, 1, none⟩ = some (.int .i64 lp) ∧ w'.cell? ⟨N9, 2, none⟩ = some (.int .i64 (ib : Int)) ∧ w'.cell? ⟨N9, 3, none⟩ = some (.int .i64 lq)) (go_keep) (first | (go_at_call_of 41 (Value.int .i64 lp); refine (I1.out _).mono ?_; rintro e w5 ⟨rfl, rfl⟩) | (go_at_call_of 41 (Value.int .i64 lq); refine (I2.out _).mono ?_; rintro e w5 ⟨rfl, rfl⟩) | (go_at_call 61; refine (bld_write _ _ L _ _ (HBL4.out.below (by first | exact Below.refl _ _ | exact below_drewN _ _)) (by simp; omega) (by first | exact HBW4.out.size | exact HBW4.out.size)).mono ?_; rintro e w6 ⟨rfl, h6, hb6, ho6⟩; have HBL6 := hide h6; have HBW6 := hide (show Below w1.heap.size w4 w6 from (by first | exact hb6 | exact ((Below.refl _ _).drew).trans hb6)); have HRE6 := hide (HRE.out w6 HBW6.out (fun k o h1 h2 h3 => ho6 k o h1 h2 h3)); obtain ⟨n1, na1, nb1, y0, y1, y2, y3⟩ := HRE6.out; clear h6 hb6 ho6))
          have HBW7 := hide (HBW4.out.trans HBW6.out)
          rename_i hheld
          clear hheld n1 na1 nb1 y0 y1 y2 y3 HRE6 HRE HBW6 HBW4 HBL4 I1 I2
          go_wp2_with fail
          go_roundw
          case rel => exact ⟨n + 1, _, by omega, by go_num, by simpa using HL2, HBL6, HBW7⟩
          case measure => simp [intOf]; omega
        case neg =>
          obtain rfl : n = ln := by omega
          have hall : ls.take n = ls := List.take_of_length_le (by omega)
          rw [hall] at HL
          have HFIN := hide (show L = NT by rw [HL.out, HJ.out, HNT.out])
          have HBV := HBW
          have HBS := hide (fun w (h : Bld w w1.heap.size w1.heap.size L) (hz : w1.heap.size ≤ w.heap.size) => bld_string _ _ L w h hz)
          clear HL HJ HNT hall hbF hxR HBW
          go_wp2_with fail
          refine (HBS.out _ HBL.out HBV.out.size).mono ?_
          rintro e w9 ⟨rfl, hb9⟩
          have HBZ := hide (HB1.out.trans ((HBV.out.trans hb9).mono HB1.out.size))
          clear hb9 HBS HBL HBV
          go_wp2
          go_ret2
          exact ⟨by rw [← HFIN.out]; rfl, HBZ.out⟩
end Go.Proofs.YtohbafigjpoijaaDoor
