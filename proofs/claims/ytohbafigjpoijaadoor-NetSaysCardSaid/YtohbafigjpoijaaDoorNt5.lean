/- wireref.NetText. -/
import Derived.Test.YtohbafigjpoijaaDoorNt4
set_option linter.unusedVariables false
set_option linter.unusedSimpArgs false
set_option maxRecDepth 100000
set_option maxHeartbeats 8000000
namespace Go.Proofs.YtohbafigjpoijaaDoor
open Go.RowKit

theorem meas_step (n k : Nat) (h : k < n) : n - (intOf (.int .i64 ((k : Int) + 1))).toNat < n - (intOf (.int .i64 (k : Int))).toNat := by simp [intOf]; omega
theorem refNetText_walk (n : NetV) (W : World) (hn : NetAt W W.heap.size n) (h0 : netE n.devs n.ls = 0) :
    Calls Tryd.prog 30 #[n.val] W fun e W' => e = .returned (.string ⟨(netT n.devs n.ls).toArray⟩) ∧ Below W.heap.size W W' := by
  obtain ⟨i0, hi0, hz0, hz1, hz2⟩ := info_parts Tryd.infoInt
  have HDO := hide (fun (d : DevV) (hd : d ∈ n.ds) => show TxOk d.dev from tx_ok (net_devs_ok h0 d.dev (List.mem_map_of_mem hd)) (named_all n.devs [] (netE_ok h0).de d.dev (List.mem_map_of_mem hd)) (hn.dok d hd).pl)
  have HLO := hide (fun (l : LinkV) (hl : l ∈ n.ls) => link_ok h0 hl)
  have hdl : n.ds.length ≤ 10 := by have := (netE_ok h0).dl; simpa [NetV.devs] using this
  have hll : n.ls.length ≤ 15 := (netE_ok h0).ll
  have HNT := hide (show netT n.devs n.ls = n.ds.flatMap (fun d => devT d.dev) ++ n.ls.flatMap (linkT n.devs) by simp [netT, NetV.devs, List.flatMap_map])
  have HLT := hide (fun (l : LinkV) (hl : l ∈ n.ls) => linkT_len (ds := n.devs) (fun d hd => by
    obtain ⟨x, hx, rfl⟩ := List.mem_map.1 hd
    exact (HDO.out x hx).nm) l (HLO.out l hl).p.2 (HLO.out l hl).q.2)
  have HGT := hide (fun (i : Nat) (d : DevV) (hd : n.ds[i]? = some d) => show nameAt n.devs (i : Int) = d.name.data.toList from nameAt_get (d := d.dev) (by simp [NetV.devs, hd]))
  have HDL := hide (show (n.devs.length : Int) = n.dn by have := hn.dlen; simp [NetV.devs, this])
  generalize n.devs = DV at *
  obtain ⟨NT, hNT⟩ : ∃ l, netT DV n.ls = l := ⟨_, rfl⟩
  rw [hNT] at HNT ⊢
  have hdn := hn.dlen
  have hln := hn.llen
  have HN := hide hn
  obtain ⟨dA, dn, dc, ds, lA, ln, lc, ls⟩ := n
  have hb0 := (Below.refl W.heap.size W).alloc (Nat.le_refl _) (.cells #[.slice dA dn dc, .slice lA ln lc] 53)
  have hx0 := heap_alloc_new W (.cells #[.slice dA dn dc, .slice lA ln lc] 53)
  simp only [NetV.val] at *
  clear h0 hNT hn
  have hdn10 : dn ≤ 10 := by omega
  have hln15 : ln ≤ 15 := by omega
  go_enter Tryd.func30, Tryd.ntmps30
  go_wp2_with fail
  generalize W.alloc (.cells #[.slice dA dn dc, .slice lA ln lc] 53) = w0 at *
  have HB0 := hide hb0
  have HX0 := hide hx0
  clear hb0 hx0
  go_loopw [4, 5] (fun v i wr => ∃ (k : Nat) (J : List UInt8), k ≤ dn ∧ i = .int .i64 (k : Int) ∧ v = .string ⟨J.toArray⟩ ∧ Hid (J = (ds.take k).flatMap (fun d => devT d.dev)) ∧ Hid (Below w0.heap.size w0 wr)) (fun _ i _ => dn - (intOf i).toNat)
  case atStart => exact ⟨0, [], Nat.zero_le _, rfl, rfl, hide (by simp), hide (Below.refl _ _)⟩
  case round =>
    obtain ⟨k, J, hk, rfl, rfl, HJ, HBW⟩ := hrel
    have hJl : J.length ≤ 30000 := by
      have h := flat_len (fun d : DevV => devT d.dev) 3000 (ds.take k) (fun x hx => devT_len (HDO.out x (List.mem_of_mem_take hx)))
      rw [HJ.out]; rw [List.length_take] at h; omega
    have hbW : Below W.heap.size W wr := HB0.out.trans (HBW.out.mono HB0.out.size)
    have hxR := (HBW.out.block W.heap.size (heap_lt HX0.out)).trans HX0.out
    have n0 : wr.cell? ⟨W.heap.size, 0, none⟩ = some (.slice dA dn dc) := by rw [cell_of_row _ _ _ _ _ _ hxR]; rfl
    have n1 : wr.cell? ⟨W.heap.size, 1, none⟩ = some (.slice lA ln lc) := by rw [cell_of_row _ _ _ _ _ _ hxR]; rfl
    by_cases hlt : k < dn
    case pos =>
      obtain ⟨d, hd⟩ : ∃ d, ds[k]? = some d := ⟨_, List.getElem?_eq_getElem (by omega)⟩
      have hds := HN.out.ds
      simp only at hds
      obtain ⟨bb, oo, rfl, hbb, hgg⟩ := hds.2 (by omega)
      have tr : ∀ o v, W.cell? ⟨bb, o, none⟩ = some v → wr.cell? ⟨bb, o, none⟩ = some v := fun o v h => (hbW.cell (p := ⟨bb, o, none⟩) hbb).trans h
      have q0 : wr.cell? ⟨bb, oo + k * 7, none⟩ = some (.string d.name) := tr _ _ (hgg k d hd 0 _ rfl)
      have q1 := tr _ _ (hgg k d hd 1 _ rfl)
      have q2 := tr _ _ (hgg k d hd 2 _ rfl)
      have q3 := tr _ _ (hgg k d hd 3 _ rfl)
      have q4 := tr _ _ (hgg k d hd 4 _ rfl)
      have q5 := tr _ _ (hgg k d hd 5 _ rfl)
      have q6 := tr _ _ (hgg k d hd 6 _ rfl)
      have HDA := hide (HN.out.dok d (List.mem_of_getElem? hd))
      have HTK := hide (flat_take (fun d : DevV => devT d.dev) hd)
      have ho := HDO.out d (List.mem_of_getElem? hd)
      -- what its text is
      have hh := headT_len ho
      have HHD := hide (show headT d.dev = wordK d.kind ++ 32 :: (d.name.data.toList ++ tailT d.dev) from rfl)
      have HTL := hide (show tailT d.dev = (if d.kind = 1 then 32 :: (Lib.decDigits d.addr.toNat ++ [10]) else if d.kind = 4 then 32 :: (Lib.decDigits d.addr.toNat ++ 32 :: (comT (poolL d.pool) ++ [10]))
        else if d.kind = 5 then 32 :: (Lib.decDigits d.addr.toNat ++ 32 :: (comT (d.bs.map Int.toNat) ++ [10])) else [10]) from rfl)
      have HJ2 := hide (show J ++ (headT d.dev ++ (d.rs.flatMap ruleT ++ d.ts.flatMap routeT)) = (ds.take (k + 1)).flatMap (fun d : DevV => devT d.dev) by rw [HTK.out, HJ.out]; rfl)
      have HRL := hide (show d.rs.length ≤ 8 from ho.rl)
      have HTT := hide (show d.ts.length ≤ 8 from ho.tl)
      have HTO := hide (show ∀ r ∈ d.ts, (0 ≤ r.v ∧ r.v < 100) ∧ (0 ≤ r.b ∧ r.b < 100) ∧ (0 ≤ r.p ∧ r.p < 100) from ho.t)
      have HBS := hide (show ∀ x ∈ d.bs, 0 ≤ x ∧ x < 16 from ho.b)
      have HBL := hide (show d.bs.length ≤ 3 from ho.bl)
      have hka : d.kind = 1 ∨ d.kind = 2 ∨ d.kind = 3 ∨ d.kind = 4 ∨ d.kind = 5 := ho.k
      have haa : 0 ≤ d.addr ∧ d.addr < 16 := ho.a
      have hnm : d.name.data.toList.length ≤ 8 := (show d.name.data.toList.length ≤ 8 by have h := ho.nm; have : d.name.data.toList.length = d.name.size := Array.length_toList; have e : d.dev.name = d.name := rfl; rw [e] at h; omega)
      have hwl := wordK_len d.kind
      obtain ⟨HT, hHT⟩ : ∃ l, headT d.dev = l := ⟨_, rfl⟩
      rw [hHT] at HHD hh HJ2
      obtain ⟨TL, hTL⟩ : ∃ l, tailT d.dev = l := ⟨_, rfl⟩
      rw [hTL] at HHD HTL
      clear hHT hTL ho HTK HJ hgg tr hds hd
      obtain ⟨name, kind, addr, pool, bA, bn, bc, bs, rA, rn, rc, rs, tA, tn, tc, ts⟩ := d
      simp only at q0 q1 q2 q3 q4 q5 q6 HHD HTL HJ2 HRL HTT HTO HBS HBL hka haa hnm hwl
      obtain ⟨kk, rfl⟩ : ∃ kk : Nat, kind = kk := ⟨kind.toNat, by omega⟩
      obtain ⟨nm, rfl⟩ : ∃ nm : List UInt8, name = ⟨nm.toArray⟩ := ⟨_, str_list name⟩
      simp only at hnm HHD
      have hrn := HDA.out.rs.1
      have htn := HDA.out.ts.1
      have hpl2 : pool < 256 := HDA.out.pl
      simp only at hrn htn
      have hrn8 : rn ≤ 8 := by have := HRL.out; omega
      have htn8 : tn ≤ 8 := by have := HTT.out; omega
      have hoB := (Below.refl wr.heap.size wr).alloc (Nat.le_refl _) (.cells #[.string ⟨nm.toArray⟩, .int .i64 (kk : Int), .int .i64 addr, .int .u8 pool, .slice bA bn bc, .slice rA rn rc, .slice tA tn tc] 71)
      have hbx := heap_alloc_new wr (.cells #[.string ⟨nm.toArray⟩, .int .i64 (kk : Int), .int .i64 addr, .int .u8 pool, .slice bA bn bc, .slice rA rn rc, .slice tA tn tc] 71)
      have HBW4 := hide (HBW.out.trans (hoB.mono HBW.out.size))
      have HIX : ∀ (w' : World) (N : Nat), w'.heap[N]? = some (.cells #[.string ⟨#[]⟩, .string ⟨#[104, 111, 115, 116]⟩, .string ⟨#[114, 111, 117, 116, 101, 114]⟩, .string ⟨#[102, 105, 114, 101]⟩, .string ⟨#[110, 97, 116]⟩, .string ⟨#[108, 98]⟩] 9) → w'.cell? ⟨N, kk, none⟩ = some (.string ⟨(wordK kk).toArray⟩) := by
        intro w' N h
        rw [cell_of_row _ _ _ _ _ _ h]
        obtain hk5 : kk = 1 ∨ kk = 2 ∨ kk = 3 ∨ kk = 4 ∨ kk = 5 := by omega
        rcases hk5 with rfl | rfl | rfl | rfl | rfl <;> rfl
      clear hoB HBW hbW hxR n1
      have hk6 : (kk : Int) < 6 := by omega
      generalize hWK : wordK (kk : Int) = WK at *
      have s1 : ∀ w', (Op.stringOp .add ⟨List.toArray (WK)⟩ ⟨List.toArray ([32])⟩).run Tryd.prog w' = .ok (.string ⟨List.toArray (WK ++ [32])⟩) w' := fun w' => by
        have := add_run (WK) ([32]) (by (try simp only [List.length_append, List.length_cons, List.length_nil]) <;> omega) (by (try simp only [List.length_append, List.length_cons, List.length_nil]) <;> omega) w'
        simpa using this
      have s2 : ∀ w', (Op.stringOp .add ⟨List.toArray (WK ++ [32])⟩ ⟨List.toArray (nm)⟩).run Tryd.prog w' = .ok (.string ⟨List.toArray (WK ++ 32 :: nm)⟩) w' := fun w' => by
        have := add_run (WK ++ [32]) (nm) (by (try simp only [List.length_append, List.length_cons, List.length_nil]) <;> omega) (by (try simp only [List.length_append, List.length_cons, List.length_nil]) <;> omega) w'
        simpa using this
      have s3 : ∀ w', (Op.stringOp .add ⟨List.toArray (J)⟩ ⟨List.toArray (WK ++ 32 :: nm)⟩).run Tryd.prog w' = .ok (.string ⟨List.toArray (J ++ (WK ++ 32 :: nm))⟩) w' := fun w' => by
        have := add_run (J) (WK ++ 32 :: nm) (by (try simp only [List.length_append, List.length_cons, List.length_nil]) <;> omega) (by (try simp only [List.length_append, List.length_cons, List.length_nil]) <;> omega) w'
        simpa using this
      go_wp2_with fail
      generalize hw4 : wr.alloc (.cells #[.string ⟨nm.toArray⟩, .int .i64 (kk : Int), .int .i64 addr, .int .u8 pool, .slice bA bn bc, .slice rA rn rc, .slice tA tn tc] 71) = w4 at *
      clear hw4 q0 q1 q2 q3 q4 q5 q6 n0
      generalize hN9 : wr.heap.size = N9 at *
      obtain ⟨c0, c1, c2, c3, c4, c5, c6⟩ := cells7f hbx
      have hN9lt := heap_lt hbx
      have h8 := HIX (w4.alloc (.cells #[.string ⟨#[]⟩, .string ⟨#[104, 111, 115, 116]⟩, .string ⟨#[114, 111, 117, 116, 101, 114]⟩, .string ⟨#[102, 105, 114, 101]⟩, .string ⟨#[110, 97, 116]⟩, .string ⟨#[108, 98]⟩] 9)) w4.heap.size (heap_alloc_new w4 _)
      clear HIX
      have hoL := (Below.refl w4.heap.size w4).alloc (Nat.le_refl _) (.cells #[.string ⟨#[]⟩, .string ⟨#[104, 111, 115, 116]⟩, .string ⟨#[114, 111, 117, 116, 101, 114]⟩, .string ⟨#[102, 105, 114, 101]⟩, .string ⟨#[110, 97, 116]⟩, .string ⟨#[108, 98]⟩] 9)
      have hbx5 := (hoL.block N9 hN9lt).trans hbx
      obtain ⟨d0, d1, d2, d3, d4, d5, d6⟩ := cells7f hbx5
      have HX5 := hide hbx5
      have HBW5 := hide (HBW4.out.trans (hoL.mono HBW4.out.size))
      clear hoL hbx hbx5 HBW4 d2 d3 d4 d5 d6 c2 c3 c4 c5 c6
      go_region
      have HX6 := hide (show ((w4.alloc (.cells #[.string ⟨#[]⟩, .string ⟨#[104, 111, 115, 116]⟩, .string ⟨#[114, 111, 117, 116, 101, 114]⟩, .string ⟨#[102, 105, 114, 101]⟩, .string ⟨#[110, 97, 116]⟩, .string ⟨#[108, 98]⟩] 9)).drew).heap[N9]? = some (.cells #[.string ⟨nm.toArray⟩, .int .i64 (kk : Int), .int .i64 addr, .int .u8 pool, .slice bA bn bc, .slice rA rn rc, .slice tA tn tc] 71) from HX5.out)
      have HBW6 := hide (show Below w0.heap.size w0 ((w4.alloc (.cells #[.string ⟨#[]⟩, .string ⟨#[104, 111, 115, 116]⟩, .string ⟨#[114, 111, 117, 116, 101, 114]⟩, .string ⟨#[102, 105, 114, 101]⟩, .string ⟨#[110, 97, 116]⟩, .string ⟨#[108, 98]⟩] 9)).drew) from HBW5.out.drew)
      generalize hw6 : (w4.alloc (.cells #[.string ⟨#[]⟩, .string ⟨#[104, 111, 115, 116]⟩, .string ⟨#[114, 111, 117, 116, 101, 114]⟩, .string ⟨#[102, 105, 114, 101]⟩, .string ⟨#[110, 97, 116]⟩, .string ⟨#[108, 98]⟩] 9)).drew = w6 at *
      clear hw6 HX5 HBW5 d0 d1 c0 c1 h8 hN9lt s1 s2 s3
      generalize w4.heap.size = N8 at *
      obtain ⟨c0, c1, c2, c3, c4, c5, c6⟩ := cells7f HX6.out
      have ha100 : addr.toNat < 100 := by omega
      have HIA := hide (fun w => show Calls Tryd.prog 41 #[.int .i64 addr] w (fun e w' => e = .returned (.string ⟨(Lib.decDigits (addr).toNat).toArray⟩) ∧ w' = w) from by
        have h := Tryd.strconv_Itoa_small (addr).toNat (by have := haa; omega) w
        rw [show (((addr).toNat : Nat) : Int) = addr by have := haa; omega] at h
        exact h)
      have lX := dec_len2 ha100
      obtain ⟨X, hX⟩ : ∃ X, Lib.decDigits addr.toNat = X := ⟨_, rfl⟩
      rw [hX] at HIA lX HTL
      clear hX ha100
      have HIB := hide (fun w => (HIA.out w).mono (fun e w' h => show e = .returned (.string ⟨X.toArray⟩) ∧ w = w' from ⟨h.1, h.2.symm⟩))
      clear hk6
      generalize (kk : Int) = kind at *
      rcases hka with hk | hk | hk | hk | hk
      · -- a host
        have HH := hide (show J ++ HT = J ++ (WK ++ 32 :: (nm ++ 32 :: (X ++ [10]))) by rw [HHD.out, HTL.out, if_pos hk])
        subst hk
        have s4 : ∀ w', (Op.stringOp .add ⟨List.toArray ([32])⟩ ⟨List.toArray (X)⟩).run Tryd.prog w' = .ok (.string ⟨List.toArray (32 :: X)⟩) w' := fun w' => by
          have := add_run ([32]) (X) (by (try simp only [List.length_append, List.length_cons, List.length_nil]) <;> omega) (by (try simp only [List.length_append, List.length_cons, List.length_nil]) <;> omega) w'
          simpa using this
        have s5 : ∀ w', (Op.stringOp .add ⟨List.toArray (J ++ (WK ++ 32 :: nm))⟩ ⟨List.toArray (32 :: X)⟩).run Tryd.prog w' = .ok (.string ⟨List.toArray (J ++ (WK ++ 32 :: (nm ++ 32 :: X)))⟩) w' := fun w' => by
          have := add_run (J ++ (WK ++ 32 :: nm)) (32 :: X) (by (try simp only [List.length_append, List.length_cons, List.length_nil]) <;> omega) (by (try simp only [List.length_append, List.length_cons, List.length_nil]) <;> omega) w'
          simpa using this
        have s6 : ∀ w', (Op.stringOp .add ⟨List.toArray (J ++ (WK ++ 32 :: (nm ++ 32 :: X)))⟩ ⟨List.toArray ([10])⟩).run Tryd.prog w' = .ok (.string ⟨List.toArray (J ++ (WK ++ 32 :: (nm ++ 32 :: (X ++ [10]))))⟩) w' := fun w' => by
          have := add_run (J ++ (WK ++ 32 :: (nm ++ 32 :: X))) ([10]) (by (try simp only [List.length_append, List.length_cons, List.length_nil]) <;> omega) (by (try simp only [List.length_append, List.length_cons, List.length_nil]) <;> omega) w'
          simpa using this
        clear HHD HTL lX
        go_wp2_with (go_at_call 41; refine (HIB.out _).mono ?_; rintro e w5 ⟨rfl, rfl⟩)
        rw [← HH.out]
        clear HH
        have HDW := hide (HB0.out.trans (HBW6.out.mono HB0.out.size))
        go_wp2_with fail
        go_loopw [4, 9] (fun v i wr => ∃ (a : Nat) (R : List UInt8), a ≤ rn ∧ i = .int .i64 (a : Int) ∧ v = .string ⟨R.toArray⟩ ∧ Hid (R = (J ++ HT) ++ (rs.take a).flatMap ruleT) ∧ Hid (Below w6.heap.size w6 wr)) (fun _ i _ => rn - (intOf i).toNat)
        case atStart => exact ⟨0, J ++ HT, Nat.zero_le _, rfl, rfl, hide (by simp), hide (Below.refl _ _)⟩
        case round =>
          obtain ⟨a, R, ha, rfl, rfl, HR, HBI⟩ := hrel
          have hRl0 := flat_len ruleT 299 (rs.take a) (fun x _ => ruleT_len x)
          have hRl : R.length ≤ 40000 := by
            rw [HR.out, List.length_append, List.length_append]
            rw [List.length_take] at hRl0
            omega
          have hbW : Below W.heap.size W wr := HDW.out.trans (HBI.out.mono HDW.out.size)
          obtain ⟨c0, c1, c2, c3, c4, c5, c6⟩ := cells7f ((HBI.out.block N9 (heap_lt HX6.out)).trans HX6.out)
          clear c0 c1 c2 c3 c4
          by_cases hlt2 : a < rn
          case pos =>
            obtain ⟨r, hr⟩ : ∃ r, rs[a]? = some r := ⟨_, List.getElem?_eq_getElem (by omega)⟩
            have hrs := HDA.out.rs
            simp only at hrs
            have hmo : r.m.ok := hrs.okAt hr
            obtain ⟨b3, o3, rfl, hb3, hg3⟩ := hrs.2.2 (by omega)
            obtain ⟨q0, q1, q2, q3, q4⟩ := (hg3 a r hr).below hbW hb3
            clear hg3 hbW hrs
            obtain ⟨pm, m⟩ := r
            simp only at hmo q0 q1 q2 q3 q4
            cases pm
            · have HM := hide (fun w => matchText_walk m hmo w)
              have lM := matchT_len m
              have HRT := hide (show ruleT ⟨false, m⟩ = [100, 101, 110, 121, 32] ++ (matchT m ++ [10]) from rfl)
              have HTK := hide (flat_take ruleT hr)
              obtain ⟨M, hM⟩ : ∃ M, matchT m = M := ⟨_, rfl⟩
              rw [hM] at HM lM HRT
              have HJ3 := hide (show R ++ ([100, 101, 110, 121, 32] ++ (M ++ [10])) = (J ++ HT) ++ (rs.take (a + 1)).flatMap ruleT by rw [HTK.out, HR.out, HRT.out, List.append_assoc])
              obtain ⟨ma, mb, mc, md⟩ := m
              simp only at HM
              clear hM HTK HRT HR hr hmo hRl0
              have a1 : ∀ w', (Op.stringOp .add ⟨List.toArray ([100, 101, 110, 121, 32])⟩ ⟨List.toArray (M)⟩).run Tryd.prog w' = .ok (.string ⟨List.toArray (100 :: 101 :: 110 :: 121 :: 32 :: M)⟩) w' := fun w' => by
                have := add_run ([100, 101, 110, 121, 32]) (M) (by (try simp only [List.length_append, List.length_cons, List.length_nil]) <;> omega) (by (try simp only [List.length_append, List.length_cons, List.length_nil]) <;> omega) w'
                simpa using this
              have a2 : ∀ w', (Op.stringOp .add ⟨List.toArray (100 :: 101 :: 110 :: 121 :: 32 :: M)⟩ ⟨List.toArray ([10])⟩).run Tryd.prog w' = .ok (.string ⟨List.toArray (100 :: 101 :: 110 :: 121 :: 32 :: (M ++ [10]))⟩) w' := fun w' => by
                have := add_run (100 :: 101 :: 110 :: 121 :: 32 :: M) ([10]) (by (try simp only [List.length_append, List.length_cons, List.length_nil]) <;> omega) (by (try simp only [List.length_append, List.length_cons, List.length_nil]) <;> omega) w'
                simpa using this
              have a3 : ∀ w', (Op.stringOp .add ⟨List.toArray (R)⟩ ⟨List.toArray (100 :: 101 :: 110 :: 121 :: 32 :: (M ++ [10]))⟩).run Tryd.prog w' = .ok (.string ⟨List.toArray (R ++ 100 :: 101 :: 110 :: 121 :: 32 :: (M ++ [10]))⟩) w' := fun w' => by
                have := add_run (R) (100 :: 101 :: 110 :: 121 :: 32 :: (M ++ [10])) (by (try simp only [List.length_append, List.length_cons, List.length_nil]) <;> omega) (by (try simp only [List.length_append, List.length_cons, List.length_nil]) <;> omega) w'
                simpa using this
              clear hRl lM
              go_wp2_with fail
              refine (HM.out _).mono ?_
              rintro e w8 ⟨rfl, hb8⟩
              have HB8 := hide (HBI.out.trans (hb8.mono HBI.out.size))
              clear hb8 HBI q0 q1 q2 q3 q4 HM
              go_wp2_with fail
              go_roundw
              case rel => exact ⟨a + 1, _, by omega, by go_num, rfl, by simpa using HJ3, HB8⟩
              case measure => simp [intOf]; omega
            · have HM := hide (fun w => matchText_walk m hmo w)
              have lM := matchT_len m
              have HRT := hide (show ruleT ⟨true, m⟩ = [112, 101, 114, 109, 105, 116, 32] ++ (matchT m ++ [10]) from rfl)
              have HTK := hide (flat_take ruleT hr)
              obtain ⟨M, hM⟩ : ∃ M, matchT m = M := ⟨_, rfl⟩
              rw [hM] at HM lM HRT
              have HJ3 := hide (show R ++ ([112, 101, 114, 109, 105, 116, 32] ++ (M ++ [10])) = (J ++ HT) ++ (rs.take (a + 1)).flatMap ruleT by rw [HTK.out, HR.out, HRT.out, List.append_assoc])
              obtain ⟨ma, mb, mc, md⟩ := m
              simp only at HM
              clear hM HTK HRT HR hr hmo hRl0
              have a1 : ∀ w', (Op.stringOp .add ⟨List.toArray ([112, 101, 114, 109, 105, 116, 32])⟩ ⟨List.toArray (M)⟩).run Tryd.prog w' = .ok (.string ⟨List.toArray (112 :: 101 :: 114 :: 109 :: 105 :: 116 :: 32 :: M)⟩) w' := fun w' => by
                have := add_run ([112, 101, 114, 109, 105, 116, 32]) (M) (by (try simp only [List.length_append, List.length_cons, List.length_nil]) <;> omega) (by (try simp only [List.length_append, List.length_cons, List.length_nil]) <;> omega) w'
                simpa using this
              have a2 : ∀ w', (Op.stringOp .add ⟨List.toArray (112 :: 101 :: 114 :: 109 :: 105 :: 116 :: 32 :: M)⟩ ⟨List.toArray ([10])⟩).run Tryd.prog w' = .ok (.string ⟨List.toArray (112 :: 101 :: 114 :: 109 :: 105 :: 116 :: 32 :: (M ++ [10]))⟩) w' := fun w' => by
                have := add_run (112 :: 101 :: 114 :: 109 :: 105 :: 116 :: 32 :: M) ([10]) (by (try simp only [List.length_append, List.length_cons, List.length_nil]) <;> omega) (by (try simp only [List.length_append, List.length_cons, List.length_nil]) <;> omega) w'
                simpa using this
              have a3 : ∀ w', (Op.stringOp .add ⟨List.toArray (R)⟩ ⟨List.toArray (112 :: 101 :: 114 :: 109 :: 105 :: 116 :: 32 :: (M ++ [10]))⟩).run Tryd.prog w' = .ok (.string ⟨List.toArray (R ++ 112 :: 101 :: 114 :: 109 :: 105 :: 116 :: 32 :: (M ++ [10]))⟩) w' := fun w' => by
                have := add_run (R) (112 :: 101 :: 114 :: 109 :: 105 :: 116 :: 32 :: (M ++ [10])) (by (try simp only [List.length_append, List.length_cons, List.length_nil]) <;> omega) (by (try simp only [List.length_append, List.length_cons, List.length_nil]) <;> omega) w'
                simpa using this
              clear hRl lM
              go_wp2_with fail
              refine (HM.out _).mono ?_
              rintro e w8 ⟨rfl, hb8⟩
              have HB8 := hide (HBI.out.trans (hb8.mono HBI.out.size))
              clear hb8 HBI q0 q1 q2 q3 q4 HM
              go_wp2_with fail
              go_roundw
              case rel => exact ⟨a + 1, _, by omega, by go_num, rfl, by simpa using HJ3, HB8⟩
              case measure => simp [intOf]; omega
          case neg =>
            obtain rfl : a = rn := by omega
            have hall : rs.take a = rs := List.take_of_length_le (by omega)
            rw [hall] at HR
            have HXR := hide ((HBI.out.block N9 (heap_lt HX6.out)).trans HX6.out)
            have HBR := hide hbW
            have HBI1 := HBI
            have hRlf : R.length ≤ 40000 := hRl
            obtain ⟨w7, hw7⟩ : ∃ w, w = wr := ⟨_, rfl⟩
            subst hw7
            clear hRl0 hbW HBI hall c6 hRl
            go_wp2_with fail
            go_loopw [4, 11] (fun v i wf => ∃ (b : Nat) (L : List UInt8), b ≤ tn ∧ i = .int .i64 (b : Int) ∧ v = .string ⟨L.toArray⟩ ∧ Hid (L = R ++ (ts.take b).flatMap routeT) ∧ Hid (Below w7.heap.size w7 wf)) (fun _ i _ => tn - (intOf i).toNat)
            case atStart => exact ⟨0, R, Nat.zero_le _, rfl, rfl, hide (by simp), hide (Below.refl _ _)⟩
            case round =>
              obtain ⟨b, L, hb, rfl, rfl, HL, HBF⟩ := hrel
              have hLl : L.length ≤ 50000 := by
                have h15 := flat_len routeT 15 (ts.take b) (fun x hx => by
                  have := HTO.out x (List.mem_of_mem_take hx)
                  exact routeT_len this.1.2 this.2.1.2 this.2.2.2)
                rw [HL.out, List.length_append]
                rw [List.length_take] at h15
                omega
              have hbF : Below W.heap.size W wr := HBR.out.trans (HBF.out.mono HBR.out.size)
              obtain ⟨c0, c1, c2, c3, c4, c5, c6⟩ := cells7f ((HBF.out.block N9 (heap_lt HXR.out)).trans HXR.out)
              clear c0 c1 c2 c3 c4 c5
              by_cases hlt3 : b < tn
              case pos =>
                obtain ⟨r, hr⟩ : ∃ r, ts[b]? = some r := ⟨_, List.getElem?_eq_getElem (by omega)⟩
                have hts := HDA.out.ts
                simp only at hts
                have hrr := HTO.out r (List.mem_of_getElem? hr)
                obtain ⟨b3, o3, rfl, hb3, hg3⟩ := hts.2 (by omega)
                have q0 : wr.cell? ⟨b3, o3 + b * 3, none⟩ = some (.int .i64 r.v) := (hbF.cell (p := ⟨b3, o3 + b * 3, none⟩) hb3).trans (hg3 b r hr 0 _ rfl)
                have q1 : wr.cell? ⟨b3, o3 + b * 3 + 1, none⟩ = some (.int .i64 r.b) := (hbF.cell (p := ⟨b3, o3 + b * 3 + 1, none⟩) hb3).trans (hg3 b r hr 1 _ rfl)
                have q2 : wr.cell? ⟨b3, o3 + b * 3 + 2, none⟩ = some (.int .i64 r.p) := (hbF.cell (p := ⟨b3, o3 + b * 3 + 2, none⟩) hb3).trans (hg3 b r hr 2 _ rfl)
                clear hg3 hbF hts
                have HRT := hide (show routeT r = [114, 111, 117, 116, 101, 32] ++ (Lib.decDigits r.v.toNat ++ 47 :: (Lib.decDigits r.b.toNat ++ 32 :: (Lib.decDigits r.p.toNat ++ [10]))) from rfl)
                have HTK := hide (flat_take routeT hr)
                obtain ⟨rv, rb, rp⟩ := r
                simp only at q0 q1 q2 hrr HRT
                have I1 := hide (fun w => show Calls Tryd.prog 41 #[.int .i64 rv] w (fun e w' => e = .returned (.string ⟨(Lib.decDigits (rv).toNat).toArray⟩) ∧ w' = w) from by
                  have h := Tryd.strconv_Itoa_small (rv).toNat (by have := hrr.1; omega) w
                  rw [show (((rv).toNat : Nat) : Int) = rv by have := hrr.1; omega] at h
                  exact h)
                have I2 := hide (fun w => show Calls Tryd.prog 41 #[.int .i64 rb] w (fun e w' => e = .returned (.string ⟨(Lib.decDigits (rb).toNat).toArray⟩) ∧ w' = w) from by
                  have h := Tryd.strconv_Itoa_small (rb).toNat (by have := hrr.2.1; omega) w
                  rw [show (((rb).toNat : Nat) : Int) = rb by have := hrr.2.1; omega] at h
                  exact h)
                have I3 := hide (fun w => show Calls Tryd.prog 41 #[.int .i64 rp] w (fun e w' => e = .returned (.string ⟨(Lib.decDigits (rp).toNat).toArray⟩) ∧ w' = w) from by
                  have h := Tryd.strconv_Itoa_small (rp).toNat (by have := hrr.2.2; omega) w
                  rw [show (((rp).toNat : Nat) : Int) = rp by have := hrr.2.2; omega] at h
                  exact h)
                have l1 := dec_len2 (show rv.toNat < 100 by omega)
                have l2 := dec_len2 (show rb.toNat < 100 by omega)
                have l3 := dec_len2 (show rp.toNat < 100 by omega)
                generalize Lib.decDigits rv.toNat = X1 at *
                generalize Lib.decDigits rb.toNat = X2 at *
                generalize Lib.decDigits rp.toNat = X3 at *
                have HL2 := hide (show L ++ ([114, 111, 117, 116, 101, 32] ++ (X1 ++ 47 :: (X2 ++ 32 :: (X3 ++ [10])))) = R ++ (ts.take (b + 1)).flatMap routeT by rw [HTK.out, HL.out, HRT.out, List.append_assoc])
                clear HTK HRT HL hr hrr
                have r1 : ∀ w', (Op.stringOp .add ⟨List.toArray ([114, 111, 117, 116, 101, 32])⟩ ⟨List.toArray (X1)⟩).run Tryd.prog w' = .ok (.string ⟨List.toArray (114 :: 111 :: 117 :: 116 :: 101 :: 32 :: X1)⟩) w' := fun w' => by
                  have := add_run ([114, 111, 117, 116, 101, 32]) (X1) (by (try simp only [List.length_append, List.length_cons, List.length_nil]) <;> omega) (by (try simp only [List.length_append, List.length_cons, List.length_nil]) <;> omega) w'
                  simpa using this
                have r2 : ∀ w', (Op.stringOp .add ⟨List.toArray (114 :: 111 :: 117 :: 116 :: 101 :: 32 :: X1)⟩ ⟨List.toArray ([47])⟩).run Tryd.prog w' = .ok (.string ⟨List.toArray (114 :: 111 :: 117 :: 116 :: 101 :: 32 :: (X1 ++ [47]))⟩) w' := fun w' => by
                  have := add_run (114 :: 111 :: 117 :: 116 :: 101 :: 32 :: X1) ([47]) (by (try simp only [List.length_append, List.length_cons, List.length_nil]) <;> omega) (by (try simp only [List.length_append, List.length_cons, List.length_nil]) <;> omega) w'
                  simpa using this
                have r3 : ∀ w', (Op.stringOp .add ⟨List.toArray (114 :: 111 :: 117 :: 116 :: 101 :: 32 :: (X1 ++ [47]))⟩ ⟨List.toArray (X2)⟩).run Tryd.prog w' = .ok (.string ⟨List.toArray (114 :: 111 :: 117 :: 116 :: 101 :: 32 :: (X1 ++ 47 :: X2))⟩) w' := fun w' => by
                  have := add_run (114 :: 111 :: 117 :: 116 :: 101 :: 32 :: (X1 ++ [47])) (X2) (by (try simp only [List.length_append, List.length_cons, List.length_nil]) <;> omega) (by (try simp only [List.length_append, List.length_cons, List.length_nil]) <;> omega) w'
                  simpa using this
                have r4 : ∀ w', (Op.stringOp .add ⟨List.toArray (114 :: 111 :: 117 :: 116 :: 101 :: 32 :: (X1 ++ 47 :: X2))⟩ ⟨List.toArray ([32])⟩).run Tryd.prog w' = .ok (.string ⟨List.toArray (114 :: 111 :: 117 :: 116 :: 101 :: 32 :: (X1 ++ 47 :: (X2 ++ [32])))⟩) w' := fun w' => by
                  have := add_run (114 :: 111 :: 117 :: 116 :: 101 :: 32 :: (X1 ++ 47 :: X2)) ([32]) (by (try simp only [List.length_append, List.length_cons, List.length_nil]) <;> omega) (by (try simp only [List.length_append, List.length_cons, List.length_nil]) <;> omega) w'
                  simpa using this
                have r5 : ∀ w', (Op.stringOp .add ⟨List.toArray (114 :: 111 :: 117 :: 116 :: 101 :: 32 :: (X1 ++ 47 :: (X2 ++ [32])))⟩ ⟨List.toArray (X3)⟩).run Tryd.prog w' = .ok (.string ⟨List.toArray (114 :: 111 :: 117 :: 116 :: 101 :: 32 :: (X1 ++ 47 :: (X2 ++ 32 :: X3)))⟩) w' := fun w' => by
                  have := add_run (114 :: 111 :: 117 :: 116 :: 101 :: 32 :: (X1 ++ 47 :: (X2 ++ [32]))) (X3) (by (try simp only [List.length_append, List.length_cons, List.length_nil]) <;> omega) (by (try simp only [List.length_append, List.length_cons, List.length_nil]) <;> omega) w'
                  simpa using this
                have r6 : ∀ w', (Op.stringOp .add ⟨List.toArray (114 :: 111 :: 117 :: 116 :: 101 :: 32 :: (X1 ++ 47 :: (X2 ++ 32 :: X3)))⟩ ⟨List.toArray ([10])⟩).run Tryd.prog w' = .ok (.string ⟨List.toArray (114 :: 111 :: 117 :: 116 :: 101 :: 32 :: (X1 ++ 47 :: (X2 ++ 32 :: (X3 ++ [10]))))⟩) w' := fun w' => by
                  have := add_run (114 :: 111 :: 117 :: 116 :: 101 :: 32 :: (X1 ++ 47 :: (X2 ++ 32 :: X3))) ([10]) (by (try simp only [List.length_append, List.length_cons, List.length_nil]) <;> omega) (by (try simp only [List.length_append, List.length_cons, List.length_nil]) <;> omega) w'
                  simpa using this
                have r7 : ∀ w', (Op.stringOp .add ⟨List.toArray (L)⟩ ⟨List.toArray (114 :: 111 :: 117 :: 116 :: 101 :: 32 :: (X1 ++ 47 :: (X2 ++ 32 :: (X3 ++ [10]))))⟩).run Tryd.prog w' = .ok (.string ⟨List.toArray (L ++ 114 :: 111 :: 117 :: 116 :: 101 :: 32 :: (X1 ++ 47 :: (X2 ++ 32 :: (X3 ++ [10]))))⟩) w' := fun w' => by
                  have := add_run (L) (114 :: 111 :: 117 :: 116 :: 101 :: 32 :: (X1 ++ 47 :: (X2 ++ 32 :: (X3 ++ [10])))) (by (try simp only [List.length_append, List.length_cons, List.length_nil]) <;> omega) (by (try simp only [List.length_append, List.length_cons, List.length_nil]) <;> omega) w'
                  simpa using this
                have hwz := HBF.out.size
                have HB4 := hide (HBF.out.alloc hwz (.cells #[.int .i64 rv, .int .i64 rb, .int .i64 rp] 107))
                obtain ⟨y0, y1, y2⟩ := cells3f (heap_alloc_new wr (.cells #[.int .i64 rv, .int .i64 rb, .int .i64 rp] 107))
                clear HBF hLl l1 l2 l3
                go_wp2_with fail
                generalize wr.alloc (.cells #[.int .i64 rv, .int .i64 rb, .int .i64 rp] 107) = w4' at *
                go_quiet (first | (go_at_call_of 41 (Value.int .i64 rv); exact Calls.quiet_of_same (I1.out _)) | (go_at_call_of 41 (Value.int .i64 rb); exact Calls.quiet_of_same (I2.out _)) | (go_at_call_of 41 (Value.int .i64 rp); exact Calls.quiet_of_same (I3.out _)))
                have HB5 := hide (HB4.out.trans ((below_drewN w4' nq).mono HB4.out.size))
                go_wp2_with fail
                go_roundw
                case rel => exact ⟨b + 1, _, by omega, by go_num, rfl, by simpa using HL2, HB5⟩
                case measure => simp [intOf]; omega
              case neg =>
                obtain rfl : b = tn := by omega
                have hall : ts.take b = ts := List.take_of_length_le (by omega)
                rw [hall] at HL
                have HFIN := hide (show L = (ds.take (k + 1)).flatMap (fun d : DevV => devT d.dev) by rw [← HJ2.out, HL.out, HR.out]; simp)
                have HBZ := hide (HBW6.out.trans ((HBI1.out.trans (HBF.out.mono HBI1.out.size)).mono HBW6.out.size))
                clear HL HR HBF hall HJ2 hbF hLl
                go_wp2_with fail
                go_roundw
                case rel => exact ⟨k + 1, L, hlt, by go_num, rfl, HFIN, HBZ⟩
                case measure => exact meas_step dn k hlt
      · -- a router
        have HH := hide (show J ++ HT = J ++ (WK ++ 32 :: (nm ++ [10])) by rw [HHD.out, HTL.out, if_neg (by omega), if_neg (by omega), if_neg (by omega)])
        subst hk
        have s6 : ∀ w', (Op.stringOp .add ⟨List.toArray (J ++ (WK ++ 32 :: nm))⟩ ⟨List.toArray ([10])⟩).run Tryd.prog w' = .ok (.string ⟨List.toArray (J ++ (WK ++ 32 :: (nm ++ [10])))⟩) w' := fun w' => by
          have := add_run (J ++ (WK ++ 32 :: nm)) ([10]) (by (try simp only [List.length_append, List.length_cons, List.length_nil]) <;> omega) (by (try simp only [List.length_append, List.length_cons, List.length_nil]) <;> omega) w'
          simpa using this
        clear HHD HTL lX
        go_wp2_with fail
        rw [← HH.out]
        clear HH
        have HDW := hide (HB0.out.trans (HBW6.out.mono HB0.out.size))
        go_wp2_with fail
        go_loopw [4, 9] (fun v i wr => ∃ (a : Nat) (R : List UInt8), a ≤ rn ∧ i = .int .i64 (a : Int) ∧ v = .string ⟨R.toArray⟩ ∧ Hid (R = (J ++ HT) ++ (rs.take a).flatMap ruleT) ∧ Hid (Below w6.heap.size w6 wr)) (fun _ i _ => rn - (intOf i).toNat)
        case atStart => exact ⟨0, J ++ HT, Nat.zero_le _, rfl, rfl, hide (by simp), hide (Below.refl _ _)⟩
        case round =>
          obtain ⟨a, R, ha, rfl, rfl, HR, HBI⟩ := hrel
          have hRl0 := flat_len ruleT 299 (rs.take a) (fun x _ => ruleT_len x)
          have hRl : R.length ≤ 40000 := by
            rw [HR.out, List.length_append, List.length_append]
            rw [List.length_take] at hRl0
            omega
          have hbW : Below W.heap.size W wr := HDW.out.trans (HBI.out.mono HDW.out.size)
          obtain ⟨c0, c1, c2, c3, c4, c5, c6⟩ := cells7f ((HBI.out.block N9 (heap_lt HX6.out)).trans HX6.out)
          clear c0 c1 c2 c3 c4
          by_cases hlt2 : a < rn
          case pos =>
            obtain ⟨r, hr⟩ : ∃ r, rs[a]? = some r := ⟨_, List.getElem?_eq_getElem (by omega)⟩
            have hrs := HDA.out.rs
            simp only at hrs
            have hmo : r.m.ok := hrs.okAt hr
            obtain ⟨b3, o3, rfl, hb3, hg3⟩ := hrs.2.2 (by omega)
            obtain ⟨q0, q1, q2, q3, q4⟩ := (hg3 a r hr).below hbW hb3
            clear hg3 hbW hrs
            obtain ⟨pm, m⟩ := r
            simp only at hmo q0 q1 q2 q3 q4
            cases pm
            · have HM := hide (fun w => matchText_walk m hmo w)
              have lM := matchT_len m
              have HRT := hide (show ruleT ⟨false, m⟩ = [100, 101, 110, 121, 32] ++ (matchT m ++ [10]) from rfl)
              have HTK := hide (flat_take ruleT hr)
              obtain ⟨M, hM⟩ : ∃ M, matchT m = M := ⟨_, rfl⟩
              rw [hM] at HM lM HRT
              have HJ3 := hide (show R ++ ([100, 101, 110, 121, 32] ++ (M ++ [10])) = (J ++ HT) ++ (rs.take (a + 1)).flatMap ruleT by rw [HTK.out, HR.out, HRT.out, List.append_assoc])
              obtain ⟨ma, mb, mc, md⟩ := m
              simp only at HM
              clear hM HTK HRT HR hr hmo hRl0
              have a1 : ∀ w', (Op.stringOp .add ⟨List.toArray ([100, 101, 110, 121, 32])⟩ ⟨List.toArray (M)⟩).run Tryd.prog w' = .ok (.string ⟨List.toArray (100 :: 101 :: 110 :: 121 :: 32 :: M)⟩) w' := fun w' => by
                have := add_run ([100, 101, 110, 121, 32]) (M) (by (try simp only [List.length_append, List.length_cons, List.length_nil]) <;> omega) (by (try simp only [List.length_append, List.length_cons, List.length_nil]) <;> omega) w'
                simpa using this
              have a2 : ∀ w', (Op.stringOp .add ⟨List.toArray (100 :: 101 :: 110 :: 121 :: 32 :: M)⟩ ⟨List.toArray ([10])⟩).run Tryd.prog w' = .ok (.string ⟨List.toArray (100 :: 101 :: 110 :: 121 :: 32 :: (M ++ [10]))⟩) w' := fun w' => by
                have := add_run (100 :: 101 :: 110 :: 121 :: 32 :: M) ([10]) (by (try simp only [List.length_append, List.length_cons, List.length_nil]) <;> omega) (by (try simp only [List.length_append, List.length_cons, List.length_nil]) <;> omega) w'
                simpa using this
              have a3 : ∀ w', (Op.stringOp .add ⟨List.toArray (R)⟩ ⟨List.toArray (100 :: 101 :: 110 :: 121 :: 32 :: (M ++ [10]))⟩).run Tryd.prog w' = .ok (.string ⟨List.toArray (R ++ 100 :: 101 :: 110 :: 121 :: 32 :: (M ++ [10]))⟩) w' := fun w' => by
                have := add_run (R) (100 :: 101 :: 110 :: 121 :: 32 :: (M ++ [10])) (by (try simp only [List.length_append, List.length_cons, List.length_nil]) <;> omega) (by (try simp only [List.length_append, List.length_cons, List.length_nil]) <;> omega) w'
                simpa using this
              clear hRl lM
              go_wp2_with fail
              refine (HM.out _).mono ?_
              rintro e w8 ⟨rfl, hb8⟩
              have HB8 := hide (HBI.out.trans (hb8.mono HBI.out.size))
              clear hb8 HBI q0 q1 q2 q3 q4 HM
              go_wp2_with fail
              go_roundw
              case rel => exact ⟨a + 1, _, by omega, by go_num, rfl, by simpa using HJ3, HB8⟩
              case measure => simp [intOf]; omega
            · have HM := hide (fun w => matchText_walk m hmo w)
              have lM := matchT_len m
              have HRT := hide (show ruleT ⟨true, m⟩ = [112, 101, 114, 109, 105, 116, 32] ++ (matchT m ++ [10]) from rfl)
              have HTK := hide (flat_take ruleT hr)
              obtain ⟨M, hM⟩ : ∃ M, matchT m = M := ⟨_, rfl⟩
              rw [hM] at HM lM HRT
              have HJ3 := hide (show R ++ ([112, 101, 114, 109, 105, 116, 32] ++ (M ++ [10])) = (J ++ HT) ++ (rs.take (a + 1)).flatMap ruleT by rw [HTK.out, HR.out, HRT.out, List.append_assoc])
              obtain ⟨ma, mb, mc, md⟩ := m
              simp only at HM
              clear hM HTK HRT HR hr hmo hRl0
              have a1 : ∀ w', (Op.stringOp .add ⟨List.toArray ([112, 101, 114, 109, 105, 116, 32])⟩ ⟨List.toArray (M)⟩).run Tryd.prog w' = .ok (.string ⟨List.toArray (112 :: 101 :: 114 :: 109 :: 105 :: 116 :: 32 :: M)⟩) w' := fun w' => by
                have := add_run ([112, 101, 114, 109, 105, 116, 32]) (M) (by (try simp only [List.length_append, List.length_cons, List.length_nil]) <;> omega) (by (try simp only [List.length_append, List.length_cons, List.length_nil]) <;> omega) w'
                simpa using this
              have a2 : ∀ w', (Op.stringOp .add ⟨List.toArray (112 :: 101 :: 114 :: 109 :: 105 :: 116 :: 32 :: M)⟩ ⟨List.toArray ([10])⟩).run Tryd.prog w' = .ok (.string ⟨List.toArray (112 :: 101 :: 114 :: 109 :: 105 :: 116 :: 32 :: (M ++ [10]))⟩) w' := fun w' => by
                have := add_run (112 :: 101 :: 114 :: 109 :: 105 :: 116 :: 32 :: M) ([10]) (by (try simp only [List.length_append, List.length_cons, List.length_nil]) <;> omega) (by (try simp only [List.length_append, List.length_cons, List.length_nil]) <;> omega) w'
                simpa using this
              have a3 : ∀ w', (Op.stringOp .add ⟨List.toArray (R)⟩ ⟨List.toArray (112 :: 101 :: 114 :: 109 :: 105 :: 116 :: 32 :: (M ++ [10]))⟩).run Tryd.prog w' = .ok (.string ⟨List.toArray (R ++ 112 :: 101 :: 114 :: 109 :: 105 :: 116 :: 32 :: (M ++ [10]))⟩) w' := fun w' => by
                have := add_run (R) (112 :: 101 :: 114 :: 109 :: 105 :: 116 :: 32 :: (M ++ [10])) (by (try simp only [List.length_append, List.length_cons, List.length_nil]) <;> omega) (by (try simp only [List.length_append, List.length_cons, List.length_nil]) <;> omega) w'
                simpa using this
              clear hRl lM
              go_wp2_with fail
              refine (HM.out _).mono ?_
              rintro e w8 ⟨rfl, hb8⟩
              have HB8 := hide (HBI.out.trans (hb8.mono HBI.out.size))
              clear hb8 HBI q0 q1 q2 q3 q4 HM
              go_wp2_with fail
              go_roundw
              case rel => exact ⟨a + 1, _, by omega, by go_num, rfl, by simpa using HJ3, HB8⟩
              case measure => simp [intOf]; omega
          case neg =>
            obtain rfl : a = rn := by omega
            have hall : rs.take a = rs := List.take_of_length_le (by omega)
            rw [hall] at HR
            have HXR := hide ((HBI.out.block N9 (heap_lt HX6.out)).trans HX6.out)
            have HBR := hide hbW
            have HBI1 := HBI
            have hRlf : R.length ≤ 40000 := hRl
            obtain ⟨w7, hw7⟩ : ∃ w, w = wr := ⟨_, rfl⟩
            subst hw7
            clear hRl0 hbW HBI hall c6 hRl
            go_wp2_with fail
            go_loopw [4, 11] (fun v i wf => ∃ (b : Nat) (L : List UInt8), b ≤ tn ∧ i = .int .i64 (b : Int) ∧ v = .string ⟨L.toArray⟩ ∧ Hid (L = R ++ (ts.take b).flatMap routeT) ∧ Hid (Below w7.heap.size w7 wf)) (fun _ i _ => tn - (intOf i).toNat)
            case atStart => exact ⟨0, R, Nat.zero_le _, rfl, rfl, hide (by simp), hide (Below.refl _ _)⟩
            case round =>
              obtain ⟨b, L, hb, rfl, rfl, HL, HBF⟩ := hrel
              have hLl : L.length ≤ 50000 := by
                have h15 := flat_len routeT 15 (ts.take b) (fun x hx => by
                  have := HTO.out x (List.mem_of_mem_take hx)
                  exact routeT_len this.1.2 this.2.1.2 this.2.2.2)
                rw [HL.out, List.length_append]
                rw [List.length_take] at h15
                omega
              have hbF : Below W.heap.size W wr := HBR.out.trans (HBF.out.mono HBR.out.size)
              obtain ⟨c0, c1, c2, c3, c4, c5, c6⟩ := cells7f ((HBF.out.block N9 (heap_lt HXR.out)).trans HXR.out)
              clear c0 c1 c2 c3 c4 c5
              by_cases hlt3 : b < tn
              case pos =>
                obtain ⟨r, hr⟩ : ∃ r, ts[b]? = some r := ⟨_, List.getElem?_eq_getElem (by omega)⟩
                have hts := HDA.out.ts
                simp only at hts
                have hrr := HTO.out r (List.mem_of_getElem? hr)
                obtain ⟨b3, o3, rfl, hb3, hg3⟩ := hts.2 (by omega)
                have q0 : wr.cell? ⟨b3, o3 + b * 3, none⟩ = some (.int .i64 r.v) := (hbF.cell (p := ⟨b3, o3 + b * 3, none⟩) hb3).trans (hg3 b r hr 0 _ rfl)
                have q1 : wr.cell? ⟨b3, o3 + b * 3 + 1, none⟩ = some (.int .i64 r.b) := (hbF.cell (p := ⟨b3, o3 + b * 3 + 1, none⟩) hb3).trans (hg3 b r hr 1 _ rfl)
                have q2 : wr.cell? ⟨b3, o3 + b * 3 + 2, none⟩ = some (.int .i64 r.p) := (hbF.cell (p := ⟨b3, o3 + b * 3 + 2, none⟩) hb3).trans (hg3 b r hr 2 _ rfl)
                clear hg3 hbF hts
                have HRT := hide (show routeT r = [114, 111, 117, 116, 101, 32] ++ (Lib.decDigits r.v.toNat ++ 47 :: (Lib.decDigits r.b.toNat ++ 32 :: (Lib.decDigits r.p.toNat ++ [10]))) from rfl)
                have HTK := hide (flat_take routeT hr)
                obtain ⟨rv, rb, rp⟩ := r
                simp only at q0 q1 q2 hrr HRT
                have I1 := hide (fun w => show Calls Tryd.prog 41 #[.int .i64 rv] w (fun e w' => e = .returned (.string ⟨(Lib.decDigits (rv).toNat).toArray⟩) ∧ w' = w) from by
                  have h := Tryd.strconv_Itoa_small (rv).toNat (by have := hrr.1; omega) w
                  rw [show (((rv).toNat : Nat) : Int) = rv by have := hrr.1; omega] at h
                  exact h)
                have I2 := hide (fun w => show Calls Tryd.prog 41 #[.int .i64 rb] w (fun e w' => e = .returned (.string ⟨(Lib.decDigits (rb).toNat).toArray⟩) ∧ w' = w) from by
                  have h := Tryd.strconv_Itoa_small (rb).toNat (by have := hrr.2.1; omega) w
                  rw [show (((rb).toNat : Nat) : Int) = rb by have := hrr.2.1; omega] at h
                  exact h)
                have I3 := hide (fun w => show Calls Tryd.prog 41 #[.int .i64 rp] w (fun e w' => e = .returned (.string ⟨(Lib.decDigits (rp).toNat).toArray⟩) ∧ w' = w) from by
                  have h := Tryd.strconv_Itoa_small (rp).toNat (by have := hrr.2.2; omega) w
                  rw [show (((rp).toNat : Nat) : Int) = rp by have := hrr.2.2; omega] at h
                  exact h)
                have l1 := dec_len2 (show rv.toNat < 100 by omega)
                have l2 := dec_len2 (show rb.toNat < 100 by omega)
                have l3 := dec_len2 (show rp.toNat < 100 by omega)
                generalize Lib.decDigits rv.toNat = X1 at *
                generalize Lib.decDigits rb.toNat = X2 at *
                generalize Lib.decDigits rp.toNat = X3 at *
                have HL2 := hide (show L ++ ([114, 111, 117, 116, 101, 32] ++ (X1 ++ 47 :: (X2 ++ 32 :: (X3 ++ [10])))) = R ++ (ts.take (b + 1)).flatMap routeT by rw [HTK.out, HL.out, HRT.out, List.append_assoc])
                clear HTK HRT HL hr hrr
                have r1 : ∀ w', (Op.stringOp .add ⟨List.toArray ([114, 111, 117, 116, 101, 32])⟩ ⟨List.toArray (X1)⟩).run Tryd.prog w' = .ok (.string ⟨List.toArray (114 :: 111 :: 117 :: 116 :: 101 :: 32 :: X1)⟩) w' := fun w' => by
                  have := add_run ([114, 111, 117, 116, 101, 32]) (X1) (by (try simp only [List.length_append, List.length_cons, List.length_nil]) <;> omega) (by (try simp only [List.length_append, List.length_cons, List.length_nil]) <;> omega) w'
                  simpa using this
                have r2 : ∀ w', (Op.stringOp .add ⟨List.toArray (114 :: 111 :: 117 :: 116 :: 101 :: 32 :: X1)⟩ ⟨List.toArray ([47])⟩).run Tryd.prog w' = .ok (.string ⟨List.toArray (114 :: 111 :: 117 :: 116 :: 101 :: 32 :: (X1 ++ [47]))⟩) w' := fun w' => by
                  have := add_run (114 :: 111 :: 117 :: 116 :: 101 :: 32 :: X1) ([47]) (by (try simp only [List.length_append, List.length_cons, List.length_nil]) <;> omega) (by (try simp only [List.length_append, List.length_cons, List.length_nil]) <;> omega) w'
                  simpa using this
                have r3 : ∀ w', (Op.stringOp .add ⟨List.toArray (114 :: 111 :: 117 :: 116 :: 101 :: 32 :: (X1 ++ [47]))⟩ ⟨List.toArray (X2)⟩).run Tryd.prog w' = .ok (.string ⟨List.toArray (114 :: 111 :: 117 :: 116 :: 101 :: 32 :: (X1 ++ 47 :: X2))⟩) w' := fun w' => by
                  have := add_run (114 :: 111 :: 117 :: 116 :: 101 :: 32 :: (X1 ++ [47])) (X2) (by (try simp only [List.length_append, List.length_cons, List.length_nil]) <;> omega) (by (try simp only [List.length_append, List.length_cons, List.length_nil]) <;> omega) w'
                  simpa using this
                have r4 : ∀ w', (Op.stringOp .add ⟨List.toArray (114 :: 111 :: 117 :: 116 :: 101 :: 32 :: (X1 ++ 47 :: X2))⟩ ⟨List.toArray ([32])⟩).run Tryd.prog w' = .ok (.string ⟨List.toArray (114 :: 111 :: 117 :: 116 :: 101 :: 32 :: (X1 ++ 47 :: (X2 ++ [32])))⟩) w' := fun w' => by
                  have := add_run (114 :: 111 :: 117 :: 116 :: 101 :: 32 :: (X1 ++ 47 :: X2)) ([32]) (by (try simp only [List.length_append, List.length_cons, List.length_nil]) <;> omega) (by (try simp only [List.length_append, List.length_cons, List.length_nil]) <;> omega) w'
                  simpa using this
                have r5 : ∀ w', (Op.stringOp .add ⟨List.toArray (114 :: 111 :: 117 :: 116 :: 101 :: 32 :: (X1 ++ 47 :: (X2 ++ [32])))⟩ ⟨List.toArray (X3)⟩).run Tryd.prog w' = .ok (.string ⟨List.toArray (114 :: 111 :: 117 :: 116 :: 101 :: 32 :: (X1 ++ 47 :: (X2 ++ 32 :: X3)))⟩) w' := fun w' => by
                  have := add_run (114 :: 111 :: 117 :: 116 :: 101 :: 32 :: (X1 ++ 47 :: (X2 ++ [32]))) (X3) (by (try simp only [List.length_append, List.length_cons, List.length_nil]) <;> omega) (by (try simp only [List.length_append, List.length_cons, List.length_nil]) <;> omega) w'
                  simpa using this
                have r6 : ∀ w', (Op.stringOp .add ⟨List.toArray (114 :: 111 :: 117 :: 116 :: 101 :: 32 :: (X1 ++ 47 :: (X2 ++ 32 :: X3)))⟩ ⟨List.toArray ([10])⟩).run Tryd.prog w' = .ok (.string ⟨List.toArray (114 :: 111 :: 117 :: 116 :: 101 :: 32 :: (X1 ++ 47 :: (X2 ++ 32 :: (X3 ++ [10]))))⟩) w' := fun w' => by
                  have := add_run (114 :: 111 :: 117 :: 116 :: 101 :: 32 :: (X1 ++ 47 :: (X2 ++ 32 :: X3))) ([10]) (by (try simp only [List.length_append, List.length_cons, List.length_nil]) <;> omega) (by (try simp only [List.length_append, List.length_cons, List.length_nil]) <;> omega) w'
                  simpa using this
                have r7 : ∀ w', (Op.stringOp .add ⟨List.toArray (L)⟩ ⟨List.toArray (114 :: 111 :: 117 :: 116 :: 101 :: 32 :: (X1 ++ 47 :: (X2 ++ 32 :: (X3 ++ [10]))))⟩).run Tryd.prog w' = .ok (.string ⟨List.toArray (L ++ 114 :: 111 :: 117 :: 116 :: 101 :: 32 :: (X1 ++ 47 :: (X2 ++ 32 :: (X3 ++ [10]))))⟩) w' := fun w' => by
                  have := add_run (L) (114 :: 111 :: 117 :: 116 :: 101 :: 32 :: (X1 ++ 47 :: (X2 ++ 32 :: (X3 ++ [10])))) (by (try simp only [List.length_append, List.length_cons, List.length_nil]) <;> omega) (by (try simp only [List.length_append, List.length_cons, List.length_nil]) <;> omega) w'
                  simpa using this
                have hwz := HBF.out.size
                have HB4 := hide (HBF.out.alloc hwz (.cells #[.int .i64 rv, .int .i64 rb, .int .i64 rp] 107))
                obtain ⟨y0, y1, y2⟩ := cells3f (heap_alloc_new wr (.cells #[.int .i64 rv, .int .i64 rb, .int .i64 rp] 107))
                clear HBF hLl l1 l2 l3
                go_wp2_with fail
                generalize wr.alloc (.cells #[.int .i64 rv, .int .i64 rb, .int .i64 rp] 107) = w4' at *
                go_quiet (first | (go_at_call_of 41 (Value.int .i64 rv); exact Calls.quiet_of_same (I1.out _)) | (go_at_call_of 41 (Value.int .i64 rb); exact Calls.quiet_of_same (I2.out _)) | (go_at_call_of 41 (Value.int .i64 rp); exact Calls.quiet_of_same (I3.out _)))
                have HB5 := hide (HB4.out.trans ((below_drewN w4' nq).mono HB4.out.size))
                go_wp2_with fail
                go_roundw
                case rel => exact ⟨b + 1, _, by omega, by go_num, rfl, by simpa using HL2, HB5⟩
                case measure => simp [intOf]; omega
              case neg =>
                obtain rfl : b = tn := by omega
                have hall : ts.take b = ts := List.take_of_length_le (by omega)
                rw [hall] at HL
                have HFIN := hide (show L = (ds.take (k + 1)).flatMap (fun d : DevV => devT d.dev) by rw [← HJ2.out, HL.out, HR.out]; simp)
                have HBZ := hide (HBW6.out.trans ((HBI1.out.trans (HBF.out.mono HBI1.out.size)).mono HBW6.out.size))
                clear HL HR HBF hall HJ2 hbF hLl
                go_wp2_with fail
                go_roundw
                case rel => exact ⟨k + 1, L, hlt, by go_num, rfl, HFIN, HBZ⟩
                case measure => exact meas_step dn k hlt
      · -- a firewall
        have HH := hide (show J ++ HT = J ++ (WK ++ 32 :: (nm ++ [10])) by rw [HHD.out, HTL.out, if_neg (by omega), if_neg (by omega), if_neg (by omega)])
        subst hk
        have s6 : ∀ w', (Op.stringOp .add ⟨List.toArray (J ++ (WK ++ 32 :: nm))⟩ ⟨List.toArray ([10])⟩).run Tryd.prog w' = .ok (.string ⟨List.toArray (J ++ (WK ++ 32 :: (nm ++ [10])))⟩) w' := fun w' => by
          have := add_run (J ++ (WK ++ 32 :: nm)) ([10]) (by (try simp only [List.length_append, List.length_cons, List.length_nil]) <;> omega) (by (try simp only [List.length_append, List.length_cons, List.length_nil]) <;> omega) w'
          simpa using this
        clear HHD HTL lX
        go_wp2_with fail
        rw [← HH.out]
        clear HH
        have HDW := hide (HB0.out.trans (HBW6.out.mono HB0.out.size))
        go_wp2_with fail
        go_loopw [4, 9] (fun v i wr => ∃ (a : Nat) (R : List UInt8), a ≤ rn ∧ i = .int .i64 (a : Int) ∧ v = .string ⟨R.toArray⟩ ∧ Hid (R = (J ++ HT) ++ (rs.take a).flatMap ruleT) ∧ Hid (Below w6.heap.size w6 wr)) (fun _ i _ => rn - (intOf i).toNat)
        case atStart => exact ⟨0, J ++ HT, Nat.zero_le _, rfl, rfl, hide (by simp), hide (Below.refl _ _)⟩
        case round =>
          obtain ⟨a, R, ha, rfl, rfl, HR, HBI⟩ := hrel
          have hRl0 := flat_len ruleT 299 (rs.take a) (fun x _ => ruleT_len x)
          have hRl : R.length ≤ 40000 := by
            rw [HR.out, List.length_append, List.length_append]
            rw [List.length_take] at hRl0
            omega
          have hbW : Below W.heap.size W wr := HDW.out.trans (HBI.out.mono HDW.out.size)
          obtain ⟨c0, c1, c2, c3, c4, c5, c6⟩ := cells7f ((HBI.out.block N9 (heap_lt HX6.out)).trans HX6.out)
          clear c0 c1 c2 c3 c4
          by_cases hlt2 : a < rn
          case pos =>
            obtain ⟨r, hr⟩ : ∃ r, rs[a]? = some r := ⟨_, List.getElem?_eq_getElem (by omega)⟩
            have hrs := HDA.out.rs
            simp only at hrs
            have hmo : r.m.ok := hrs.okAt hr
            obtain ⟨b3, o3, rfl, hb3, hg3⟩ := hrs.2.2 (by omega)
            obtain ⟨q0, q1, q2, q3, q4⟩ := (hg3 a r hr).below hbW hb3
            clear hg3 hbW hrs
            obtain ⟨pm, m⟩ := r
            simp only at hmo q0 q1 q2 q3 q4
            cases pm
            · have HM := hide (fun w => matchText_walk m hmo w)
              have lM := matchT_len m
              have HRT := hide (show ruleT ⟨false, m⟩ = [100, 101, 110, 121, 32] ++ (matchT m ++ [10]) from rfl)
              have HTK := hide (flat_take ruleT hr)
              obtain ⟨M, hM⟩ : ∃ M, matchT m = M := ⟨_, rfl⟩
              rw [hM] at HM lM HRT
              have HJ3 := hide (show R ++ ([100, 101, 110, 121, 32] ++ (M ++ [10])) = (J ++ HT) ++ (rs.take (a + 1)).flatMap ruleT by rw [HTK.out, HR.out, HRT.out, List.append_assoc])
              obtain ⟨ma, mb, mc, md⟩ := m
              simp only at HM
              clear hM HTK HRT HR hr hmo hRl0
              have a1 : ∀ w', (Op.stringOp .add ⟨List.toArray ([100, 101, 110, 121, 32])⟩ ⟨List.toArray (M)⟩).run Tryd.prog w' = .ok (.string ⟨List.toArray (100 :: 101 :: 110 :: 121 :: 32 :: M)⟩) w' := fun w' => by
                have := add_run ([100, 101, 110, 121, 32]) (M) (by (try simp only [List.length_append, List.length_cons, List.length_nil]) <;> omega) (by (try simp only [List.length_append, List.length_cons, List.length_nil]) <;> omega) w'
                simpa using this
              have a2 : ∀ w', (Op.stringOp .add ⟨List.toArray (100 :: 101 :: 110 :: 121 :: 32 :: M)⟩ ⟨List.toArray ([10])⟩).run Tryd.prog w' = .ok (.string ⟨List.toArray (100 :: 101 :: 110 :: 121 :: 32 :: (M ++ [10]))⟩) w' := fun w' => by
                have := add_run (100 :: 101 :: 110 :: 121 :: 32 :: M) ([10]) (by (try simp only [List.length_append, List.length_cons, List.length_nil]) <;> omega) (by (try simp only [List.length_append, List.length_cons, List.length_nil]) <;> omega) w'
                simpa using this
              have a3 : ∀ w', (Op.stringOp .add ⟨List.toArray (R)⟩ ⟨List.toArray (100 :: 101 :: 110 :: 121 :: 32 :: (M ++ [10]))⟩).run Tryd.prog w' = .ok (.string ⟨List.toArray (R ++ 100 :: 101 :: 110 :: 121 :: 32 :: (M ++ [10]))⟩) w' := fun w' => by
                have := add_run (R) (100 :: 101 :: 110 :: 121 :: 32 :: (M ++ [10])) (by (try simp only [List.length_append, List.length_cons, List.length_nil]) <;> omega) (by (try simp only [List.length_append, List.length_cons, List.length_nil]) <;> omega) w'
                simpa using this
              clear hRl lM
              go_wp2_with fail
              refine (HM.out _).mono ?_
              rintro e w8 ⟨rfl, hb8⟩
              have HB8 := hide (HBI.out.trans (hb8.mono HBI.out.size))
              clear hb8 HBI q0 q1 q2 q3 q4 HM
              go_wp2_with fail
              go_roundw
              case rel => exact ⟨a + 1, _, by omega, by go_num, rfl, by simpa using HJ3, HB8⟩
              case measure => simp [intOf]; omega
            · have HM := hide (fun w => matchText_walk m hmo w)
              have lM := matchT_len m
              have HRT := hide (show ruleT ⟨true, m⟩ = [112, 101, 114, 109, 105, 116, 32] ++ (matchT m ++ [10]) from rfl)
              have HTK := hide (flat_take ruleT hr)
              obtain ⟨M, hM⟩ : ∃ M, matchT m = M := ⟨_, rfl⟩
              rw [hM] at HM lM HRT
              have HJ3 := hide (show R ++ ([112, 101, 114, 109, 105, 116, 32] ++ (M ++ [10])) = (J ++ HT) ++ (rs.take (a + 1)).flatMap ruleT by rw [HTK.out, HR.out, HRT.out, List.append_assoc])
              obtain ⟨ma, mb, mc, md⟩ := m
              simp only at HM
              clear hM HTK HRT HR hr hmo hRl0
              have a1 : ∀ w', (Op.stringOp .add ⟨List.toArray ([112, 101, 114, 109, 105, 116, 32])⟩ ⟨List.toArray (M)⟩).run Tryd.prog w' = .ok (.string ⟨List.toArray (112 :: 101 :: 114 :: 109 :: 105 :: 116 :: 32 :: M)⟩) w' := fun w' => by
                have := add_run ([112, 101, 114, 109, 105, 116, 32]) (M) (by (try simp only [List.length_append, List.length_cons, List.length_nil]) <;> omega) (by (try simp only [List.length_append, List.length_cons, List.length_nil]) <;> omega) w'
                simpa using this
              have a2 : ∀ w', (Op.stringOp .add ⟨List.toArray (112 :: 101 :: 114 :: 109 :: 105 :: 116 :: 32 :: M)⟩ ⟨List.toArray ([10])⟩).run Tryd.prog w' = .ok (.string ⟨List.toArray (112 :: 101 :: 114 :: 109 :: 105 :: 116 :: 32 :: (M ++ [10]))⟩) w' := fun w' => by
                have := add_run (112 :: 101 :: 114 :: 109 :: 105 :: 116 :: 32 :: M) ([10]) (by (try simp only [List.length_append, List.length_cons, List.length_nil]) <;> omega) (by (try simp only [List.length_append, List.length_cons, List.length_nil]) <;> omega) w'
                simpa using this
              have a3 : ∀ w', (Op.stringOp .add ⟨List.toArray (R)⟩ ⟨List.toArray (112 :: 101 :: 114 :: 109 :: 105 :: 116 :: 32 :: (M ++ [10]))⟩).run Tryd.prog w' = .ok (.string ⟨List.toArray (R ++ 112 :: 101 :: 114 :: 109 :: 105 :: 116 :: 32 :: (M ++ [10]))⟩) w' := fun w' => by
                have := add_run (R) (112 :: 101 :: 114 :: 109 :: 105 :: 116 :: 32 :: (M ++ [10])) (by (try simp only [List.length_append, List.length_cons, List.length_nil]) <;> omega) (by (try simp only [List.length_append, List.length_cons, List.length_nil]) <;> omega) w'
                simpa using this
              clear hRl lM
              go_wp2_with fail
              refine (HM.out _).mono ?_
              rintro e w8 ⟨rfl, hb8⟩
              have HB8 := hide (HBI.out.trans (hb8.mono HBI.out.size))
              clear hb8 HBI q0 q1 q2 q3 q4 HM
              go_wp2_with fail
              go_roundw
              case rel => exact ⟨a + 1, _, by omega, by go_num, rfl, by simpa using HJ3, HB8⟩
              case measure => simp [intOf]; omega
          case neg =>
            obtain rfl : a = rn := by omega
            have hall : rs.take a = rs := List.take_of_length_le (by omega)
            rw [hall] at HR
            have HXR := hide ((HBI.out.block N9 (heap_lt HX6.out)).trans HX6.out)
            have HBR := hide hbW
            have HBI1 := HBI
            have hRlf : R.length ≤ 40000 := hRl
            obtain ⟨w7, hw7⟩ : ∃ w, w = wr := ⟨_, rfl⟩
            subst hw7
            clear hRl0 hbW HBI hall c6 hRl
            go_wp2_with fail
            go_loopw [4, 11] (fun v i wf => ∃ (b : Nat) (L : List UInt8), b ≤ tn ∧ i = .int .i64 (b : Int) ∧ v = .string ⟨L.toArray⟩ ∧ Hid (L = R ++ (ts.take b).flatMap routeT) ∧ Hid (Below w7.heap.size w7 wf)) (fun _ i _ => tn - (intOf i).toNat)
            case atStart => exact ⟨0, R, Nat.zero_le _, rfl, rfl, hide (by simp), hide (Below.refl _ _)⟩
            case round =>
              obtain ⟨b, L, hb, rfl, rfl, HL, HBF⟩ := hrel
              have hLl : L.length ≤ 50000 := by
                have h15 := flat_len routeT 15 (ts.take b) (fun x hx => by
                  have := HTO.out x (List.mem_of_mem_take hx)
                  exact routeT_len this.1.2 this.2.1.2 this.2.2.2)
                rw [HL.out, List.length_append]
                rw [List.length_take] at h15
                omega
              have hbF : Below W.heap.size W wr := HBR.out.trans (HBF.out.mono HBR.out.size)
              obtain ⟨c0, c1, c2, c3, c4, c5, c6⟩ := cells7f ((HBF.out.block N9 (heap_lt HXR.out)).trans HXR.out)
              clear c0 c1 c2 c3 c4 c5
              by_cases hlt3 : b < tn
              case pos =>
                obtain ⟨r, hr⟩ : ∃ r, ts[b]? = some r := ⟨_, List.getElem?_eq_getElem (by omega)⟩
                have hts := HDA.out.ts
                simp only at hts
                have hrr := HTO.out r (List.mem_of_getElem? hr)
                obtain ⟨b3, o3, rfl, hb3, hg3⟩ := hts.2 (by omega)
                have q0 : wr.cell? ⟨b3, o3 + b * 3, none⟩ = some (.int .i64 r.v) := (hbF.cell (p := ⟨b3, o3 + b * 3, none⟩) hb3).trans (hg3 b r hr 0 _ rfl)
                have q1 : wr.cell? ⟨b3, o3 + b * 3 + 1, none⟩ = some (.int .i64 r.b) := (hbF.cell (p := ⟨b3, o3 + b * 3 + 1, none⟩) hb3).trans (hg3 b r hr 1 _ rfl)
                have q2 : wr.cell? ⟨b3, o3 + b * 3 + 2, none⟩ = some (.int .i64 r.p) := (hbF.cell (p := ⟨b3, o3 + b * 3 + 2, none⟩) hb3).trans (hg3 b r hr 2 _ rfl)
                clear hg3 hbF hts
                have HRT := hide (show routeT r = [114, 111, 117, 116, 101, 32] ++ (Lib.decDigits r.v.toNat ++ 47 :: (Lib.decDigits r.b.toNat ++ 32 :: (Lib.decDigits r.p.toNat ++ [10]))) from rfl)
                have HTK := hide (flat_take routeT hr)
                obtain ⟨rv, rb, rp⟩ := r
                simp only at q0 q1 q2 hrr HRT
                have I1 := hide (fun w => show Calls Tryd.prog 41 #[.int .i64 rv] w (fun e w' => e = .returned (.string ⟨(Lib.decDigits (rv).toNat).toArray⟩) ∧ w' = w) from by
                  have h := Tryd.strconv_Itoa_small (rv).toNat (by have := hrr.1; omega) w
                  rw [show (((rv).toNat : Nat) : Int) = rv by have := hrr.1; omega] at h
                  exact h)
                have I2 := hide (fun w => show Calls Tryd.prog 41 #[.int .i64 rb] w (fun e w' => e = .returned (.string ⟨(Lib.decDigits (rb).toNat).toArray⟩) ∧ w' = w) from by
                  have h := Tryd.strconv_Itoa_small (rb).toNat (by have := hrr.2.1; omega) w
                  rw [show (((rb).toNat : Nat) : Int) = rb by have := hrr.2.1; omega] at h
                  exact h)
                have I3 := hide (fun w => show Calls Tryd.prog 41 #[.int .i64 rp] w (fun e w' => e = .returned (.string ⟨(Lib.decDigits (rp).toNat).toArray⟩) ∧ w' = w) from by
                  have h := Tryd.strconv_Itoa_small (rp).toNat (by have := hrr.2.2; omega) w
                  rw [show (((rp).toNat : Nat) : Int) = rp by have := hrr.2.2; omega] at h
                  exact h)
                have l1 := dec_len2 (show rv.toNat < 100 by omega)
                have l2 := dec_len2 (show rb.toNat < 100 by omega)
                have l3 := dec_len2 (show rp.toNat < 100 by omega)
                generalize Lib.decDigits rv.toNat = X1 at *
                generalize Lib.decDigits rb.toNat = X2 at *
                generalize Lib.decDigits rp.toNat = X3 at *
                have HL2 := hide (show L ++ ([114, 111, 117, 116, 101, 32] ++ (X1 ++ 47 :: (X2 ++ 32 :: (X3 ++ [10])))) = R ++ (ts.take (b + 1)).flatMap routeT by rw [HTK.out, HL.out, HRT.out, List.append_assoc])
                clear HTK HRT HL hr hrr
                have r1 : ∀ w', (Op.stringOp .add ⟨List.toArray ([114, 111, 117, 116, 101, 32])⟩ ⟨List.toArray (X1)⟩).run Tryd.prog w' = .ok (.string ⟨List.toArray (114 :: 111 :: 117 :: 116 :: 101 :: 32 :: X1)⟩) w' := fun w' => by
                  have := add_run ([114, 111, 117, 116, 101, 32]) (X1) (by (try simp only [List.length_append, List.length_cons, List.length_nil]) <;> omega) (by (try simp only [List.length_append, List.length_cons, List.length_nil]) <;> omega) w'
                  simpa using this
                have r2 : ∀ w', (Op.stringOp .add ⟨List.toArray (114 :: 111 :: 117 :: 116 :: 101 :: 32 :: X1)⟩ ⟨List.toArray ([47])⟩).run Tryd.prog w' = .ok (.string ⟨List.toArray (114 :: 111 :: 117 :: 116 :: 101 :: 32 :: (X1 ++ [47]))⟩) w' := fun w' => by
                  have := add_run (114 :: 111 :: 117 :: 116 :: 101 :: 32 :: X1) ([47]) (by (try simp only [List.length_append, List.length_cons, List.length_nil]) <;> omega) (by (try simp only [List.length_append, List.length_cons, List.length_nil]) <;> omega) w'
                  simpa using this
                have r3 : ∀ w', (Op.stringOp .add ⟨List.toArray (114 :: 111 :: 117 :: 116 :: 101 :: 32 :: (X1 ++ [47]))⟩ ⟨List.toArray (X2)⟩).run Tryd.prog w' = .ok (.string ⟨List.toArray (114 :: 111 :: 117 :: 116 :: 101 :: 32 :: (X1 ++ 47 :: X2))⟩) w' := fun w' => by
                  have := add_run (114 :: 111 :: 117 :: 116 :: 101 :: 32 :: (X1 ++ [47])) (X2) (by (try simp only [List.length_append, List.length_cons, List.length_nil]) <;> omega) (by (try simp only [List.length_append, List.length_cons, List.length_nil]) <;> omega) w'
                  simpa using this
                have r4 : ∀ w', (Op.stringOp .add ⟨List.toArray (114 :: 111 :: 117 :: 116 :: 101 :: 32 :: (X1 ++ 47 :: X2))⟩ ⟨List.toArray ([32])⟩).run Tryd.prog w' = .ok (.string ⟨List.toArray (114 :: 111 :: 117 :: 116 :: 101 :: 32 :: (X1 ++ 47 :: (X2 ++ [32])))⟩) w' := fun w' => by
                  have := add_run (114 :: 111 :: 117 :: 116 :: 101 :: 32 :: (X1 ++ 47 :: X2)) ([32]) (by (try simp only [List.length_append, List.length_cons, List.length_nil]) <;> omega) (by (try simp only [List.length_append, List.length_cons, List.length_nil]) <;> omega) w'
                  simpa using this
                have r5 : ∀ w', (Op.stringOp .add ⟨List.toArray (114 :: 111 :: 117 :: 116 :: 101 :: 32 :: (X1 ++ 47 :: (X2 ++ [32])))⟩ ⟨List.toArray (X3)⟩).run Tryd.prog w' = .ok (.string ⟨List.toArray (114 :: 111 :: 117 :: 116 :: 101 :: 32 :: (X1 ++ 47 :: (X2 ++ 32 :: X3)))⟩) w' := fun w' => by
                  have := add_run (114 :: 111 :: 117 :: 116 :: 101 :: 32 :: (X1 ++ 47 :: (X2 ++ [32]))) (X3) (by (try simp only [List.length_append, List.length_cons, List.length_nil]) <;> omega) (by (try simp only [List.length_append, List.length_cons, List.length_nil]) <;> omega) w'
                  simpa using this
                have r6 : ∀ w', (Op.stringOp .add ⟨List.toArray (114 :: 111 :: 117 :: 116 :: 101 :: 32 :: (X1 ++ 47 :: (X2 ++ 32 :: X3)))⟩ ⟨List.toArray ([10])⟩).run Tryd.prog w' = .ok (.string ⟨List.toArray (114 :: 111 :: 117 :: 116 :: 101 :: 32 :: (X1 ++ 47 :: (X2 ++ 32 :: (X3 ++ [10]))))⟩) w' := fun w' => by
                  have := add_run (114 :: 111 :: 117 :: 116 :: 101 :: 32 :: (X1 ++ 47 :: (X2 ++ 32 :: X3))) ([10]) (by (try simp only [List.length_append, List.length_cons, List.length_nil]) <;> omega) (by (try simp only [List.length_append, List.length_cons, List.length_nil]) <;> omega) w'
                  simpa using this
                have r7 : ∀ w', (Op.stringOp .add ⟨List.toArray (L)⟩ ⟨List.toArray (114 :: 111 :: 117 :: 116 :: 101 :: 32 :: (X1 ++ 47 :: (X2 ++ 32 :: (X3 ++ [10]))))⟩).run Tryd.prog w' = .ok (.string ⟨List.toArray (L ++ 114 :: 111 :: 117 :: 116 :: 101 :: 32 :: (X1 ++ 47 :: (X2 ++ 32 :: (X3 ++ [10]))))⟩) w' := fun w' => by
                  have := add_run (L) (114 :: 111 :: 117 :: 116 :: 101 :: 32 :: (X1 ++ 47 :: (X2 ++ 32 :: (X3 ++ [10])))) (by (try simp only [List.length_append, List.length_cons, List.length_nil]) <;> omega) (by (try simp only [List.length_append, List.length_cons, List.length_nil]) <;> omega) w'
                  simpa using this
                have hwz := HBF.out.size
                have HB4 := hide (HBF.out.alloc hwz (.cells #[.int .i64 rv, .int .i64 rb, .int .i64 rp] 107))
                obtain ⟨y0, y1, y2⟩ := cells3f (heap_alloc_new wr (.cells #[.int .i64 rv, .int .i64 rb, .int .i64 rp] 107))
                clear HBF hLl l1 l2 l3
                go_wp2_with fail
                generalize wr.alloc (.cells #[.int .i64 rv, .int .i64 rb, .int .i64 rp] 107) = w4' at *
                go_quiet (first | (go_at_call_of 41 (Value.int .i64 rv); exact Calls.quiet_of_same (I1.out _)) | (go_at_call_of 41 (Value.int .i64 rb); exact Calls.quiet_of_same (I2.out _)) | (go_at_call_of 41 (Value.int .i64 rp); exact Calls.quiet_of_same (I3.out _)))
                have HB5 := hide (HB4.out.trans ((below_drewN w4' nq).mono HB4.out.size))
                go_wp2_with fail
                go_roundw
                case rel => exact ⟨b + 1, _, by omega, by go_num, rfl, by simpa using HL2, HB5⟩
                case measure => simp [intOf]; omega
              case neg =>
                obtain rfl : b = tn := by omega
                have hall : ts.take b = ts := List.take_of_length_le (by omega)
                rw [hall] at HL
                have HFIN := hide (show L = (ds.take (k + 1)).flatMap (fun d : DevV => devT d.dev) by rw [← HJ2.out, HL.out, HR.out]; simp)
                have HBZ := hide (HBW6.out.trans ((HBI1.out.trans (HBF.out.mono HBI1.out.size)).mono HBW6.out.size))
                clear HL HR HBF hall HJ2 hbF hLl
                go_wp2_with fail
                go_roundw
                case rel => exact ⟨k + 1, L, hlt, by go_num, rfl, HFIN, HBZ⟩
                case measure => exact meas_step dn k hlt
      · -- a nat
        have lL := comT_len (xs := poolL pool) (fun x hx => by have := poolL_lt pool x hx; omega)
        have hpl := poolL_len pool
        have HH' := hide (show J ++ HT = J ++ (WK ++ 32 :: (nm ++ 32 :: (X ++ 32 :: (comT (poolL pool) ++ [10])))) by rw [HHD.out, HTL.out, if_neg (by omega), if_pos hk])
        have HCW := hide (fun (os : List Nat) (h : poolL pool = os) A c w (hI : IntsAt w w.heap.size A os.length (os.map fun (k : Nat) => (k : Int))) => show Calls Tryd.prog 60 #[.slice A os.length c] w (fun e w' => e = .returned (.string ⟨(comT (poolL pool)).toArray⟩) ∧ w = w') from by
          subst h
          exact commas_walk (poolL pool) A _ c w hI (fun x hx => by have := poolL_lt pool x hx; omega) hpl)
        obtain ⟨L, hL⟩ : ∃ L, comT (poolL pool) = L := ⟨_, rfl⟩
        rw [hL] at lL HCW HH'
        have HH := HH'
        have HHAS := hide (fun w n (h : n < 16) => has_walk w pool n (by omega) h _ rfl)
        have HSN := hide (poolL_snoc pool)
        subst hk
        have s4 : ∀ w', (Op.stringOp .add ⟨List.toArray ([32])⟩ ⟨List.toArray (X)⟩).run Tryd.prog w' = .ok (.string ⟨List.toArray (32 :: X)⟩) w' := fun w' => by
          have := add_run ([32]) (X) (by (try simp only [List.length_append, List.length_cons, List.length_nil]) <;> omega) (by (try simp only [List.length_append, List.length_cons, List.length_nil]) <;> omega) w'
          simpa using this
        have s5 : ∀ w', (Op.stringOp .add ⟨List.toArray (J ++ (WK ++ 32 :: nm))⟩ ⟨List.toArray (32 :: X)⟩).run Tryd.prog w' = .ok (.string ⟨List.toArray (J ++ (WK ++ 32 :: (nm ++ 32 :: X)))⟩) w' := fun w' => by
          have := add_run (J ++ (WK ++ 32 :: nm)) (32 :: X) (by (try simp only [List.length_append, List.length_cons, List.length_nil]) <;> omega) (by (try simp only [List.length_append, List.length_cons, List.length_nil]) <;> omega) w'
          simpa using this
        have s6 : ∀ w', (Op.stringOp .add ⟨List.toArray ([32])⟩ ⟨List.toArray (L)⟩).run Tryd.prog w' = .ok (.string ⟨List.toArray (32 :: L)⟩) w' := fun w' => by
          have := add_run ([32]) (L) (by (try simp only [List.length_append, List.length_cons, List.length_nil]) <;> omega) (by (try simp only [List.length_append, List.length_cons, List.length_nil]) <;> omega) w'
          simpa using this
        have s7 : ∀ w', (Op.stringOp .add ⟨List.toArray (J ++ (WK ++ 32 :: (nm ++ 32 :: X)))⟩ ⟨List.toArray (32 :: L)⟩).run Tryd.prog w' = .ok (.string ⟨List.toArray (J ++ (WK ++ 32 :: (nm ++ 32 :: (X ++ 32 :: L))))⟩) w' := fun w' => by
          have := add_run (J ++ (WK ++ 32 :: (nm ++ 32 :: X))) (32 :: L) (by (try simp only [List.length_append, List.length_cons, List.length_nil]) <;> omega) (by (try simp only [List.length_append, List.length_cons, List.length_nil]) <;> omega) w'
          simpa using this
        have s8 : ∀ w', (Op.stringOp .add ⟨List.toArray (J ++ (WK ++ 32 :: (nm ++ 32 :: (X ++ 32 :: L))))⟩ ⟨List.toArray ([10])⟩).run Tryd.prog w' = .ok (.string ⟨List.toArray (J ++ (WK ++ 32 :: (nm ++ 32 :: (X ++ 32 :: (L ++ [10])))))⟩) w' := fun w' => by
          have := add_run (J ++ (WK ++ 32 :: (nm ++ 32 :: (X ++ 32 :: L)))) ([10]) (by (try simp only [List.length_append, List.length_cons, List.length_nil]) <;> omega) (by (try simp only [List.length_append, List.length_cons, List.length_nil]) <;> omega) w'
          simpa using this
        clear HHD HTL lX lL hL hpl HH'
        go_wp2_with (go_at_call 41; refine (HIB.out _).mono ?_; rintro e w5 ⟨rfl, rfl⟩)
        clear c0 c1 c2 c3 c4 c5 c6
        go_loopw [7, 8] (fun v i wr => ∃ (m : Nat) (os : List Nat), m ≤ 8 ∧ i = .int .i64 (m : Int) ∧ Hid ((List.range m).filter pool.testBit = os) ∧ os.length ≤ m ∧ Hid (wr.ownsRow w6.heap.size 3 1 v os.length (intCells os)) ∧ Hid (Below w6.heap.size w6 wr)) (fun _ i _ => 8 - (intOf i).toNat)
        case atStart => exact ⟨0, [], by omega, rfl, hide rfl, Nat.le_refl _, hide (World.ownsRow_nil _ _ _ _), hide (Below.refl _ _)⟩
        case round =>
          obtain ⟨m, os, hm, rfl, HR, hol, HO, HBI⟩ := hrel
          have HXW := hide ((HBI.out.block N9 (heap_lt HX6.out)).trans HX6.out)
          by_cases hlt2 : m < 8
          case pos =>
            have hltI : (m : Int) < 8 := by omega
            obtain ⟨c0, c1, c2, c3, c4, c5, c6⟩ := cells7f HXW.out
            cases hb : pool.testBit m with
            | false =>
              have HR2 := hide (show (List.range (m + 1)).filter pool.testBit = os by rw [HSN.out, HR.out, hb]; simp)
              go_wp2_with fail
              refine (HHAS.out _ m (by omega)).mono ?_
              rintro e w5 ⟨rfl, rfl⟩
              rw [hb]
              clear hb HR
              go_wp2_with fail
              go_roundw
              case rel => exact ⟨m + 1, os, by omega, by go_num, HR2, by omega, HO, HBI⟩
              case measure => exact meas_step 8 m hlt2
            | true =>
              have HR2 := hide (show (List.range (m + 1)).filter pool.testBit = os ++ [m] by rw [HSN.out, HR.out, hb]; simp)
              have hwz : w6.heap.size ≤ wr.heap.size := HBI.out.size
              have HLIT := hide (show Reads (wr.alloc (.cells #[.int .i64 (m : Int)] 3)) (wr.heap.size + 1) 1 (some ⟨wr.heap.size, 0, none⟩) 1 [.int .i64 (m : Int)] from
                ⟨rfl, fun _ => ⟨_, rfl, Nat.lt_succ_self _, fun j u hu => by
                  rw [addr_add, Nat.zero_add, cell_of_row _ _ _ _ _ _ (heap_alloc_new wr _)]
                  simpa using hu⟩⟩)
              have HO4 := hide (HO.out.alloc (.cells #[.int .i64 (m : Int)] 3))
              have HB4 := hide (HBI.out.alloc hwz (.cells #[.int .i64 (m : Int)] 3))
              go_wp2_with fail
              refine (HHAS.out _ m (by omega)).mono ?_
              rintro e w5 ⟨rfl, rfl⟩
              rw [hb]
              clear hb HR HO HBI
              go_wp2_with (at_builtin; refine wpList_append_any _ rfl (.tmp 65) (.tmp 67) 67 rfl w6.heap.size 3 i0 _ 1 8 Tryd.underlying67 hi0 hz0 hz1 hz2 rfl (by omega) _ os.length (intCells os) rfl HO4.out (wr.heap.size + 1) (some ⟨wr.heap.size, 0, none⟩) 1 1 [.int .i64 (m : Int)] rfl HLIT.out (by intro u hu; simp at hu; subst hu; rfl) (by simp only [maxLen]; omega) (by omega) (by simp; omega) ?_; intro v5 w5 hown5 hg5 hat5; have HO5 := hide hown5; have HB5 := hide (HB4.out.grown hg5 (by simp; omega) (fun q hq => (HO4.out.lt q hq).1)); clear hown5 hg5 hat5)
              go_roundw
              case rel => exact ⟨m + 1, os ++ [m], by omega, by go_num, HR2, by simp; omega, hide (by simpa [intCells] using HO5.out), HB5⟩
              case measure => exact meas_step 8 m hlt2
          case neg =>
            obtain rfl : m = 8 := by omega
            have hos : poolL pool = os := HR.out
            have hlt8 := poolL_lt pool
            rw [hos] at hlt8
            obtain ⟨A, c, hv, hc, hI⟩ := ints_of_own HO.out (fun x hx => by have := hlt8 x hx; omega)
            subst hv
            have HCO := hide (HCW.out os hos A c wr hI)
            have HBW9 := hide (HBW6.out.trans (HBI.out.mono HBW6.out.size))
            obtain ⟨w9, hw9⟩ : ∃ w, w = wr := ⟨_, rfl⟩
            subst hw9
            obtain ⟨c0, c1, c2, c3, c4, c5, c6⟩ := cells7f HXW.out
            clear HO HR hos hI hlt8 hc HCW HSN HHAS HBI HBW6 HX6
            go_wp2_with (go_at_call 60; refine HCO.out.mono ?_; rintro e w5 ⟨rfl, rfl⟩)
            rw [← HH.out]
            clear HH
            have HDW := hide (HB0.out.trans (HBW9.out.mono HB0.out.size))
            go_wp2_with fail
            go_loopw [4, 9] (fun v i wr => ∃ (a : Nat) (R : List UInt8), a ≤ rn ∧ i = .int .i64 (a : Int) ∧ v = .string ⟨R.toArray⟩ ∧ Hid (R = (J ++ HT) ++ (rs.take a).flatMap ruleT) ∧ Hid (Below w9.heap.size w9 wr)) (fun _ i _ => rn - (intOf i).toNat)
            case atStart => exact ⟨0, J ++ HT, Nat.zero_le _, rfl, rfl, hide (by simp), hide (Below.refl _ _)⟩
            case round =>
              obtain ⟨a, R, ha, rfl, rfl, HR, HBI⟩ := hrel
              have hRl0 := flat_len ruleT 299 (rs.take a) (fun x _ => ruleT_len x)
              have hRl : R.length ≤ 40000 := by
                rw [HR.out, List.length_append, List.length_append]
                rw [List.length_take] at hRl0
                omega
              have hbW : Below W.heap.size W wr := HDW.out.trans (HBI.out.mono HDW.out.size)
              obtain ⟨c0, c1, c2, c3, c4, c5, c6⟩ := cells7f ((HBI.out.block N9 (heap_lt HXW.out)).trans HXW.out)
              clear c0 c1 c2 c3 c4
              by_cases hlt2 : a < rn
              case pos =>
                obtain ⟨r, hr⟩ : ∃ r, rs[a]? = some r := ⟨_, List.getElem?_eq_getElem (by omega)⟩
                have hrs := HDA.out.rs
                simp only at hrs
                have hmo : r.m.ok := hrs.okAt hr
                obtain ⟨b3, o3, rfl, hb3, hg3⟩ := hrs.2.2 (by omega)
                obtain ⟨q0, q1, q2, q3, q4⟩ := (hg3 a r hr).below hbW hb3
                clear hg3 hbW hrs
                obtain ⟨pm, m⟩ := r
                simp only at hmo q0 q1 q2 q3 q4
                cases pm
                · have HM := hide (fun w => matchText_walk m hmo w)
                  have lM := matchT_len m
                  have HRT := hide (show ruleT ⟨false, m⟩ = [100, 101, 110, 121, 32] ++ (matchT m ++ [10]) from rfl)
                  have HTK := hide (flat_take ruleT hr)
                  obtain ⟨M, hM⟩ : ∃ M, matchT m = M := ⟨_, rfl⟩
                  rw [hM] at HM lM HRT
                  have HJ3 := hide (show R ++ ([100, 101, 110, 121, 32] ++ (M ++ [10])) = (J ++ HT) ++ (rs.take (a + 1)).flatMap ruleT by rw [HTK.out, HR.out, HRT.out, List.append_assoc])
                  obtain ⟨ma, mb, mc, md⟩ := m
                  simp only at HM
                  clear hM HTK HRT HR hr hmo hRl0
                  have a1 : ∀ w', (Op.stringOp .add ⟨List.toArray ([100, 101, 110, 121, 32])⟩ ⟨List.toArray (M)⟩).run Tryd.prog w' = .ok (.string ⟨List.toArray (100 :: 101 :: 110 :: 121 :: 32 :: M)⟩) w' := fun w' => by
                    have := add_run ([100, 101, 110, 121, 32]) (M) (by (try simp only [List.length_append, List.length_cons, List.length_nil]) <;> omega) (by (try simp only [List.length_append, List.length_cons, List.length_nil]) <;> omega) w'
                    simpa using this
                  have a2 : ∀ w', (Op.stringOp .add ⟨List.toArray (100 :: 101 :: 110 :: 121 :: 32 :: M)⟩ ⟨List.toArray ([10])⟩).run Tryd.prog w' = .ok (.string ⟨List.toArray (100 :: 101 :: 110 :: 121 :: 32 :: (M ++ [10]))⟩) w' := fun w' => by
                    have := add_run (100 :: 101 :: 110 :: 121 :: 32 :: M) ([10]) (by (try simp only [List.length_append, List.length_cons, List.length_nil]) <;> omega) (by (try simp only [List.length_append, List.length_cons, List.length_nil]) <;> omega) w'
                    simpa using this
                  have a3 : ∀ w', (Op.stringOp .add ⟨List.toArray (R)⟩ ⟨List.toArray (100 :: 101 :: 110 :: 121 :: 32 :: (M ++ [10]))⟩).run Tryd.prog w' = .ok (.string ⟨List.toArray (R ++ 100 :: 101 :: 110 :: 121 :: 32 :: (M ++ [10]))⟩) w' := fun w' => by
                    have := add_run (R) (100 :: 101 :: 110 :: 121 :: 32 :: (M ++ [10])) (by (try simp only [List.length_append, List.length_cons, List.length_nil]) <;> omega) (by (try simp only [List.length_append, List.length_cons, List.length_nil]) <;> omega) w'
                    simpa using this
                  clear hRl lM
                  go_wp2_with fail
                  refine (HM.out _).mono ?_
                  rintro e w8 ⟨rfl, hb8⟩
                  have HB8 := hide (HBI.out.trans (hb8.mono HBI.out.size))
                  clear hb8 HBI q0 q1 q2 q3 q4 HM
                  go_wp2_with fail
                  go_roundw
                  case rel => exact ⟨a + 1, _, by omega, by go_num, rfl, by simpa using HJ3, HB8⟩
                  case measure => simp [intOf]; omega
                · have HM := hide (fun w => matchText_walk m hmo w)
                  have lM := matchT_len m
                  have HRT := hide (show ruleT ⟨true, m⟩ = [112, 101, 114, 109, 105, 116, 32] ++ (matchT m ++ [10]) from rfl)
                  have HTK := hide (flat_take ruleT hr)
                  obtain ⟨M, hM⟩ : ∃ M, matchT m = M := ⟨_, rfl⟩
                  rw [hM] at HM lM HRT
                  have HJ3 := hide (show R ++ ([112, 101, 114, 109, 105, 116, 32] ++ (M ++ [10])) = (J ++ HT) ++ (rs.take (a + 1)).flatMap ruleT by rw [HTK.out, HR.out, HRT.out, List.append_assoc])
                  obtain ⟨ma, mb, mc, md⟩ := m
                  simp only at HM
                  clear hM HTK HRT HR hr hmo hRl0
                  have a1 : ∀ w', (Op.stringOp .add ⟨List.toArray ([112, 101, 114, 109, 105, 116, 32])⟩ ⟨List.toArray (M)⟩).run Tryd.prog w' = .ok (.string ⟨List.toArray (112 :: 101 :: 114 :: 109 :: 105 :: 116 :: 32 :: M)⟩) w' := fun w' => by
                    have := add_run ([112, 101, 114, 109, 105, 116, 32]) (M) (by (try simp only [List.length_append, List.length_cons, List.length_nil]) <;> omega) (by (try simp only [List.length_append, List.length_cons, List.length_nil]) <;> omega) w'
                    simpa using this
                  have a2 : ∀ w', (Op.stringOp .add ⟨List.toArray (112 :: 101 :: 114 :: 109 :: 105 :: 116 :: 32 :: M)⟩ ⟨List.toArray ([10])⟩).run Tryd.prog w' = .ok (.string ⟨List.toArray (112 :: 101 :: 114 :: 109 :: 105 :: 116 :: 32 :: (M ++ [10]))⟩) w' := fun w' => by
                    have := add_run (112 :: 101 :: 114 :: 109 :: 105 :: 116 :: 32 :: M) ([10]) (by (try simp only [List.length_append, List.length_cons, List.length_nil]) <;> omega) (by (try simp only [List.length_append, List.length_cons, List.length_nil]) <;> omega) w'
                    simpa using this
                  have a3 : ∀ w', (Op.stringOp .add ⟨List.toArray (R)⟩ ⟨List.toArray (112 :: 101 :: 114 :: 109 :: 105 :: 116 :: 32 :: (M ++ [10]))⟩).run Tryd.prog w' = .ok (.string ⟨List.toArray (R ++ 112 :: 101 :: 114 :: 109 :: 105 :: 116 :: 32 :: (M ++ [10]))⟩) w' := fun w' => by
                    have := add_run (R) (112 :: 101 :: 114 :: 109 :: 105 :: 116 :: 32 :: (M ++ [10])) (by (try simp only [List.length_append, List.length_cons, List.length_nil]) <;> omega) (by (try simp only [List.length_append, List.length_cons, List.length_nil]) <;> omega) w'
                    simpa using this
                  clear hRl lM
                  go_wp2_with fail
                  refine (HM.out _).mono ?_
                  rintro e w8 ⟨rfl, hb8⟩
                  have HB8 := hide (HBI.out.trans (hb8.mono HBI.out.size))
                  clear hb8 HBI q0 q1 q2 q3 q4 HM
                  go_wp2_with fail
                  go_roundw
                  case rel => exact ⟨a + 1, _, by omega, by go_num, rfl, by simpa using HJ3, HB8⟩
                  case measure => simp [intOf]; omega
              case neg =>
                obtain rfl : a = rn := by omega
                have hall : rs.take a = rs := List.take_of_length_le (by omega)
                rw [hall] at HR
                have HXR := hide ((HBI.out.block N9 (heap_lt HXW.out)).trans HXW.out)
                have HBR := hide hbW
                have HBI1 := HBI
                have hRlf : R.length ≤ 40000 := hRl
                obtain ⟨w7, hw7⟩ : ∃ w, w = wr := ⟨_, rfl⟩
                subst hw7
                clear hRl0 hbW HBI hall c6 hRl
                go_wp2_with fail
                go_loopw [4, 11] (fun v i wf => ∃ (b : Nat) (L : List UInt8), b ≤ tn ∧ i = .int .i64 (b : Int) ∧ v = .string ⟨L.toArray⟩ ∧ Hid (L = R ++ (ts.take b).flatMap routeT) ∧ Hid (Below w7.heap.size w7 wf)) (fun _ i _ => tn - (intOf i).toNat)
                case atStart => exact ⟨0, R, Nat.zero_le _, rfl, rfl, hide (by simp), hide (Below.refl _ _)⟩
                case round =>
                  obtain ⟨b, L, hb, rfl, rfl, HL, HBF⟩ := hrel
                  have hLl : L.length ≤ 50000 := by
                    have h15 := flat_len routeT 15 (ts.take b) (fun x hx => by
                      have := HTO.out x (List.mem_of_mem_take hx)
                      exact routeT_len this.1.2 this.2.1.2 this.2.2.2)
                    rw [HL.out, List.length_append]
                    rw [List.length_take] at h15
                    omega
                  have hbF : Below W.heap.size W wr := HBR.out.trans (HBF.out.mono HBR.out.size)
                  obtain ⟨c0, c1, c2, c3, c4, c5, c6⟩ := cells7f ((HBF.out.block N9 (heap_lt HXR.out)).trans HXR.out)
                  clear c0 c1 c2 c3 c4 c5
                  by_cases hlt3 : b < tn
                  case pos =>
                    obtain ⟨r, hr⟩ : ∃ r, ts[b]? = some r := ⟨_, List.getElem?_eq_getElem (by omega)⟩
                    have hts := HDA.out.ts
                    simp only at hts
                    have hrr := HTO.out r (List.mem_of_getElem? hr)
                    obtain ⟨b3, o3, rfl, hb3, hg3⟩ := hts.2 (by omega)
                    have q0 : wr.cell? ⟨b3, o3 + b * 3, none⟩ = some (.int .i64 r.v) := (hbF.cell (p := ⟨b3, o3 + b * 3, none⟩) hb3).trans (hg3 b r hr 0 _ rfl)
                    have q1 : wr.cell? ⟨b3, o3 + b * 3 + 1, none⟩ = some (.int .i64 r.b) := (hbF.cell (p := ⟨b3, o3 + b * 3 + 1, none⟩) hb3).trans (hg3 b r hr 1 _ rfl)
                    have q2 : wr.cell? ⟨b3, o3 + b * 3 + 2, none⟩ = some (.int .i64 r.p) := (hbF.cell (p := ⟨b3, o3 + b * 3 + 2, none⟩) hb3).trans (hg3 b r hr 2 _ rfl)
                    clear hg3 hbF hts
                    have HRT := hide (show routeT r = [114, 111, 117, 116, 101, 32] ++ (Lib.decDigits r.v.toNat ++ 47 :: (Lib.decDigits r.b.toNat ++ 32 :: (Lib.decDigits r.p.toNat ++ [10]))) from rfl)
                    have HTK := hide (flat_take routeT hr)
                    obtain ⟨rv, rb, rp⟩ := r
                    simp only at q0 q1 q2 hrr HRT
                    have I1 := hide (fun w => show Calls Tryd.prog 41 #[.int .i64 rv] w (fun e w' => e = .returned (.string ⟨(Lib.decDigits (rv).toNat).toArray⟩) ∧ w' = w) from by
                      have h := Tryd.strconv_Itoa_small (rv).toNat (by have := hrr.1; omega) w
                      rw [show (((rv).toNat : Nat) : Int) = rv by have := hrr.1; omega] at h
                      exact h)
                    have I2 := hide (fun w => show Calls Tryd.prog 41 #[.int .i64 rb] w (fun e w' => e = .returned (.string ⟨(Lib.decDigits (rb).toNat).toArray⟩) ∧ w' = w) from by
                      have h := Tryd.strconv_Itoa_small (rb).toNat (by have := hrr.2.1; omega) w
                      rw [show (((rb).toNat : Nat) : Int) = rb by have := hrr.2.1; omega] at h
                      exact h)
                    have I3 := hide (fun w => show Calls Tryd.prog 41 #[.int .i64 rp] w (fun e w' => e = .returned (.string ⟨(Lib.decDigits (rp).toNat).toArray⟩) ∧ w' = w) from by
                      have h := Tryd.strconv_Itoa_small (rp).toNat (by have := hrr.2.2; omega) w
                      rw [show (((rp).toNat : Nat) : Int) = rp by have := hrr.2.2; omega] at h
                      exact h)
                    have l1 := dec_len2 (show rv.toNat < 100 by omega)
                    have l2 := dec_len2 (show rb.toNat < 100 by omega)
                    have l3 := dec_len2 (show rp.toNat < 100 by omega)
                    generalize Lib.decDigits rv.toNat = X1 at *
                    generalize Lib.decDigits rb.toNat = X2 at *
                    generalize Lib.decDigits rp.toNat = X3 at *
                    have HL2 := hide (show L ++ ([114, 111, 117, 116, 101, 32] ++ (X1 ++ 47 :: (X2 ++ 32 :: (X3 ++ [10])))) = R ++ (ts.take (b + 1)).flatMap routeT by rw [HTK.out, HL.out, HRT.out, List.append_assoc])
                    clear HTK HRT HL hr hrr
                    have r1 : ∀ w', (Op.stringOp .add ⟨List.toArray ([114, 111, 117, 116, 101, 32])⟩ ⟨List.toArray (X1)⟩).run Tryd.prog w' = .ok (.string ⟨List.toArray (114 :: 111 :: 117 :: 116 :: 101 :: 32 :: X1)⟩) w' := fun w' => by
                      have := add_run ([114, 111, 117, 116, 101, 32]) (X1) (by (try simp only [List.length_append, List.length_cons, List.length_nil]) <;> omega) (by (try simp only [List.length_append, List.length_cons, List.length_nil]) <;> omega) w'
                      simpa using this
                    have r2 : ∀ w', (Op.stringOp .add ⟨List.toArray (114 :: 111 :: 117 :: 116 :: 101 :: 32 :: X1)⟩ ⟨List.toArray ([47])⟩).run Tryd.prog w' = .ok (.string ⟨List.toArray (114 :: 111 :: 117 :: 116 :: 101 :: 32 :: (X1 ++ [47]))⟩) w' := fun w' => by
                      have := add_run (114 :: 111 :: 117 :: 116 :: 101 :: 32 :: X1) ([47]) (by (try simp only [List.length_append, List.length_cons, List.length_nil]) <;> omega) (by (try simp only [List.length_append, List.length_cons, List.length_nil]) <;> omega) w'
                      simpa using this
                    have r3 : ∀ w', (Op.stringOp .add ⟨List.toArray (114 :: 111 :: 117 :: 116 :: 101 :: 32 :: (X1 ++ [47]))⟩ ⟨List.toArray (X2)⟩).run Tryd.prog w' = .ok (.string ⟨List.toArray (114 :: 111 :: 117 :: 116 :: 101 :: 32 :: (X1 ++ 47 :: X2))⟩) w' := fun w' => by
                      have := add_run (114 :: 111 :: 117 :: 116 :: 101 :: 32 :: (X1 ++ [47])) (X2) (by (try simp only [List.length_append, List.length_cons, List.length_nil]) <;> omega) (by (try simp only [List.length_append, List.length_cons, List.length_nil]) <;> omega) w'
                      simpa using this
                    have r4 : ∀ w', (Op.stringOp .add ⟨List.toArray (114 :: 111 :: 117 :: 116 :: 101 :: 32 :: (X1 ++ 47 :: X2))⟩ ⟨List.toArray ([32])⟩).run Tryd.prog w' = .ok (.string ⟨List.toArray (114 :: 111 :: 117 :: 116 :: 101 :: 32 :: (X1 ++ 47 :: (X2 ++ [32])))⟩) w' := fun w' => by
                      have := add_run (114 :: 111 :: 117 :: 116 :: 101 :: 32 :: (X1 ++ 47 :: X2)) ([32]) (by (try simp only [List.length_append, List.length_cons, List.length_nil]) <;> omega) (by (try simp only [List.length_append, List.length_cons, List.length_nil]) <;> omega) w'
                      simpa using this
                    have r5 : ∀ w', (Op.stringOp .add ⟨List.toArray (114 :: 111 :: 117 :: 116 :: 101 :: 32 :: (X1 ++ 47 :: (X2 ++ [32])))⟩ ⟨List.toArray (X3)⟩).run Tryd.prog w' = .ok (.string ⟨List.toArray (114 :: 111 :: 117 :: 116 :: 101 :: 32 :: (X1 ++ 47 :: (X2 ++ 32 :: X3)))⟩) w' := fun w' => by
                      have := add_run (114 :: 111 :: 117 :: 116 :: 101 :: 32 :: (X1 ++ 47 :: (X2 ++ [32]))) (X3) (by (try simp only [List.length_append, List.length_cons, List.length_nil]) <;> omega) (by (try simp only [List.length_append, List.length_cons, List.length_nil]) <;> omega) w'
                      simpa using this
                    have r6 : ∀ w', (Op.stringOp .add ⟨List.toArray (114 :: 111 :: 117 :: 116 :: 101 :: 32 :: (X1 ++ 47 :: (X2 ++ 32 :: X3)))⟩ ⟨List.toArray ([10])⟩).run Tryd.prog w' = .ok (.string ⟨List.toArray (114 :: 111 :: 117 :: 116 :: 101 :: 32 :: (X1 ++ 47 :: (X2 ++ 32 :: (X3 ++ [10]))))⟩) w' := fun w' => by
                      have := add_run (114 :: 111 :: 117 :: 116 :: 101 :: 32 :: (X1 ++ 47 :: (X2 ++ 32 :: X3))) ([10]) (by (try simp only [List.length_append, List.length_cons, List.length_nil]) <;> omega) (by (try simp only [List.length_append, List.length_cons, List.length_nil]) <;> omega) w'
                      simpa using this
                    have r7 : ∀ w', (Op.stringOp .add ⟨List.toArray (L)⟩ ⟨List.toArray (114 :: 111 :: 117 :: 116 :: 101 :: 32 :: (X1 ++ 47 :: (X2 ++ 32 :: (X3 ++ [10]))))⟩).run Tryd.prog w' = .ok (.string ⟨List.toArray (L ++ 114 :: 111 :: 117 :: 116 :: 101 :: 32 :: (X1 ++ 47 :: (X2 ++ 32 :: (X3 ++ [10]))))⟩) w' := fun w' => by
                      have := add_run (L) (114 :: 111 :: 117 :: 116 :: 101 :: 32 :: (X1 ++ 47 :: (X2 ++ 32 :: (X3 ++ [10])))) (by (try simp only [List.length_append, List.length_cons, List.length_nil]) <;> omega) (by (try simp only [List.length_append, List.length_cons, List.length_nil]) <;> omega) w'
                      simpa using this
                    have hwz := HBF.out.size
                    have HB4 := hide (HBF.out.alloc hwz (.cells #[.int .i64 rv, .int .i64 rb, .int .i64 rp] 107))
                    obtain ⟨y0, y1, y2⟩ := cells3f (heap_alloc_new wr (.cells #[.int .i64 rv, .int .i64 rb, .int .i64 rp] 107))
                    clear HBF hLl l1 l2 l3
                    go_wp2_with fail
                    generalize wr.alloc (.cells #[.int .i64 rv, .int .i64 rb, .int .i64 rp] 107) = w4' at *
                    go_quiet (first | (go_at_call_of 41 (Value.int .i64 rv); exact Calls.quiet_of_same (I1.out _)) | (go_at_call_of 41 (Value.int .i64 rb); exact Calls.quiet_of_same (I2.out _)) | (go_at_call_of 41 (Value.int .i64 rp); exact Calls.quiet_of_same (I3.out _)))
                    have HB5 := hide (HB4.out.trans ((below_drewN w4' nq).mono HB4.out.size))
                    go_wp2_with fail
                    go_roundw
                    case rel => exact ⟨b + 1, _, by omega, by go_num, rfl, by simpa using HL2, HB5⟩
                    case measure => simp [intOf]; omega
                  case neg =>
                    obtain rfl : b = tn := by omega
                    have hall : ts.take b = ts := List.take_of_length_le (by omega)
                    rw [hall] at HL
                    have HFIN := hide (show L = (ds.take (k + 1)).flatMap (fun d : DevV => devT d.dev) by rw [← HJ2.out, HL.out, HR.out]; simp)
                    have HBZ := hide (HBW9.out.trans ((HBI1.out.trans (HBF.out.mono HBI1.out.size)).mono HBW9.out.size))
                    clear HL HR HBF hall HJ2 hbF hLl
                    go_wp2_with fail
                    go_roundw
                    case rel => exact ⟨k + 1, L, hlt, by go_num, rfl, HFIN, HBZ⟩
                    case measure => exact meas_step dn k hlt
      · -- a balancer
        have hbs := HBS.out
        have hb3 := HBL.out
        have lL := comT_len (xs := bs.map Int.toNat) (fun x hx => by
          obtain ⟨y, hy, rfl⟩ := List.mem_map.1 hx
          have := hbs y hy; omega)
        rw [List.length_map] at lL
        have HLW := hide (fun w (hb : Below W.heap.size W w) => commas_walk (bs.map Int.toNat) bA bn bc w (by
            rw [backs_nat hbs]; exact HDA.out.bs.below hb hb.size) (fun x hx => by
            obtain ⟨y, hy, rfl⟩ := List.mem_map.1 hx
            have := hbs y hy; omega) (by have := HDA.out.bs.1; simp only at this; omega))
        have HH' := hide (show J ++ HT = J ++ (WK ++ 32 :: (nm ++ 32 :: (X ++ 32 :: (comT (bs.map Int.toNat) ++ [10])))) by rw [HHD.out, HTL.out, if_neg (by omega), if_neg (by omega), if_pos hk])
        obtain ⟨L, hL⟩ : ∃ L, comT (bs.map Int.toNat) = L := ⟨_, rfl⟩
        rw [hL] at lL HLW HH'
        have HH := HH'
        subst hk
        have s4 : ∀ w', (Op.stringOp .add ⟨List.toArray ([32])⟩ ⟨List.toArray (X)⟩).run Tryd.prog w' = .ok (.string ⟨List.toArray (32 :: X)⟩) w' := fun w' => by
          have := add_run ([32]) (X) (by (try simp only [List.length_append, List.length_cons, List.length_nil]) <;> omega) (by (try simp only [List.length_append, List.length_cons, List.length_nil]) <;> omega) w'
          simpa using this
        have s5 : ∀ w', (Op.stringOp .add ⟨List.toArray (J ++ (WK ++ 32 :: nm))⟩ ⟨List.toArray (32 :: X)⟩).run Tryd.prog w' = .ok (.string ⟨List.toArray (J ++ (WK ++ 32 :: (nm ++ 32 :: X)))⟩) w' := fun w' => by
          have := add_run (J ++ (WK ++ 32 :: nm)) (32 :: X) (by (try simp only [List.length_append, List.length_cons, List.length_nil]) <;> omega) (by (try simp only [List.length_append, List.length_cons, List.length_nil]) <;> omega) w'
          simpa using this
        have s6 : ∀ w', (Op.stringOp .add ⟨List.toArray ([32])⟩ ⟨List.toArray (L)⟩).run Tryd.prog w' = .ok (.string ⟨List.toArray (32 :: L)⟩) w' := fun w' => by
          have := add_run ([32]) (L) (by (try simp only [List.length_append, List.length_cons, List.length_nil]) <;> omega) (by (try simp only [List.length_append, List.length_cons, List.length_nil]) <;> omega) w'
          simpa using this
        have s7 : ∀ w', (Op.stringOp .add ⟨List.toArray (J ++ (WK ++ 32 :: (nm ++ 32 :: X)))⟩ ⟨List.toArray (32 :: L)⟩).run Tryd.prog w' = .ok (.string ⟨List.toArray (J ++ (WK ++ 32 :: (nm ++ 32 :: (X ++ 32 :: L))))⟩) w' := fun w' => by
          have := add_run (J ++ (WK ++ 32 :: (nm ++ 32 :: X))) (32 :: L) (by (try simp only [List.length_append, List.length_cons, List.length_nil]) <;> omega) (by (try simp only [List.length_append, List.length_cons, List.length_nil]) <;> omega) w'
          simpa using this
        have s8 : ∀ w', (Op.stringOp .add ⟨List.toArray (J ++ (WK ++ 32 :: (nm ++ 32 :: (X ++ 32 :: L))))⟩ ⟨List.toArray ([10])⟩).run Tryd.prog w' = .ok (.string ⟨List.toArray (J ++ (WK ++ 32 :: (nm ++ 32 :: (X ++ 32 :: (L ++ [10])))))⟩) w' := fun w' => by
          have := add_run (J ++ (WK ++ 32 :: (nm ++ 32 :: (X ++ 32 :: L)))) ([10]) (by (try simp only [List.length_append, List.length_cons, List.length_nil]) <;> omega) (by (try simp only [List.length_append, List.length_cons, List.length_nil]) <;> omega) w'
          simpa using this
        clear HHD HTL lX lL hL hbs hb3 HH'
        go_wp2_with (first | (go_at_call 41; refine (HIB.out _).mono ?_; rintro e w5 ⟨rfl, rfl⟩) | (go_at_call 60; refine (HLW.out _ (HB0.out.trans (HBW6.out.mono HB0.out.size))).mono ?_; rintro e w5 ⟨rfl, rfl⟩))
        rw [← HH.out]
        clear HH
        have HDW := hide (HB0.out.trans (HBW6.out.mono HB0.out.size))
        go_wp2_with fail
        go_loopw [4, 9] (fun v i wr => ∃ (a : Nat) (R : List UInt8), a ≤ rn ∧ i = .int .i64 (a : Int) ∧ v = .string ⟨R.toArray⟩ ∧ Hid (R = (J ++ HT) ++ (rs.take a).flatMap ruleT) ∧ Hid (Below w6.heap.size w6 wr)) (fun _ i _ => rn - (intOf i).toNat)
        case atStart => exact ⟨0, J ++ HT, Nat.zero_le _, rfl, rfl, hide (by simp), hide (Below.refl _ _)⟩
        case round =>
          obtain ⟨a, R, ha, rfl, rfl, HR, HBI⟩ := hrel
          have hRl0 := flat_len ruleT 299 (rs.take a) (fun x _ => ruleT_len x)
          have hRl : R.length ≤ 40000 := by
            rw [HR.out, List.length_append, List.length_append]
            rw [List.length_take] at hRl0
            omega
          have hbW : Below W.heap.size W wr := HDW.out.trans (HBI.out.mono HDW.out.size)
          obtain ⟨c0, c1, c2, c3, c4, c5, c6⟩ := cells7f ((HBI.out.block N9 (heap_lt HX6.out)).trans HX6.out)
          clear c0 c1 c2 c3 c4
          by_cases hlt2 : a < rn
          case pos =>
            obtain ⟨r, hr⟩ : ∃ r, rs[a]? = some r := ⟨_, List.getElem?_eq_getElem (by omega)⟩
            have hrs := HDA.out.rs
            simp only at hrs
            have hmo : r.m.ok := hrs.okAt hr
            obtain ⟨b3, o3, rfl, hb3, hg3⟩ := hrs.2.2 (by omega)
            obtain ⟨q0, q1, q2, q3, q4⟩ := (hg3 a r hr).below hbW hb3
            clear hg3 hbW hrs
            obtain ⟨pm, m⟩ := r
            simp only at hmo q0 q1 q2 q3 q4
            cases pm
            · have HM := hide (fun w => matchText_walk m hmo w)
              have lM := matchT_len m
              have HRT := hide (show ruleT ⟨false, m⟩ = [100, 101, 110, 121, 32] ++ (matchT m ++ [10]) from rfl)
              have HTK := hide (flat_take ruleT hr)
              obtain ⟨M, hM⟩ : ∃ M, matchT m = M := ⟨_, rfl⟩
              rw [hM] at HM lM HRT
              have HJ3 := hide (show R ++ ([100, 101, 110, 121, 32] ++ (M ++ [10])) = (J ++ HT) ++ (rs.take (a + 1)).flatMap ruleT by rw [HTK.out, HR.out, HRT.out, List.append_assoc])
              obtain ⟨ma, mb, mc, md⟩ := m
              simp only at HM
              clear hM HTK HRT HR hr hmo hRl0
              have a1 : ∀ w', (Op.stringOp .add ⟨List.toArray ([100, 101, 110, 121, 32])⟩ ⟨List.toArray (M)⟩).run Tryd.prog w' = .ok (.string ⟨List.toArray (100 :: 101 :: 110 :: 121 :: 32 :: M)⟩) w' := fun w' => by
                have := add_run ([100, 101, 110, 121, 32]) (M) (by (try simp only [List.length_append, List.length_cons, List.length_nil]) <;> omega) (by (try simp only [List.length_append, List.length_cons, List.length_nil]) <;> omega) w'
                simpa using this
              have a2 : ∀ w', (Op.stringOp .add ⟨List.toArray (100 :: 101 :: 110 :: 121 :: 32 :: M)⟩ ⟨List.toArray ([10])⟩).run Tryd.prog w' = .ok (.string ⟨List.toArray (100 :: 101 :: 110 :: 121 :: 32 :: (M ++ [10]))⟩) w' := fun w' => by
                have := add_run (100 :: 101 :: 110 :: 121 :: 32 :: M) ([10]) (by (try simp only [List.length_append, List.length_cons, List.length_nil]) <;> omega) (by (try simp only [List.length_append, List.length_cons, List.length_nil]) <;> omega) w'
                simpa using this
              have a3 : ∀ w', (Op.stringOp .add ⟨List.toArray (R)⟩ ⟨List.toArray (100 :: 101 :: 110 :: 121 :: 32 :: (M ++ [10]))⟩).run Tryd.prog w' = .ok (.string ⟨List.toArray (R ++ 100 :: 101 :: 110 :: 121 :: 32 :: (M ++ [10]))⟩) w' := fun w' => by
                have := add_run (R) (100 :: 101 :: 110 :: 121 :: 32 :: (M ++ [10])) (by (try simp only [List.length_append, List.length_cons, List.length_nil]) <;> omega) (by (try simp only [List.length_append, List.length_cons, List.length_nil]) <;> omega) w'
                simpa using this
              clear hRl lM
              go_wp2_with fail
              refine (HM.out _).mono ?_
              rintro e w8 ⟨rfl, hb8⟩
              have HB8 := hide (HBI.out.trans (hb8.mono HBI.out.size))
              clear hb8 HBI q0 q1 q2 q3 q4 HM
              go_wp2_with fail
              go_roundw
              case rel => exact ⟨a + 1, _, by omega, by go_num, rfl, by simpa using HJ3, HB8⟩
              case measure => simp [intOf]; omega
            · have HM := hide (fun w => matchText_walk m hmo w)
              have lM := matchT_len m
              have HRT := hide (show ruleT ⟨true, m⟩ = [112, 101, 114, 109, 105, 116, 32] ++ (matchT m ++ [10]) from rfl)
              have HTK := hide (flat_take ruleT hr)
              obtain ⟨M, hM⟩ : ∃ M, matchT m = M := ⟨_, rfl⟩
              rw [hM] at HM lM HRT
              have HJ3 := hide (show R ++ ([112, 101, 114, 109, 105, 116, 32] ++ (M ++ [10])) = (J ++ HT) ++ (rs.take (a + 1)).flatMap ruleT by rw [HTK.out, HR.out, HRT.out, List.append_assoc])
              obtain ⟨ma, mb, mc, md⟩ := m
              simp only at HM
              clear hM HTK HRT HR hr hmo hRl0
              have a1 : ∀ w', (Op.stringOp .add ⟨List.toArray ([112, 101, 114, 109, 105, 116, 32])⟩ ⟨List.toArray (M)⟩).run Tryd.prog w' = .ok (.string ⟨List.toArray (112 :: 101 :: 114 :: 109 :: 105 :: 116 :: 32 :: M)⟩) w' := fun w' => by
                have := add_run ([112, 101, 114, 109, 105, 116, 32]) (M) (by (try simp only [List.length_append, List.length_cons, List.length_nil]) <;> omega) (by (try simp only [List.length_append, List.length_cons, List.length_nil]) <;> omega) w'
                simpa using this
              have a2 : ∀ w', (Op.stringOp .add ⟨List.toArray (112 :: 101 :: 114 :: 109 :: 105 :: 116 :: 32 :: M)⟩ ⟨List.toArray ([10])⟩).run Tryd.prog w' = .ok (.string ⟨List.toArray (112 :: 101 :: 114 :: 109 :: 105 :: 116 :: 32 :: (M ++ [10]))⟩) w' := fun w' => by
                have := add_run (112 :: 101 :: 114 :: 109 :: 105 :: 116 :: 32 :: M) ([10]) (by (try simp only [List.length_append, List.length_cons, List.length_nil]) <;> omega) (by (try simp only [List.length_append, List.length_cons, List.length_nil]) <;> omega) w'
                simpa using this
              have a3 : ∀ w', (Op.stringOp .add ⟨List.toArray (R)⟩ ⟨List.toArray (112 :: 101 :: 114 :: 109 :: 105 :: 116 :: 32 :: (M ++ [10]))⟩).run Tryd.prog w' = .ok (.string ⟨List.toArray (R ++ 112 :: 101 :: 114 :: 109 :: 105 :: 116 :: 32 :: (M ++ [10]))⟩) w' := fun w' => by
                have := add_run (R) (112 :: 101 :: 114 :: 109 :: 105 :: 116 :: 32 :: (M ++ [10])) (by (try simp only [List.length_append, List.length_cons, List.length_nil]) <;> omega) (by (try simp only [List.length_append, List.length_cons, List.length_nil]) <;> omega) w'
                simpa using this
              clear hRl lM
              go_wp2_with fail
              refine (HM.out _).mono ?_
              rintro e w8 ⟨rfl, hb8⟩
              have HB8 := hide (HBI.out.trans (hb8.mono HBI.out.size))
              clear hb8 HBI q0 q1 q2 q3 q4 HM
              go_wp2_with fail
              go_roundw
              case rel => exact ⟨a + 1, _, by omega, by go_num, rfl, by simpa using HJ3, HB8⟩
              case measure => simp [intOf]; omega
          case neg =>
            obtain rfl : a = rn := by omega
            have hall : rs.take a = rs := List.take_of_length_le (by omega)
            rw [hall] at HR
            have HXR := hide ((HBI.out.block N9 (heap_lt HX6.out)).trans HX6.out)
            have HBR := hide hbW
            have HBI1 := HBI
            have hRlf : R.length ≤ 40000 := hRl
            obtain ⟨w7, hw7⟩ : ∃ w, w = wr := ⟨_, rfl⟩
            subst hw7
            clear hRl0 hbW HBI hall c6 hRl
            go_wp2_with fail
            go_loopw [4, 11] (fun v i wf => ∃ (b : Nat) (L : List UInt8), b ≤ tn ∧ i = .int .i64 (b : Int) ∧ v = .string ⟨L.toArray⟩ ∧ Hid (L = R ++ (ts.take b).flatMap routeT) ∧ Hid (Below w7.heap.size w7 wf)) (fun _ i _ => tn - (intOf i).toNat)
            case atStart => exact ⟨0, R, Nat.zero_le _, rfl, rfl, hide (by simp), hide (Below.refl _ _)⟩
            case round =>
              obtain ⟨b, L, hb, rfl, rfl, HL, HBF⟩ := hrel
              have hLl : L.length ≤ 50000 := by
                have h15 := flat_len routeT 15 (ts.take b) (fun x hx => by
                  have := HTO.out x (List.mem_of_mem_take hx)
                  exact routeT_len this.1.2 this.2.1.2 this.2.2.2)
                rw [HL.out, List.length_append]
                rw [List.length_take] at h15
                omega
              have hbF : Below W.heap.size W wr := HBR.out.trans (HBF.out.mono HBR.out.size)
              obtain ⟨c0, c1, c2, c3, c4, c5, c6⟩ := cells7f ((HBF.out.block N9 (heap_lt HXR.out)).trans HXR.out)
              clear c0 c1 c2 c3 c4 c5
              by_cases hlt3 : b < tn
              case pos =>
                obtain ⟨r, hr⟩ : ∃ r, ts[b]? = some r := ⟨_, List.getElem?_eq_getElem (by omega)⟩
                have hts := HDA.out.ts
                simp only at hts
                have hrr := HTO.out r (List.mem_of_getElem? hr)
                obtain ⟨b3, o3, rfl, hb3, hg3⟩ := hts.2 (by omega)
                have q0 : wr.cell? ⟨b3, o3 + b * 3, none⟩ = some (.int .i64 r.v) := (hbF.cell (p := ⟨b3, o3 + b * 3, none⟩) hb3).trans (hg3 b r hr 0 _ rfl)
                have q1 : wr.cell? ⟨b3, o3 + b * 3 + 1, none⟩ = some (.int .i64 r.b) := (hbF.cell (p := ⟨b3, o3 + b * 3 + 1, none⟩) hb3).trans (hg3 b r hr 1 _ rfl)
                have q2 : wr.cell? ⟨b3, o3 + b * 3 + 2, none⟩ = some (.int .i64 r.p) := (hbF.cell (p := ⟨b3, o3 + b * 3 + 2, none⟩) hb3).trans (hg3 b r hr 2 _ rfl)
                clear hg3 hbF hts
                have HRT := hide (show routeT r = [114, 111, 117, 116, 101, 32] ++ (Lib.decDigits r.v.toNat ++ 47 :: (Lib.decDigits r.b.toNat ++ 32 :: (Lib.decDigits r.p.toNat ++ [10]))) from rfl)
                have HTK := hide (flat_take routeT hr)
                obtain ⟨rv, rb, rp⟩ := r
                simp only at q0 q1 q2 hrr HRT
                have I1 := hide (fun w => show Calls Tryd.prog 41 #[.int .i64 rv] w (fun e w' => e = .returned (.string ⟨(Lib.decDigits (rv).toNat).toArray⟩) ∧ w' = w) from by
                  have h := Tryd.strconv_Itoa_small (rv).toNat (by have := hrr.1; omega) w
                  rw [show (((rv).toNat : Nat) : Int) = rv by have := hrr.1; omega] at h
                  exact h)
                have I2 := hide (fun w => show Calls Tryd.prog 41 #[.int .i64 rb] w (fun e w' => e = .returned (.string ⟨(Lib.decDigits (rb).toNat).toArray⟩) ∧ w' = w) from by
                  have h := Tryd.strconv_Itoa_small (rb).toNat (by have := hrr.2.1; omega) w
                  rw [show (((rb).toNat : Nat) : Int) = rb by have := hrr.2.1; omega] at h
                  exact h)
                have I3 := hide (fun w => show Calls Tryd.prog 41 #[.int .i64 rp] w (fun e w' => e = .returned (.string ⟨(Lib.decDigits (rp).toNat).toArray⟩) ∧ w' = w) from by
                  have h := Tryd.strconv_Itoa_small (rp).toNat (by have := hrr.2.2; omega) w
                  rw [show (((rp).toNat : Nat) : Int) = rp by have := hrr.2.2; omega] at h
                  exact h)
                have l1 := dec_len2 (show rv.toNat < 100 by omega)
                have l2 := dec_len2 (show rb.toNat < 100 by omega)
                have l3 := dec_len2 (show rp.toNat < 100 by omega)
                generalize Lib.decDigits rv.toNat = X1 at *
                generalize Lib.decDigits rb.toNat = X2 at *
                generalize Lib.decDigits rp.toNat = X3 at *
                have HL2 := hide (show L ++ ([114, 111, 117, 116, 101, 32] ++ (X1 ++ 47 :: (X2 ++ 32 :: (X3 ++ [10])))) = R ++ (ts.take (b + 1)).flatMap routeT by rw [HTK.out, HL.out, HRT.out, List.append_assoc])
                clear HTK HRT HL hr hrr
                have r1 : ∀ w', (Op.stringOp .add ⟨List.toArray ([114, 111, 117, 116, 101, 32])⟩ ⟨List.toArray (X1)⟩).run Tryd.prog w' = .ok (.string ⟨List.toArray (114 :: 111 :: 117 :: 116 :: 101 :: 32 :: X1)⟩) w' := fun w' => by
                  have := add_run ([114, 111, 117, 116, 101, 32]) (X1) (by (try simp only [List.length_append, List.length_cons, List.length_nil]) <;> omega) (by (try simp only [List.length_append, List.length_cons, List.length_nil]) <;> omega) w'
                  simpa using this
                have r2 : ∀ w', (Op.stringOp .add ⟨List.toArray (114 :: 111 :: 117 :: 116 :: 101 :: 32 :: X1)⟩ ⟨List.toArray ([47])⟩).run Tryd.prog w' = .ok (.string ⟨List.toArray (114 :: 111 :: 117 :: 116 :: 101 :: 32 :: (X1 ++ [47]))⟩) w' := fun w' => by
                  have := add_run (114 :: 111 :: 117 :: 116 :: 101 :: 32 :: X1) ([47]) (by (try simp only [List.length_append, List.length_cons, List.length_nil]) <;> omega) (by (try simp only [List.length_append, List.length_cons, List.length_nil]) <;> omega) w'
                  simpa using this
                have r3 : ∀ w', (Op.stringOp .add ⟨List.toArray (114 :: 111 :: 117 :: 116 :: 101 :: 32 :: (X1 ++ [47]))⟩ ⟨List.toArray (X2)⟩).run Tryd.prog w' = .ok (.string ⟨List.toArray (114 :: 111 :: 117 :: 116 :: 101 :: 32 :: (X1 ++ 47 :: X2))⟩) w' := fun w' => by
                  have := add_run (114 :: 111 :: 117 :: 116 :: 101 :: 32 :: (X1 ++ [47])) (X2) (by (try simp only [List.length_append, List.length_cons, List.length_nil]) <;> omega) (by (try simp only [List.length_append, List.length_cons, List.length_nil]) <;> omega) w'
                  simpa using this
                have r4 : ∀ w', (Op.stringOp .add ⟨List.toArray (114 :: 111 :: 117 :: 116 :: 101 :: 32 :: (X1 ++ 47 :: X2))⟩ ⟨List.toArray ([32])⟩).run Tryd.prog w' = .ok (.string ⟨List.toArray (114 :: 111 :: 117 :: 116 :: 101 :: 32 :: (X1 ++ 47 :: (X2 ++ [32])))⟩) w' := fun w' => by
                  have := add_run (114 :: 111 :: 117 :: 116 :: 101 :: 32 :: (X1 ++ 47 :: X2)) ([32]) (by (try simp only [List.length_append, List.length_cons, List.length_nil]) <;> omega) (by (try simp only [List.length_append, List.length_cons, List.length_nil]) <;> omega) w'
                  simpa using this
                have r5 : ∀ w', (Op.stringOp .add ⟨List.toArray (114 :: 111 :: 117 :: 116 :: 101 :: 32 :: (X1 ++ 47 :: (X2 ++ [32])))⟩ ⟨List.toArray (X3)⟩).run Tryd.prog w' = .ok (.string ⟨List.toArray (114 :: 111 :: 117 :: 116 :: 101 :: 32 :: (X1 ++ 47 :: (X2 ++ 32 :: X3)))⟩) w' := fun w' => by
                  have := add_run (114 :: 111 :: 117 :: 116 :: 101 :: 32 :: (X1 ++ 47 :: (X2 ++ [32]))) (X3) (by (try simp only [List.length_append, List.length_cons, List.length_nil]) <;> omega) (by (try simp only [List.length_append, List.length_cons, List.length_nil]) <;> omega) w'
                  simpa using this
                have r6 : ∀ w', (Op.stringOp .add ⟨List.toArray (114 :: 111 :: 117 :: 116 :: 101 :: 32 :: (X1 ++ 47 :: (X2 ++ 32 :: X3)))⟩ ⟨List.toArray ([10])⟩).run Tryd.prog w' = .ok (.string ⟨List.toArray (114 :: 111 :: 117 :: 116 :: 101 :: 32 :: (X1 ++ 47 :: (X2 ++ 32 :: (X3 ++ [10]))))⟩) w' := fun w' => by
                  have := add_run (114 :: 111 :: 117 :: 116 :: 101 :: 32 :: (X1 ++ 47 :: (X2 ++ 32 :: X3))) ([10]) (by (try simp only [List.length_append, List.length_cons, List.length_nil]) <;> omega) (by (try simp only [List.length_append, List.length_cons, List.length_nil]) <;> omega) w'
                  simpa using this
                have r7 : ∀ w', (Op.stringOp .add ⟨List.toArray (L)⟩ ⟨List.toArray (114 :: 111 :: 117 :: 116 :: 101 :: 32 :: (X1 ++ 47 :: (X2 ++ 32 :: (X3 ++ [10]))))⟩).run Tryd.prog w' = .ok (.string ⟨List.toArray (L ++ 114 :: 111 :: 117 :: 116 :: 101 :: 32 :: (X1 ++ 47 :: (X2 ++ 32 :: (X3 ++ [10]))))⟩) w' := fun w' => by
                  have := add_run (L) (114 :: 111 :: 117 :: 116 :: 101 :: 32 :: (X1 ++ 47 :: (X2 ++ 32 :: (X3 ++ [10])))) (by (try simp only [List.length_append, List.length_cons, List.length_nil]) <;> omega) (by (try simp only [List.length_append, List.length_cons, List.length_nil]) <;> omega) w'
                  simpa using this
                have hwz := HBF.out.size
                have HB4 := hide (HBF.out.alloc hwz (.cells #[.int .i64 rv, .int .i64 rb, .int .i64 rp] 107))
                obtain ⟨y0, y1, y2⟩ := cells3f (heap_alloc_new wr (.cells #[.int .i64 rv, .int .i64 rb, .int .i64 rp] 107))
                clear HBF hLl l1 l2 l3
                go_wp2_with fail
                generalize wr.alloc (.cells #[.int .i64 rv, .int .i64 rb, .int .i64 rp] 107) = w4' at *
                go_quiet (first | (go_at_call_of 41 (Value.int .i64 rv); exact Calls.quiet_of_same (I1.out _)) | (go_at_call_of 41 (Value.int .i64 rb); exact Calls.quiet_of_same (I2.out _)) | (go_at_call_of 41 (Value.int .i64 rp); exact Calls.quiet_of_same (I3.out _)))
                have HB5 := hide (HB4.out.trans ((below_drewN w4' nq).mono HB4.out.size))
                go_wp2_with fail
                go_roundw
                case rel => exact ⟨b + 1, _, by omega, by go_num, rfl, by simpa using HL2, HB5⟩
                case measure => simp [intOf]; omega
              case neg =>
                obtain rfl : b = tn := by omega
                have hall : ts.take b = ts := List.take_of_length_le (by omega)
                rw [hall] at HL
                have HFIN := hide (show L = (ds.take (k + 1)).flatMap (fun d : DevV => devT d.dev) by rw [← HJ2.out, HL.out, HR.out]; simp)
                have HBZ := hide (HBW6.out.trans ((HBI1.out.trans (HBF.out.mono HBI1.out.size)).mono HBW6.out.size))
                clear HL HR HBF hall HJ2 hbF hLl
                go_wp2_with fail
                go_roundw
                case rel => exact ⟨k + 1, L, hlt, by go_num, rfl, HFIN, HBZ⟩
                case measure => exact meas_step dn k hlt
    case neg =>
      obtain rfl : k = dn := by omega
      have hall : ds.take k = ds := List.take_of_length_le (by omega)
      rw [hall] at HJ
      have HXR := hide hxR
      have HBR := hide hbW
      have hJl1 := hJl
      obtain ⟨w7, hw7⟩ : ∃ w, w = wr := ⟨_, rfl⟩
      subst hw7
      clear hJl hbW HBW hall hxR
      go_wp2_with fail
      go_loopw [4, 13] (fun v i wf => ∃ (n : Nat) (L : List UInt8), n ≤ ln ∧ i = .int .i64 (n : Int) ∧ v = .string ⟨L.toArray⟩ ∧ Hid (L = J ++ (ls.take n).flatMap (linkT DV)) ∧ Hid (Below w7.heap.size w7 wf)) (fun _ i _ => ln - (intOf i).toNat)
      case atStart => exact ⟨0, J, Nat.zero_le _, rfl, rfl, hide (by simp), hide (Below.refl _ _)⟩
      case round =>
        obtain ⟨n, L, hn, rfl, rfl, HL, HBW⟩ := hrel
        have hLl : L.length ≤ 31000 := by
          have h := flat_len (linkT DV) 30 (ls.take n) (fun x hx => HLT.out x (List.mem_of_mem_take hx))
          rw [HL.out, List.length_append]; rw [List.length_take] at h; omega
        have hbF : Below W.heap.size W wr := HBR.out.trans (HBW.out.mono HBR.out.size)
        have hxR := (HBW.out.block W.heap.size (heap_lt HXR.out)).trans HXR.out
        have n0 : wr.cell? ⟨W.heap.size, 0, none⟩ = some (.slice dA k dc) := by rw [cell_of_row _ _ _ _ _ _ hxR]; rfl
        have n1 : wr.cell? ⟨W.heap.size, 1, none⟩ = some (.slice lA ln lc) := by rw [cell_of_row _ _ _ _ _ _ hxR]; rfl
        by_cases hlt2 : n < ln
        case pos =>
          obtain ⟨l, hl⟩ : ∃ l, ls[n]? = some l := ⟨_, List.getElem?_eq_getElem (by omega)⟩
          have hls := HN.out.ls
          simp only at hls
          have hlk := HLO.out l (List.mem_of_getElem? hl)
          obtain ⟨bb, oo, rfl, hbb, hgg⟩ := hls.2 (by omega)
          have tr : ∀ o v, W.cell? ⟨bb, o, none⟩ = some v → wr.cell? ⟨bb, o, none⟩ = some v := fun o v h => (hbF.cell (p := ⟨bb, o, none⟩) hbb).trans h
          have q0 : wr.cell? ⟨bb, oo + n * 4, none⟩ = some (.int .i64 l.a) := tr _ _ (hgg n l hl 0 _ rfl)
          have q1 := tr _ _ (hgg n l hl 1 _ rfl)
          have q2 := tr _ _ (hgg n l hl 2 _ rfl)
          have q3 := tr _ _ (hgg n l hl 3 _ rfl)
          have hdl2 := HDL.out
          have hka := hlk.a
          have hkb := hlk.b
          have hkp := hlk.p
          have hkq := hlk.q
          -- the ends' names
          have hds := HN.out.ds
          simp only at hds
          obtain ⟨ia, hia⟩ : ∃ i : Nat, l.a = i := ⟨l.a.toNat, by omega⟩
          obtain ⟨ib, hib⟩ : ∃ i : Nat, l.b = i := ⟨l.b.toNat, by omega⟩
          have hial : ia < k := by omega
          have hibl : ib < k := by omega
          obtain ⟨da, hda⟩ : ∃ d, ds[ia]? = some d := ⟨_, List.getElem?_eq_getElem (by omega)⟩
          obtain ⟨db, hdb⟩ : ∃ d, ds[ib]? = some d := ⟨_, List.getElem?_eq_getElem (by omega)⟩
          obtain ⟨b2, o2, rfl, hb2, hg2⟩ := hds.2 (by omega)
          obtain ⟨A, hA⟩ : ∃ A : List UInt8, da.name = ⟨A.toArray⟩ := ⟨_, str_list _⟩
          obtain ⟨Bn, hBn⟩ : ∃ A : List UInt8, db.name = ⟨A.toArray⟩ := ⟨_, str_list _⟩
          have na : wr.cell? ⟨b2, o2 + ia * 7, none⟩ = some (.string ⟨A.toArray⟩) := by rw [← hA]; exact (hbF.cell (p := ⟨b2, o2 + ia * 7, none⟩) hb2).trans (hg2 ia da hda 0 _ rfl)
          have nb : wr.cell? ⟨b2, o2 + ib * 7, none⟩ = some (.string ⟨Bn.toArray⟩) := by rw [← hBn]; exact (hbF.cell (p := ⟨b2, o2 + ib * 7, none⟩) hb2).trans (hg2 ib db hdb 0 _ rfl)
          have hAn : nameAt DV l.a = A := by rw [hia, HGT.out ia da hda, hA]
          have hBm : nameAt DV l.b = Bn := by rw [hib, HGT.out ib db hdb, hBn]
          have hAl : A.length ≤ 8 := by have h := (HDO.out da (List.mem_of_getElem? hda)).nm; have e : da.dev.name = da.name := rfl; have e2 : (⟨A.toArray⟩ : ByteArray).size = A.length := List.size_toArray; rw [e, hA, e2] at h; exact h
          have hBl : Bn.length ≤ 8 := by have h := (HDO.out db (List.mem_of_getElem? hdb)).nm; have e : db.dev.name = db.name := rfl; have e2 : (⟨Bn.toArray⟩ : ByteArray).size = Bn.length := List.size_toArray; rw [e, hBn, e2] at h; exact h
          have HRT := hide (show linkT DV l = [108, 105, 110, 107, 32] ++ (nameAt DV l.a ++ 32 :: (Lib.decDigits l.p.toNat ++ 32 :: (nameAt DV l.b ++ 32 :: (Lib.decDigits l.q.toNat ++ [10])))) from rfl)
          rw [hAn, hBm] at HRT
          have HTK := hide (flat_take (linkT DV) hl)
          have hWlt := heap_lt hxR
          have hb2W : b2 < wr.heap.size := Nat.lt_of_lt_of_le hb2 hbF.size
          obtain ⟨la, lp, lb, lq⟩ := l
          simp only at hia hib hkp hkq HRT q0 q1 q2 q3
          subst hia hib
          have I1 := hide (fun w => show Calls Tryd.prog 41 #[.int .i64 lp] w (fun e w' => e = .returned (.string ⟨(Lib.decDigits (lp).toNat).toArray⟩) ∧ w' = w) from by
            have h := Tryd.strconv_Itoa_small (lp).toNat (by have := hkp; omega) w
            rw [show (((lp).toNat : Nat) : Int) = lp by have := hkp; omega] at h
            exact h)
          have I2 := hide (fun w => show Calls Tryd.prog 41 #[.int .i64 lq] w (fun e w' => e = .returned (.string ⟨(Lib.decDigits (lq).toNat).toArray⟩) ∧ w' = w) from by
            have h := Tryd.strconv_Itoa_small (lq).toNat (by have := hkq; omega) w
            rw [show (((lq).toNat : Nat) : Int) = lq by have := hkq; omega] at h
            exact h)
          have l1 := dec_len2 (show lp.toNat < 100 by omega)
          have l2 := dec_len2 (show lq.toNat < 100 by omega)
          generalize Lib.decDigits lp.toNat = X at *
          generalize Lib.decDigits lq.toNat = Y at *
          have HL2 := hide (show L ++ ([108, 105, 110, 107, 32] ++ (A ++ 32 :: (X ++ 32 :: (Bn ++ 32 :: (Y ++ [10]))))) = J ++ (ls.take (n + 1)).flatMap (linkT DV) by rw [HTK.out, HL.out, HRT.out, List.append_assoc])
          have hTl : ([108, 105, 110, 107, 32] ++ (A ++ 32 :: (X ++ 32 :: (Bn ++ 32 :: (Y ++ [10]))))).length ≤ 40 := by simp; omega
          have hial : ((ia : Nat) : Int) < (k : Int) := by omega
          have hibl : ((ib : Nat) : Int) < (k : Int) := by omega
          clear hgg tr hds hg2 HRT HTK hAn hBm hA hBn hl hlk hka hkb hda hdb HL hls hxR
          have e1 : ∀ w', (Op.stringOp .add ⟨List.toArray ([108, 105, 110, 107, 32])⟩ ⟨List.toArray (A)⟩).run Tryd.prog w' = .ok (.string ⟨List.toArray (108 :: 105 :: 110 :: 107 :: 32 :: A)⟩) w' := fun w' => by
            have := add_run ([108, 105, 110, 107, 32]) (A) (by (try simp only [List.length_append, List.length_cons, List.length_nil]) <;> omega) (by (try simp only [List.length_append, List.length_cons, List.length_nil]) <;> omega) w'
            simpa using this
          have e2 : ∀ w', (Op.stringOp .add ⟨List.toArray (108 :: 105 :: 110 :: 107 :: 32 :: A)⟩ ⟨List.toArray ([32])⟩).run Tryd.prog w' = .ok (.string ⟨List.toArray (108 :: 105 :: 110 :: 107 :: 32 :: (A ++ [32]))⟩) w' := fun w' => by
            have := add_run (108 :: 105 :: 110 :: 107 :: 32 :: A) ([32]) (by (try simp only [List.length_append, List.length_cons, List.length_nil]) <;> omega) (by (try simp only [List.length_append, List.length_cons, List.length_nil]) <;> omega) w'
            simpa using this
          have e3 : ∀ w', (Op.stringOp .add ⟨List.toArray (108 :: 105 :: 110 :: 107 :: 32 :: (A ++ [32]))⟩ ⟨List.toArray (X)⟩).run Tryd.prog w' = .ok (.string ⟨List.toArray (108 :: 105 :: 110 :: 107 :: 32 :: (A ++ 32 :: X))⟩) w' := fun w' => by
            have := add_run (108 :: 105 :: 110 :: 107 :: 32 :: (A ++ [32])) (X) (by (try simp only [List.length_append, List.length_cons, List.length_nil]) <;> omega) (by (try simp only [List.length_append, List.length_cons, List.length_nil]) <;> omega) w'
            simpa using this
          have e4 : ∀ w', (Op.stringOp .add ⟨List.toArray (108 :: 105 :: 110 :: 107 :: 32 :: (A ++ 32 :: X))⟩ ⟨List.toArray ([32])⟩).run Tryd.prog w' = .ok (.string ⟨List.toArray (108 :: 105 :: 110 :: 107 :: 32 :: (A ++ 32 :: (X ++ [32])))⟩) w' := fun w' => by
            have := add_run (108 :: 105 :: 110 :: 107 :: 32 :: (A ++ 32 :: X)) ([32]) (by (try simp only [List.length_append, List.length_cons, List.length_nil]) <;> omega) (by (try simp only [List.length_append, List.length_cons, List.length_nil]) <;> omega) w'
            simpa using this
          have e5 : ∀ w', (Op.stringOp .add ⟨List.toArray (108 :: 105 :: 110 :: 107 :: 32 :: (A ++ 32 :: (X ++ [32])))⟩ ⟨List.toArray (Bn)⟩).run Tryd.prog w' = .ok (.string ⟨List.toArray (108 :: 105 :: 110 :: 107 :: 32 :: (A ++ 32 :: (X ++ 32 :: Bn)))⟩) w' := fun w' => by
            have := add_run (108 :: 105 :: 110 :: 107 :: 32 :: (A ++ 32 :: (X ++ [32]))) (Bn) (by (try simp only [List.length_append, List.length_cons, List.length_nil]) <;> omega) (by (try simp only [List.length_append, List.length_cons, List.length_nil]) <;> omega) w'
            simpa using this
          have e6 : ∀ w', (Op.stringOp .add ⟨List.toArray (108 :: 105 :: 110 :: 107 :: 32 :: (A ++ 32 :: (X ++ 32 :: Bn)))⟩ ⟨List.toArray ([32])⟩).run Tryd.prog w' = .ok (.string ⟨List.toArray (108 :: 105 :: 110 :: 107 :: 32 :: (A ++ 32 :: (X ++ 32 :: (Bn ++ [32]))))⟩) w' := fun w' => by
            have := add_run (108 :: 105 :: 110 :: 107 :: 32 :: (A ++ 32 :: (X ++ 32 :: Bn))) ([32]) (by (try simp only [List.length_append, List.length_cons, List.length_nil]) <;> omega) (by (try simp only [List.length_append, List.length_cons, List.length_nil]) <;> omega) w'
            simpa using this
          have e7 : ∀ w', (Op.stringOp .add ⟨List.toArray (108 :: 105 :: 110 :: 107 :: 32 :: (A ++ 32 :: (X ++ 32 :: (Bn ++ [32]))))⟩ ⟨List.toArray (Y)⟩).run Tryd.prog w' = .ok (.string ⟨List.toArray (108 :: 105 :: 110 :: 107 :: 32 :: (A ++ 32 :: (X ++ 32 :: (Bn ++ 32 :: Y))))⟩) w' := fun w' => by
            have := add_run (108 :: 105 :: 110 :: 107 :: 32 :: (A ++ 32 :: (X ++ 32 :: (Bn ++ [32])))) (Y) (by (try simp only [List.length_append, List.length_cons, List.length_nil]) <;> omega) (by (try simp only [List.length_append, List.length_cons, List.length_nil]) <;> omega) w'
            simpa using this
          have e8 : ∀ w', (Op.stringOp .add ⟨List.toArray (108 :: 105 :: 110 :: 107 :: 32 :: (A ++ 32 :: (X ++ 32 :: (Bn ++ 32 :: Y))))⟩ ⟨List.toArray ([10])⟩).run Tryd.prog w' = .ok (.string ⟨List.toArray (108 :: 105 :: 110 :: 107 :: 32 :: (A ++ 32 :: (X ++ 32 :: (Bn ++ 32 :: (Y ++ [10])))))⟩) w' := fun w' => by
            have := add_run (108 :: 105 :: 110 :: 107 :: 32 :: (A ++ 32 :: (X ++ 32 :: (Bn ++ 32 :: Y)))) ([10]) (by (try simp only [List.length_append, List.length_cons, List.length_nil]) <;> omega) (by (try simp only [List.length_append, List.length_cons, List.length_nil]) <;> omega) w'
            simpa using this
          have e9 : ∀ w', (Op.stringOp .add ⟨List.toArray (L)⟩ ⟨List.toArray (108 :: 105 :: 110 :: 107 :: 32 :: (A ++ 32 :: (X ++ 32 :: (Bn ++ 32 :: (Y ++ [10])))))⟩).run Tryd.prog w' = .ok (.string ⟨List.toArray (L ++ 108 :: 105 :: 110 :: 107 :: 32 :: (A ++ 32 :: (X ++ 32 :: (Bn ++ 32 :: (Y ++ [10])))))⟩) w' := fun w' => by
            have := add_run (L) (108 :: 105 :: 110 :: 107 :: 32 :: (A ++ 32 :: (X ++ 32 :: (Bn ++ 32 :: (Y ++ [10]))))) (by (try simp only [List.length_append, List.length_cons, List.length_nil]) <;> omega) (by (try simp only [List.length_append, List.length_cons, List.length_nil]) <;> omega) w'
            simpa using this
          have ho := (Below.refl wr.heap.size wr).alloc (Nat.le_refl _) (.cells #[.int .i64 (ia : Int), .int .i64 lp, .int .i64 (ib : Int), .int .i64 lq] 100)
          obtain ⟨y0, y1, y2, y3, _⟩ := cells4f (heap_alloc_new wr (.cells #[.int .i64 (ia : Int), .int .i64 lp, .int .i64 (ib : Int), .int .i64 lq] 100))
          have m0 := (ho.cell (p := ⟨W.heap.size, 0, none⟩) hWlt).trans n0
          have na1 := (ho.cell (p := ⟨b2, o2 + ia * 7, none⟩) hb2W).trans na
          have nb1 := (ho.cell (p := ⟨b2, o2 + ib * 7, none⟩) hb2W).trans nb
          have HBW4 := hide (HBW.out.trans (ho.mono HBW.out.size))
          clear ho HBW hbF l1 l2 hTl hLl hAl hBl na nb
          go_wp2_with fail
          generalize hw4 : wr.alloc (.cells #[.int .i64 (ia : Int), .int .i64 lp, .int .i64 (ib : Int), .int .i64 lq] 100) = w4 at *
          clear hw4 n0 n1
          go_quiet (first | (go_at_call_of 41 (Value.int .i64 lp); exact Calls.quiet_of_same (I1.out _)) | (go_at_call_of 41 (Value.int .i64 lq); exact Calls.quiet_of_same (I2.out _)))
          have HBW7 := hide (HBW4.out.trans ((below_drewN w4 nq).mono HBW4.out.size))
          go_wp2_with fail
          go_roundw
          case rel => exact ⟨n + 1, _, hlt2, by go_num, rfl, by simpa using HL2, HBW7⟩
          case measure => exact meas_step ln n hlt2
        case neg =>
          obtain rfl : n = ln := by omega
          have hall : ls.take n = ls := List.take_of_length_le (by omega)
          rw [hall] at HL
          have HFIN := hide (show L = NT by rw [HL.out, HJ.out, HNT.out])
          have HBZ := hide hbF
          clear HL HJ HNT hall hbF hxR
          go_wp2
          go_ret
          exact ⟨by rw [← HFIN.out]; rfl, HBZ.out⟩
end Go.Proofs.YtohbafigjpoijaaDoor
