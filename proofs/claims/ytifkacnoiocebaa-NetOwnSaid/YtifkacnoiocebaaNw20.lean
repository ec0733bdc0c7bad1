/- A part of the proof: WorldD, WorldE, WorldR. -/
import Derived.Test.YtifkacnoiocebaaNw19
set_option linter.unusedVariables false
set_option linter.unusedSimpArgs false
set_option maxRecDepth 100000
set_option maxHeartbeats 16000000
namespace Go.Proofs.Ytifkacnoiocebaa
open Go.Maps Go.RowKit
theorem right_ok {p : P4} (h : rightB p = true) : p.ok := by
  obtain ⟨h1, h2, h3, h4⟩ := right_parts h
  simp only [inR, Bool.and_eq_true, decide_eq_true_eq] at h1 h2 h3 h4
  exact ⟨by unfold i64ok; omega, by unfold i64ok; omega, by unfold i64ok; omega, by unfold i64ok; omega⟩
theorem ports_le (k : Int) : portsF k ≤ 4 := by
  unfold portsF
  repeat' split
  all_goals omega
theorem place_ok {ds : List Dev} {x : Pl} (hd : ds.length ≤ 10) (h : placeB ds x = true) : i64ok x.1 ∧ i64ok x.2 := by
  have q := placeB_iff.1 h
  have := ports_le (kindAt ds x.1)
  exact ⟨by unfold i64ok; omega, by unfold i64ok; omega⟩
theorem boxes2 {W W2 : World} {a1 a2 : Array Value} {t1 t2 : TypeId} (hG : (W.alloc (.cells a1 t1)).alloc (.cells a2 t2) = W2) : BX W [(W.heap.size + 1, a2), (W.heap.size, a1)] W2 ∧ W2.heap.size = W.heap.size + 2 := by
  have e := boxesV (B := W2.heap.size) [(a1, t1), (a2, t2)] W (W' := W2) (by rw [← hG]; exact Below.refl _ _)
  have hs : W2.heap.size = W.heap.size + 2 := by rw [← hG]; simp
  refine ⟨⟨e.2 (by omega), fun x hx => ?_⟩, hs⟩
  rcases List.mem_cons.1 hx with rfl | hx
  · exact ⟨e.1 1 _ _ rfl (by omega), by simp; omega⟩
  · obtain rfl := List.mem_singleton.1 hx
    exact ⟨e.1 0 _ _ rfl (by omega), by simp; omega⟩
theorem boxes1 {W W2 : World} {a1 : Array Value} {t1 : TypeId} (hG : W.alloc (.cells a1 t1) = W2) : BX W [(W.heap.size, a1)] W2 ∧ W2.heap.size = W.heap.size + 1 := by
  have e := boxesV (B := W2.heap.size) [(a1, t1)] W (W' := W2) (by rw [← hG]; exact Below.refl _ _)
  have hs : W2.heap.size = W.heap.size + 1 := by rw [← hG]; simp
  refine ⟨⟨e.2 (by omega), fun x hx => ?_⟩, hs⟩
  obtain rfl := List.mem_singleton.1 hx
  exact ⟨e.1 0 _ _ rfl (by omega), by simp; omega⟩
theorem below_alloc (w : World) (o : Obj) : Below w.heap.size w (w.alloc o) := (Below.refl _ _).alloc (Nat.le_refl _) o
theorem worldHas_walk {W0 W : World} {F : Nat → Prop} {g : Nat} {no : NetV} {gm : Nat} {nm : NetV} {f o b km : Nat} {A : Option Addr} {c : Nat} {Z : WldS} {k : Nat} (h : WorldAt W0 W F g no gm nm f o b km A c Z k) (y : ArrV) (hy : y.ok) :
    Calls Try.prog 15 #[.pointer (some ⟨g, 0, none⟩), .agg #[.int .i64 y.d, .int .i64 y.y], .agg #[.int .i64 y.p.src, .int .i64 y.p.dst, .int .i64 y.p.sport, .int .i64 y.p.dport]] W fun e W' => e = .returned (.bool (decide (y ∈ Z.S))) ∧ Below W.heap.size W W' := by
  have HW := hide h
  clear h
  obtain ⟨B, hB⟩ : ∃ B, decide (y ∈ Z.S) = B := ⟨_, rfl⟩
  rw [hB]
  go_enter Try.func15, Try.ntmps15
  go_wp2_with fail
  generalize hG : World.alloc (World.alloc W _) _ = W2
  have HX := hide (boxes2 hG).1
  clear hG
  refine wp_region_abs (by kernel_rfl) (by kernel_rfl) ?_
  intro T hT gt hg1 hgi
  have HGT := hide hg1
  have HGI := hide hgi
  clear hg1 hgi
  have k4 : ∀ t, (gt t).cell? ⟨g, 4, none⟩ = some (.map (some km)) := fun t => (HW.out.below (HX.out.below (HGT.out t)).bl).c4
  have x0 : ∀ t, (gt t).cell? ⟨W.heap.size, 0, none⟩ = some (.int .i64 y.d) := fun t => ((HX.out.below (HGT.out t)).get 1 rfl).1 0 _ rfl
  have x1 : ∀ t, (gt t).cell? ⟨W.heap.size, 1, none⟩ = some (.int .i64 y.y) := fun t => ((HX.out.below (HGT.out t)).get 1 rfl).1 1 _ rfl
  have z0 : ∀ t, (gt t).cell? ⟨W.heap.size + 1, 0, none⟩ = some (.int .i64 y.p.src) := fun t => ((HX.out.below (HGT.out t)).get 0 rfl).1 0 _ rfl
  have z1 : ∀ t, (gt t).cell? ⟨W.heap.size + 1, 1, none⟩ = some (.int .i64 y.p.dst) := fun t => ((HX.out.below (HGT.out t)).get 0 rfl).1 1 _ rfl
  have z2 : ∀ t, (gt t).cell? ⟨W.heap.size + 1, 2, none⟩ = some (.int .i64 y.p.sport) := fun t => ((HX.out.below (HGT.out t)).get 0 rfl).1 2 _ rfl
  have z3 : ∀ t, (gt t).cell? ⟨W.heap.size + 1, 3, none⟩ = some (.int .i64 y.p.dport) := fun t => ((HX.out.below (HGT.out t)).get 0 rfl).1 3 _ rfl
  have hlk : ∀ t, (Instr.lookup 76 (.map (some km)) (.agg #[.int .i64 y.d, .int .i64 y.y, .int .i64 y.p.src, .int .i64 y.p.dst, .int .i64 y.p.sport, .int .i64 y.p.dport]) false).run Try.prog (gt t) = .ok (.bool B) (gt t) := fun t => by rw [← hB]; exact (HW.out.below (HX.out.below (HGT.out t)).bl).look y hy
  repeat (go_big_quiet_step (fail))
  refine wpQuiet_nil ?_
  intro _ hw'
  obtain ⟨t, rfl⟩ := hw'
  have HB := hide (HX.out.below (HGT.out t)).bl
  generalize gt t = W3 at *
  clear k4 x0 x1 z0 z1 z2 z3 hlk HGT HGI
  go_wp2
  go_ret
  exact ⟨rfl, HB.out⟩
theorem seen_walk {W0 W : World} {F : Nat → Prop} {g : Nat} {no : NetV} {gm : Nat} {nm : NetV} {f o b km : Nat} {A : Option Addr} {c : Nat} {Z : WldS} {k : Nat} (h : WorldAt W0 W F g no gm nm f o b km A c Z k) (hk : k < 100000) :
    Calls Try.prog 11 #[.pointer (some ⟨g, 0, none⟩)] W fun e W' => ∃ A' c', e = .returned (.slice A' Z.S.length c') ∧ Z.S.length ≤ c' ∧ W'.ownsRow W.heap.size 47 6 (.slice A' Z.S.length c') Z.S.length (Z.S.flatMap ArrV.cells) ∧ Below W.heap.size W W' := by
  have HW := hide h
  have hlk := h.lk
  clear h
  have HCL := hide (cloneArr_walk Z.S A Z.S.length c W (by omega) (own_sl ArrV.len HW.out.own rfl))
  have c3 := HW.out.c3
  go_enter Try.func11, Try.ntmps11
  go_wp2_with fail
  refine HCL.out.mono ?_
  rintro e W2 ⟨v, rfl, hown, hb⟩
  have HO := hide hown
  have HB := hide hb
  clear hown hb c3 HCL
  obtain ⟨A', c', e1, hcc, _, _⟩ := SlAt.of_own ArrV.len HO.out rfl
  go_wp2
  go_ret
  subst e1
  exact ⟨A', c', rfl, hcc, HO.out, HB.out⟩
structure InjOk (ds : List Dev) (ls : List LinkV) : Prop where
  dl : ds.length ≤ 10
  ll : ls.length ≤ 15
  pl : ∀ (x z : Pl), peerF ls x = some z → i64ok z.1 ∧ i64ok z.2
theorem InjOk.of {ds : List Dev} {ls : List LinkV} (hE : netE ds ls = 0) : InjOk ds ls := ⟨(netE_ok hE).dl, (netE_ok hE).ll, fun x z h => place_ok (netE_ok hE).dl (peer_place hE h)⟩
theorem inject_walk {W0 W : World} {F : Nat → Prop} {g : Nat} {no : NetV} {gm : Nat} {nm : NetV} {f o b km : Nat} {A : Option Addr} {c : Nat} {Z : WldS} {k : Nat} (h : WorldAt W0 W F g no gm nm f o b km A c Z k) {ds : List Dev} {ls : List LinkV} (hds : no.devs = ds) (hls : no.ls = ls) (hE : InjOk ds ls) (i : Int) (p : P4) (hi : i64ok i) (hp : p.ok) (hl : Z.S.length + 1 ≤ k) (hk : k < 1000000) :
    Calls Try.prog 31 #[.pointer (some ⟨g, 0, none⟩), .int .i64 i, .agg #[.int .i64 p.src, .int .i64 p.dst, .int .i64 p.sport, .int .i64 p.dport]] W fun e W' => e = .returned (.int .i64 (injS ds ls Z.S i p).1) ∧ ∃ A' c' F', WorldAt W0 W' F' g no gm nm f o b km A' c' ⟨Z.M, (injS ds ls Z.S i p).2⟩ k ∧ Near F W.heap.size W W' ∧ ∀ j, F' j → F j ∨ W.heap.size ≤ j := by
  have HW := hide h
  have hdl := devs_len h.net
  have hdn : no.dn ≤ 10 := by rw [← hdl, hds]; exact hE.dl
  have hln : no.ln ≤ 9223372036854775807 := by have h1 := hE.ll; have := h.net.llen; rw [← hls] at h1; omega
  have hgl := (h.fo g h.fg).2
  clear h
  obtain ⟨R, hR⟩ : ∃ R, injS ds ls Z.S i p = R := ⟨_, rfl⟩
  rw [hR]
  have HR := hide hR
  clear hR
  have HD := hide hds
  have HL := hide hls
  have HE := hide hE
  have HDL := hide hdl
  clear hds hls hE hdl
  have hc0 := fun (o' : Obj) => (HW.out.below (below_alloc W o')).c0
  by_cases h1 : i < 0
  case pos =>
    have HS := hide (show R = (4, Z.S) from by rw [← HR.out]; exact injS_out (by simp only [inR, Bool.and_eq_false_iff, decide_eq_false_iff_not]; omega))
    go_enter Try.func31, Try.ntmps31
    go_wp2
    go_ret
    exact ⟨ret_i64 (by rw [HS.out]), A, c, F, by rw [HS.out]; exact HW.out.below (below_alloc W _), Near.of_below (below_alloc W _), fun j e => Or.inl e⟩
  by_cases h2 : (no.dn : Int) ≤ i
  case pos =>
    have HS := hide (show R = (4, Z.S) from by rw [← HR.out]; exact injS_out (by simp only [inR, Bool.and_eq_false_iff, decide_eq_false_iff_not]; rw [← HD.out, HDL.out]; omega))
    go_enter Try.func31, Try.ntmps31
    go_wp2
    go_ret
    exact ⟨ret_i64 (by rw [HS.out]), A, c, F, by rw [HS.out]; exact HW.out.below (below_alloc W _), Near.of_below (below_alloc W _), fun j e => Or.inl e⟩
  have hn := HW.out.net
  obtain ⟨j, rfl⟩ : ∃ j : Nat, i = (j : Int) := ⟨i.toNat, by omega⟩
  have hjl : j < no.ds.length := by have := hn.dlen; omega
  obtain ⟨r, hr⟩ : ∃ r, no.ds[j]? = some r := ⟨_, List.getElem?_eq_getElem hjl⟩
  obtain ⟨db, od, hdA, hdb0, hdb1⟩ := hn.ds.2 (by omega)
  clear hdb0 hdb1 hn
  have hdr : ds[(j : Int).toNat]? = some r.dev := by rw [← HD.out, NetV.devs, List.getElem?_map, Int.toNat_natCast, hr]; rfl
  have HI := hide (show injS ds ls Z.S (j : Int) p = injR ls Z.S (j : Int) p r.dev from injS_some (by simp only [inR, Bool.and_eq_true, decide_eq_true_eq]; rw [← HD.out, HDL.out]; omega) hdr)
  rw [HR.out] at HI
  clear hdr HR
  have HDO := hide (fun (w' : World) (hb : Below W.heap.size W w') => dev_get (b := db) (o := od) (w := w') (r := r) (k := j) (by have q := (HW.out.below hb).net.ds; rw [hdA] at q; exact q) hr)
  have k0 := fun (o' : Obj) => (by have q := (HW.out.below (below_alloc W o')).c0; rw [hdA] at q; exact q : (W.alloc o').cell? ⟨g, 0, none⟩ = some (.slice (some ⟨db, od, none⟩) no.dn no.dc))
  have d0 := fun (o' : Obj) => (HDO.out _ (below_alloc W o')).2.1
  have d1 := fun (o' : Obj) => (HDO.out _ (below_alloc W o')).2.2.1
  have d2 := fun (o' : Obj) => (HDO.out _ (below_alloc W o')).2.2.2.1
  have d3 := fun (o' : Obj) => (HDO.out _ (below_alloc W o')).2.2.2.2.1
  have d4 := fun (o' : Obj) => (HDO.out _ (below_alloc W o')).2.2.2.2.2.1
  have d5 := fun (o' : Obj) => (HDO.out _ (below_alloc W o')).2.2.2.2.2.2.1
  have d6 := fun (o' : Obj) => (HDO.out _ (below_alloc W o')).2.2.2.2.2.2.2
  clear hc0
  have i1 : (0 : Int) ≤ (j : Int) := by omega
  have i2 : (j : Int) < (no.dn : Int) := by omega
  by_cases h3 : r.kind ≠ 1
  case pos =>
    have HS := hide (show R = (1, Z.S) from by rw [HI.out]; exact injR_kind h3)
    have e3 : (r.kind != 1) = true := by simpa using h3
    go_enter Try.func31, Try.ntmps31
    go_wp2
    go_ret
    have hb : Below W.heap.size W ((W.alloc (.cells #[.int .i64 p.src, .int .i64 p.dst, .int .i64 p.sport, .int .i64 p.dport] 38)).alloc (.cells #[.string r.name, .int .i64 r.kind, .int .i64 r.addr, .int .u8 r.pool, .slice r.bA r.bn r.bc, .slice r.rA r.rn r.rc, .slice r.tA r.tn r.tc] 61)) := (below_alloc W _).trans ((below_alloc _ _).mono (by simp))
    exact ⟨ret_i64 (by rw [HS.out]), A, c, F, by rw [HS.out]; exact HW.out.below hb, Near.of_below hb, fun j e => Or.inl e⟩
  have e3 : (r.kind != 1) = false := by simpa using h3
  have HK1 := hide (Classical.not_not.1 h3)
  clear h3
  go_enter Try.func31, Try.ntmps31
  go_wp2_with fail
  generalize hG : World.alloc (World.alloc W _) _ = W2
  have HX2 := hide (boxes2 hG).1
  clear hG k0 d0 d1 d2 d3 d4 d5 d6 e3 HDO h1 h2
  refine (packetCheck_walk p W2).mono ?_
  rintro e W3 ⟨he, hb⟩
  have HX3 := hide (HX2.out.below hb)
  clear hb HX2
  by_cases h4 : rightB p = false
  case pos =>
    have HS := hide (show R = (1, Z.S) from by rw [HI.out]; exact injR_right HK1.out h4)
    rw [h4] at he
    obtain rfl : e = .returned (.int .i64 1) := he
    go_wp2
    go_ret
    exact ⟨ret_i64 (by rw [HS.out]), A, c, F, by rw [HS.out]; exact HW.out.below HX3.out.bl, Near.of_below HX3.out.bl, fun j e => Or.inl e⟩
  have h4' : rightB p = true := by simpa using h4
  rw [h4'] at he
  obtain rfl : e = .returned (.int .i64 0) := he
  have HK2 := hide h4'
  clear h4'
  clear h4
  have p0 := (HX3.out.get 1 rfl).1 0 _ rfl
  have a2 := (HX3.out.get 0 rfl).1 2 _ rfl
  by_cases h5 : p.src ≠ r.addr
  case pos =>
    have HS := hide (show R = (1, Z.S) from by rw [HI.out]; exact injR_src HK1.out HK2.out h5)
    have e5 : (p.src != r.addr) = true := by simpa using h5
    go_wp2
    go_ret
    exact ⟨ret_i64 (by rw [HS.out]), A, c, F, by rw [HS.out]; exact HW.out.below HX3.out.bl, Near.of_below HX3.out.bl, fun j e => Or.inl e⟩
  have e5 : (p.src != r.addr) = false := by simpa using h5
  have HK3 := hide (Classical.not_not.1 h5)
  clear h5
  have g0 := (HW.out.below HX3.out.bl).c0
  have g1 := (HW.out.below HX3.out.bl).c1
  have HPE := hide (peer_any (some ⟨db, od, none⟩) no.dn no.dc no.lA no.ln no.lc no.ls (j : Int) 0 W3 hln (HW.out.below HX3.out.bl).net.ls)
  rw [HL.out] at HPE
  go_wp2_with fail
  refine HPE.out.mono ?_
  clear HPE p0 a2 g0 g1 e5
  rintro e W4 ⟨rfl, hb⟩
  have HX4 := hide (HX3.out.below hb)
  clear hb HX3
  cases hpe : peerF ls ((j : Int), 0) with
  | none =>
    have HS := hide (show R = (7, Z.S) from by rw [HI.out]; exact injR_none HK1.out HK2.out HK3.out hpe)
    simp only [peerV]
    go_wp2
    go_ret
    have hb : Below W.heap.size W (W4.alloc (.cells #[.int .i64 0, .int .i64 0] 45)) := HX4.out.bl.trans ((below_alloc _ _).mono HX4.out.bl.size)
    exact ⟨ret_i64 (by rw [HS.out]), A, c, F, by rw [HS.out]; exact HW.out.below hb, Near.of_below hb, fun j e => Or.inl e⟩
  | some z =>
    have HS := hide (show R = (0, comeS Z.S ⟨z.1, z.2, p⟩) from by rw [HI.out]; exact injR_some HK1.out HK2.out HK3.out hpe)
    have hzp := HE.out.pl _ _ hpe
    simp only [peerV]
    have p0 := fun (o' : Obj) => ((HX4.out.below (below_alloc _ o')).get 1 rfl).1 0 _ rfl
    have p1 := fun (o' : Obj) => ((HX4.out.below (below_alloc _ o')).get 1 rfl).1 1 _ rfl
    have p2 := fun (o' : Obj) => ((HX4.out.below (below_alloc _ o')).get 1 rfl).1 2 _ rfl
    have p3 := fun (o' : Obj) => ((HX4.out.below (below_alloc _ o')).get 1 rfl).1 3 _ rfl
    go_wp2_with fail
    have HB5 := hide (show Below W.heap.size W (W4.alloc (.cells #[.int .i64 z.1, .int .i64 z.2] 45)) from HX4.out.bl.trans ((below_alloc _ _).mono HX4.out.bl.size))
    generalize World.alloc W4 _ = W5 at *
    clear p0 p1 p2 p3
    refine (comes_walk (HW.out.below HB5.out) ⟨z.1, z.2, p⟩ ⟨hzp.1, hzp.2, hp⟩ hl hk).mono ?_
    rintro e W6 ⟨rfl, A', c', F', hw, hn, hF⟩
    have HW6 := hide hw
    have HN6 := hide hn
    have HF6 := hide hF
    clear hw hn hF
    go_wp2
    go_ret
    refine ⟨ret_i64 (by rw [HS.out]), A', c', F', by rw [HS.out]; exact HW6.out, (Near.of_below HB5.out).trans (HN6.out.mono HB5.out.size), fun j e => ?_⟩
    rcases HF6.out j e with e | e
    · exact Or.inl e
    · right; have := HB5.out.size; omega
theorem FB.leafN {W w w0 : World} {L Z : List (Nat × Array Value)} {g : Nat} {n : NetV} {f o b : Nat} {M M' : MemS} {k k' : Nat} {N : Nat} {vs : Array Value} (h : FB W L g n f o b M k w0 ((N, vs) :: Z) M' k' w) : ∃ N' w', N = N' ∧ w = w' ∧ (FA W ((N', vs) :: L) g n f o b M' k' w' ∧ Near (Is3 f o b) w0.heap.size w0 w') := ⟨_, _, rfl, rfl, h.done, h.near⟩
theorem FB.ne {W w w0 : World} {L Z : List (Nat × Array Value)} {g : Nat} {n : NetV} {f o b : Nat} {M M' : MemS} {k k' : Nat} (h : FB W L g n f o b M k w0 Z M' k' w) (i : Nat) {x : Nat × Array Value} (hx : L[i]? = some x) : BoxV w x.1 x.2 ∧ x.1 ≠ w.heap.size ∧ w.heap.size ≠ x.1 := by
  have q := h.fa.box.bx _ (List.mem_of_getElem? hx)
  exact ⟨q.1, Nat.ne_of_lt q.2, Ne.symm (Nat.ne_of_lt q.2)⟩
theorem cells2 {w : World} {N : Nat} {a b : Int} (q : BoxV w N #[.int .i64 a, .int .i64 b]) : w.cell? ⟨N, 0, none⟩ = some (.int .i64 a) ∧ w.cell? ⟨N, 1, none⟩ = some (.int .i64 b) := ⟨q.1 0 _ rfl, q.1 1 _ rfl⟩
theorem BX.of_lo {W0 W w : World} {L : List (Nat × Array Value)} (h : BX W L w) (hb : Below W0.heap.size W0 W) : BX W0 L w := ⟨hb.trans (h.bl.mono hb.size), h.bx⟩
theorem hand_arr {ds : List Dev} {ls : List LinkV} {M : MemS} {i y : Int} {p : P4} {ch : Int} (hE : netE ds ls = 0) (hM : GoodM M) {S : HandS} (hS : handS ds ls M i y p ch = S) (h0 : S.e = 0) : (⟨S.to.1, S.to.2, S.q⟩ : ArrV).ok := by
  have q := (hand_good (i := i) (y := y) (p := p) (ch := ch) hE hM).2
  rw [hS] at q
  have q2 := q h0
  have q3 := place_ok (netE_ok hE).dl q2.2
  exact ⟨q3.1, q3.2, right_ok q2.1⟩
theorem worldDo_walk2 {W0 W : World} {F : Nat → Prop} {g : Nat} {no : NetV} {gm : Nat} {nm : NetV} {f o b km : Nat} {A : Option Addr} {c : Nat} {Z : WldS} {k : Nat} (h : WorldAt W0 W F g no gm nm f o b km A c Z k) (hb0 : Below W0.heap.size W0 W) {ds dn : List Dev} {ls : List LinkV} (hds : no.devs = dn) (hdn2 : InjOk dn ls) (hinj : ∀ S i p, injS dn ls S i p = injS ds ls S i p) (hls : no.ls = ls) (hds2 : nm.devs = ds) (hls2 : nm.ls = ls) (hE : netE ds ls = 0) (hG : GoodW ds Z) (x : ActV) (hx : x.ok) (hk : k < 100000) :
    Calls Try.prog 10 #[.pointer (some ⟨g, 0, none⟩), .agg #[.int .i64 x.kind, .int .i64 x.dev, .int .i64 x.port, .int .i64 x.p.src, .int .i64 x.p.dst, .int .i64 x.p.sport, .int .i64 x.p.dport, .int .i64 x.ch]] W fun e W' => e = .returned (.int .i64 (doS ds ls Z x).1) ∧ ∃ A' c' F', WorldAt W0 W' F' g no gm nm f o b km A' c' (doS ds ls Z x).2 (k + 1) ∧ Near F W.heap.size W W' ∧ ∀ j, F' j → F j ∨ W.heap.size ≤ j := by
  have HW := hide h
  have hgl := (h.fo g h.fg).2
  have hlk := h.lk
  have hdn : nm.dn ≤ 10 := by rw [← devs_len h.mem.net, hds2]; exact (netE_ok hE).dl
  have HG3 := hide (show ¬ Is3 f o b g from fun e => (h.g3 g e).1 rfl)
  clear h
  have HD := hide (And.intro hds (And.intro hls (And.intro hds2 hls2)))
  have HIN := hide (And.intro hdn2 hinj)
  have HE := hide hE
  have HGO := hide hG
  have HX := hide hx
  have HB0 := hide hb0
  clear hds hls hds2 hls2 hE hG hx hb0 hdn2 hinj
  by_cases h1 : x.kind = 1
  case pos =>
    have HS := hide (show doS ds ls Z x = ((injS dn ls Z.S x.dev x.p).1, ⟨Z.M, (injS dn ls Z.S x.dev x.p).2⟩) from by rw [HIN.out.2]; exact if_pos h1)
    have e1 : (x.kind == 1) = true := by simpa using h1
    clear h1
    go_enter Try.func10, Try.ntmps10
    go_wp2_with fail
    have HB1 := hide (below_alloc W (.cells #[.int .i64 x.kind, .int .i64 x.dev, .int .i64 x.port, .int .i64 x.p.src, .int .i64 x.p.dst, .int .i64 x.p.sport, .int .i64 x.p.dport, .int .i64 x.ch] 40))
    generalize World.alloc W _ = W1 at *
    refine (inject_walk ((HW.out.below HB1.out).up (Nat.le_succ k)) HD.out.1 HD.out.2.1 HIN.out.1 x.dev x.p HX.out.d HX.out.p (by omega) (by omega)).mono ?_
    rintro e W6 ⟨rfl, A', c', F', hw, hn, hF⟩
    have HW6 := hide hw
    have HN6 := hide hn
    have HF6 := hide hF
    clear hw hn hF
    go_wp2
    go_ret
    refine ⟨ret_i64 (by rw [HS.out]), A', c', F', by rw [HS.out]; exact HW6.out, (Near.of_below HB1.out).trans (HN6.out.mono HB1.out.size), fun j e => ?_⟩
    rcases HF6.out j e with e | e
    · exact Or.inl e
    · right; have := HB1.out.size; omega
  have e1 : (x.kind == 1) = false := by simpa using h1
  have H1 := hide h1
  clear h1
  by_cases h2 : x.kind = 2
  case pos =>
    have e2 : (x.kind == 2) = true := by simpa using h2
    have H2 := hide h2
    clear h2
    obtain ⟨B, hB⟩ : ∃ B, decide ((⟨x.dev, x.port, x.p⟩ : ArrV) ∈ Z.S) = B := ⟨_, rfl⟩
    have HHS := hide (fun (w' : World) (hb : Below W.heap.size W w') => worldHas_walk (HW.out.below hb) ⟨x.dev, x.port, x.p⟩ ⟨HX.out.d, HX.out.y, HX.out.p⟩)
    rw [hB] at HHS
    go_enter Try.func10, Try.ntmps10
    go_wp2_with fail
    generalize hG : World.alloc (World.alloc W _) _ = W2
    have HX2 := hide (boxes2 hG).1
    clear hG
    refine (HHS.out W2 HX2.out.bl).mono ?_
    clear HHS
    rintro e W3 ⟨rfl, hb⟩
    have HX3 := hide (HX2.out.below hb)
    clear hb HX2
    cases B
    case false =>
      have HS := hide (show doS ds ls Z x = (7, Z) from by rw [doS, if_neg H1.out, if_pos H2.out, if_neg (by simpa using hB)])
      go_wp2
      go_ret
      exact ⟨ret_i64 (by rw [HS.out]), A, c, F, by rw [HS.out]; exact (HW.out.below HX3.out.bl).up (Nat.le_succ k), Near.of_below HX3.out.bl, fun j e => Or.inl e⟩
    obtain ⟨S, hS⟩ : ∃ S, handS ds ls Z.M x.dev x.port x.p x.ch = S := ⟨_, rfl⟩
    have HS := hide (show doS ds ls Z x = (S.e, ⟨Z.M.learn S.kn, S.come Z.S⟩) from by rw [doS, if_neg H1.out, if_pos H2.out, if_pos (by simpa using hB), hS])
    have HAR := hide (hand_arr HE.out ⟨HGO.out.o, HGO.out.b⟩ hS)
    have HW3 := hide (HW.out.below HX3.out.bl)
    have HFA := hide (show FA W0 [(W.heap.size + 1, #[.int .i64 x.dev, .int .i64 x.port]), (W.heap.size, #[.int .i64 x.kind, .int .i64 x.dev, .int .i64 x.port, .int .i64 x.p.src, .int .i64 x.p.dst, .int .i64 x.p.sport, .int .i64 x.p.dport, .int .i64 x.ch])] gm nm f o b Z.M k W3 from
      ⟨HX3.out.of_lo HB0.out, HW3.out.mem, fun y hy e => by
        have h3 := (HW.out.fo _ (HW.out.f3 _ e)).2
        rcases List.mem_cons.1 hy with rfl | hy
        · simp only at h3; omega
        · obtain rfl := List.mem_singleton.1 hy
          simp only at h3; omega, fun j e => (HW.out.fo j (HW.out.f3 j e)).1⟩)
    have HGL := hide (show g < W3.heap.size ∧ W3.cell? ⟨g, 2, none⟩ = some (.pointer (some ⟨gm, 0, none⟩)) from ⟨(HW3.out.fo g HW3.out.fg).2, HW3.out.c2⟩)
    have HH := hide (fun (w' : World) (hm : MemAt w' gm nm f o b Z.M k) => hand_as gm nm f o b Z.M k x S HD.out.2.2.1 HD.out.2.2.2 HE.out HX.out (by omega) hS w' hm)
    clear hS hB
    obtain ⟨Se, ⟨St1, St2⟩, ⟨Sa, Sb, Sc, Sd⟩, Sk⟩ := S
    simp only [HandS.val] at HH
    go_wp2_with fail
    have HG := hide HFA.out.start
    have HN3 := hide HX3.out.bl
    clear HFA HX3
    have c2 := (HG.out.near.cell (a := ⟨g, 2, none⟩) HGL.out.1 HG3.out).trans HGL.out.2
    obtain ⟨p0, p1⟩ := cells2 (HG.out.ne 0 rfl).1
    obtain ⟨b0, b1, b2, b3, b4, b5, b6, b7⟩ := cells8 (HG.out.ne 1 rfl).1
    have n1 := (HG.out.ne 0 rfl).2
    have n2 := (HG.out.ne 1 rfl).2
    have n3 : g ≠ _ ∧ _ ≠ g := ⟨Nat.ne_of_lt (Nat.lt_of_lt_of_le HGL.out.1 HG.out.near.size), Ne.symm (Nat.ne_of_lt (Nat.lt_of_lt_of_le HGL.out.1 HG.out.near.size))⟩
    have n1a := n1.1
    have n1b := n1.2
    have n2a := n2.1
    have n2b := n2.2
    have n3a := n3.1
    have n3b := n3.2
    apply cut_region (C := fun N w' => FA W0 ((N, #[.int .i64 St1, .int .i64 St2, .int .i64 Sa, .int .i64 Sb, .int .i64 Sc, .int .i64 Sd]) :: [(W.heap.size + 1, #[.int .i64 x.dev, .int .i64 x.port]), (W.heap.size, #[.int .i64 x.kind, .int .i64 x.dev, .int .i64 x.port, .int .i64 x.p.src, .int .i64 x.p.dst, .int .i64 x.p.sport, .int .i64 x.p.dport, .int .i64 x.ch])]) gm nm f o b (Z.M.learn Sk) (k + 1) w' ∧ Near (Is3 f o b) W3.heap.size W3 w')
    · intro HK
      go_region_held3 (fun w' => w'.cell? ⟨g, 2, none⟩ = some (.pointer (some ⟨gm, 0, none⟩)) ∧ w'.cell? ⟨W.heap.size + 1, 0, none⟩ = some (.int .i64 x.dev) ∧ w'.cell? ⟨W.heap.size + 1, 1, none⟩ = some (.int .i64 x.port) ∧ w'.cell? ⟨W.heap.size, 3, none⟩ = some (.int .i64 x.p.src) ∧ w'.cell? ⟨W.heap.size, 4, none⟩ = some (.int .i64 x.p.dst) ∧ w'.cell? ⟨W.heap.size, 5, none⟩ = some (.int .i64 x.p.sport) ∧ w'.cell? ⟨W.heap.size, 6, none⟩ = some (.int .i64 x.p.dport) ∧ w'.cell? ⟨W.heap.size, 7, none⟩ = some (.int .i64 x.ch)) (go_keep) ((go_at_call 32; refine (HH.out _ ?_).mono ?_; (first | exact HG.out.d.mem | exact (HG.out.al _ _).d.mem | exact HG.out.mem | exact (HG.out.al _ _).mem); rintro e wp ⟨rfl, hm, hn⟩; (first | have HG := hide (HG.out.d.step hm hn) | have HG := hide ((HG.out.al _ _).d.step hm hn) | have HG := hide (HG.out.step hm hn) | have HG := hide ((HG.out.al _ _).step hm hn)); have c2 := (HG.out.near.cell (a := ⟨g, 2, none⟩) HGL.out.1 HG3.out).trans HGL.out.2; obtain ⟨p0, p1⟩ := cells2 (HG.out.ne 0 rfl).1; obtain ⟨b0, b1, b2, b3, b4, b5, b6, b7⟩ := cells8 (HG.out.ne 1 rfl).1; have n1 := (HG.out.ne 0 rfl).2; have n2 := (HG.out.ne 1 rfl).2; have n3 : g ≠ _ ∧ _ ≠ g := ⟨Nat.ne_of_lt (Nat.lt_of_lt_of_le HGL.out.1 HG.out.near.size), Ne.symm (Nat.ne_of_lt (Nat.lt_of_lt_of_le HGL.out.1 HG.out.near.size))⟩; have n1a := n1.1; have n1b := n1.2; have n2a := n2.1; have n2b := n2.2; have n3a := n3.1; have n3b := n3.2; (try obtain ⟨⟨z0, z1, z2, z3, z4, z5⟩, f0, f1, f2, f3, f4, f5⟩ := cells6 (HG.out.z _ List.mem_cons_self).1)))
      all_goals (first | (obtain ⟨N', w', e1, e2, q⟩ := (HG.out.al #[.int .i64 St1, .int .i64 St2, .int .i64 Sa, .int .i64 Sb, .int .i64 Sc, .int .i64 Sd] 47).leafN; rw [e2, e1]; exact HK.out _ _ q) | (obtain ⟨N', w', e1, e2, q⟩ := (((((((HG.out.set 0 (.int .i64 St1)).set 1 (.int .i64 St2)).set 2 (.int .i64 Sa)).set 3 (.int .i64 Sb)).set 4 (.int .i64 Sc)).set 5 (.int .i64 Sd))).leafN; rw [e2, e1]; exact HK.out _ _ q))
    clear HG HH p0 p1 b0 b1 b2 b3 b4 b5 b6 b7 n1 n2 n3 n1a n1b n2a n2b n3a n3b c2
    intro N W4 hFN
    have HF4 := hide hFN.1
    have HN4 := hide hFN.2
    have HW4 := hide (HW3.out.hand hFN.1.mem hFN.2 (Nat.le_succ k))
    clear hFN
    have HNN := hide (show Near F W.heap.size W W4 from (Near.of_below HN3.out).trans ((HN4.out.weak (fun j e => HW3.out.f3 j e)).mono HN3.out.size))
    have HSZ := hide (Nat.le_trans HN3.out.size HN4.out.size)
    clear HN3 HN4
    by_cases h5 : Se = 0
    case pos =>
      have hse := h5
      subst h5
      have HC := hide (show (HandS.mk 0 (St1, St2) ⟨Sa, Sb, Sc, Sd⟩ Sk).come Z.S = comeS Z.S ⟨St1, St2, ⟨Sa, Sb, Sc, Sd⟩⟩ from if_pos rfl)
      obtain ⟨z0, z1, z2, z3, z4, z5⟩ := (cells6 (HF4.out.box.get 0 rfl)).1
      go_wp2_with fail
      refine (comes_walk HW4.out ⟨St1, St2, ⟨Sa, Sb, Sc, Sd⟩⟩ (HAR.out (by trivial)) (by show Z.S.length + 1 ≤ k + 1; omega) (by omega)).mono ?_
      rintro e W6 ⟨rfl, A', c', F', hw, hn, hF⟩
      have HW6 := hide hw
      have HN6 := hide hn
      have HF6 := hide hF
      clear hw hn hF z0 z1 z2 z3 z4 z5
      go_wp2
      go_ret
      refine ⟨ret_i64 (by rw [HS.out]), A', c', F', by rw [HS.out, HC.out]; exact HW6.out, HNN.out.trans (HN6.out.mono HSZ.out), fun j e => ?_⟩
      rcases HF6.out j e with e | e
      · exact Or.inl e
      · right; have := HSZ.out; omega
    have e5 : (Se == 0) = false := by simpa using h5
    have HC := hide (show (HandS.mk Se (St1, St2) ⟨Sa, Sb, Sc, Sd⟩ Sk).come Z.S = Z.S from if_neg h5)
    go_wp2
    go_ret
    exact ⟨ret_i64 (by rw [HS.out]), A, c, F, by rw [HS.out, HC.out]; exact HW4.out, HNN.out, fun j e => Or.inl e⟩
  have e2 : (x.kind == 2) = false := by simpa using h2
  have H2 := hide h2
  clear h2
  by_cases h3 : x.kind = 3
  case pos =>
    have e3 : (x.kind == 3) = true := by simpa using h3
    have H3 := hide h3
    clear h3
    obtain ⟨R, hR⟩ : ∃ R, forgetS ds Z.M x.dev x.p x.ch = R := ⟨_, rfl⟩
    have HS := hide (show doS ds ls Z x = (R.1, ⟨R.2, Z.S⟩) from by rw [doS, if_neg H1.out, if_neg H2.out, if_pos H3.out, hR])
    have HFO := hide (fun (w' : World) (hb : Below W.heap.size W w') => forget_as gm nm f o b Z.M k x R.1 R.2 HD.out.2.2.1 hdn HX.out (by rw [hR]) (by rw [hR]) w' (HW.out.below hb).mem)
    go_enter Try.func10, Try.ntmps10
    go_wp2_with fail
    generalize hG : World.alloc W _ = W1
    have HX1 := hide (boxes1 hG).1
    clear hG
    obtain ⟨b0, b1, b2, b3, b4, b5, b6, b7⟩ := cells8 (HX1.out.get 0 rfl)
    have c2 := (HW.out.below HX1.out.bl).c2
    go_still_tail 10, (by kernel_rfl)
    clear b0 b1 b2 b3 b4 b5 b6 b7 c2
    go_wp2_with fail
    refine (HFO.out _ HX1.out.bl.drew).mono ?_
    rintro e W4 ⟨rfl, hm, hn⟩
    have HW4 := hide ((HW.out.below HX1.out.bl.drew).hand hm hn (Nat.le_refl k))
    have HNN := hide (show Near F W.heap.size W W4 from (Near.of_below HX1.out.bl.drew).trans ((hn.weak (fun j e => HW.out.f3 j e)).mono HX1.out.bl.drew.size))
    clear hm hn HFO
    go_wp2
    go_ret
    exact ⟨ret_i64 (by rw [HS.out]), A, c, F, by rw [HS.out]; exact HW4.out.up (Nat.le_succ k), HNN.out, fun j e => Or.inl e⟩
  have e3 : (x.kind == 3) = false := by simpa using h3
  have H3 := hide h3
  clear h3
  have HS := hide (show doS ds ls Z x = (1, Z) from by rw [doS, if_neg H1.out, if_neg H2.out, if_neg H3.out])
  go_enter Try.func10, Try.ntmps10
  go_wp2
  go_ret
  exact ⟨ret_i64 (by rw [HS.out]), A, c, F, by rw [HS.out]; exact (HW.out.below (below_alloc W _)).up (Nat.le_succ k), Near.of_below (below_alloc W _), fun j e => Or.inl e⟩
theorem worldDo_walk {W0 W : World} {F : Nat → Prop} {g : Nat} {no : NetV} {gm : Nat} {nm : NetV} {f o b km : Nat} {A : Option Addr} {c : Nat} {Z : WldS} {k : Nat} (h : WorldAt W0 W F g no gm nm f o b km A c Z k) (hb0 : Below W0.heap.size W0 W) {ds : List Dev} {ls : List LinkV} (hds : no.devs = ds) (hls : no.ls = ls) (hds2 : nm.devs = ds) (hls2 : nm.ls = ls) (hE : netE ds ls = 0) (hG : GoodW ds Z) (x : ActV) (hx : x.ok) (hk : k < 100000) :
    Calls Try.prog 10 #[.pointer (some ⟨g, 0, none⟩), .agg #[.int .i64 x.kind, .int .i64 x.dev, .int .i64 x.port, .int .i64 x.p.src, .int .i64 x.p.dst, .int .i64 x.p.sport, .int .i64 x.p.dport, .int .i64 x.ch]] W fun e W' => e = .returned (.int .i64 (doS ds ls Z x).1) ∧ ∃ A' c' F', WorldAt W0 W' F' g no gm nm f o b km A' c' (doS ds ls Z x).2 (k + 1) ∧ Near F W.heap.size W W' ∧ ∀ j, F' j → F j ∨ W.heap.size ≤ j :=
  worldDo_walk2 h hb0 hds (InjOk.of hE) (fun _ _ _ => rfl) hls hds2 hls2 hE hG x hx hk
def stS (ds : List Dev) (ls : List LinkV) (l : List ActV) : Nat → WldS
  | 0 => ⟨MemS.empty, []⟩
  | k + 1 => match l[k]? with
    | some x => (doS ds ls (stS ds ls l k) x).2
    | none => stS ds ls l k
theorem stS_succ {ds : List Dev} {ls : List LinkV} {l : List ActV} {k : Nat} {x : ActV} (h : l[k]? = some x) : stS ds ls l (k + 1) = (doS ds ls (stS ds ls l k) x).2 := by simp [stS, h]
theorem good_at {ds : List Dev} {ls : List LinkV} (hE : netE ds ls = 0) (l : List ActV) : ∀ k, GoodW ds (stS ds ls l k)
  | 0 => ⟨fun a v h => by simp [stS, MemS.empty] at h, fun a v h => by simp [stS, MemS.empty] at h, fun x hx => by simp [stS] at hx, by simp [stS]⟩
  | k + 1 => by
    have h := good_at hE l k
    cases hx : l[k]? with
    | none => simpa [stS, hx] using h
    | some x => rw [stS_succ hx]; exact (do_good hE h x).1
def WorldS (W w : World) (F : Nat → Prop) (g : Nat) (ds : List Dev) (ls : List LinkV) (Z : WldS) (k : Nat) : Prop :=
  ∃ no gm nm f o b km A c, WorldAt W w F g no gm nm f o b km A c Z k ∧ no.devs = ds ∧ no.ls = ls ∧ nm.devs = ds ∧ nm.ls = ls
section
variable {W w w' : World} {F F' q : Nat → Prop} {g : Nat} {ds : List Dev} {ls : List LinkV} {Z : WldS} {k k' : Nat} {gt0 : Nat} {n : NetV} {T : TS}
theorem WorldS.stay (h : WorldS W w F g ds ls Z k) (hn : Near q w.heap.size w w') (hq : ∀ j, q j → W.heap.size ≤ j ∧ ¬ F j) : WorldS W w' F g ds ls Z k := by
  obtain ⟨no, gm, nm, f, o, b, km, A, c, h1, h2⟩ := h
  exact ⟨no, gm, nm, f, o, b, km, A, c, h1.stay hn hq, h2⟩
theorem WorldS.below (h : WorldS W w F g ds ls Z k) (hb : Below w.heap.size w w') : WorldS W w' F g ds ls Z k :=
  h.stay (q := fun _ => False) (Near.of_below hb) (fun _ e => e.elim)
theorem WorldS.fo (h : WorldS W w F g ds ls Z k) : OwnB W w F := by
  obtain ⟨no, gm, nm, f, o, b, km, A, c, h1, h2⟩ := h
  exact h1.fo
theorem worldDo_S (h : WorldS W w F g ds ls Z k) (hb0 : Below W.heap.size W w) (hE : netE ds ls = 0) (hG : GoodW ds Z) (x : ActV) (hx : x.ok) (hk : k < 100000) :
    Calls Try.prog 10 #[.pointer (some ⟨g, 0, none⟩), .agg #[.int .i64 x.kind, .int .i64 x.dev, .int .i64 x.port, .int .i64 x.p.src, .int .i64 x.p.dst, .int .i64 x.p.sport, .int .i64 x.p.dport, .int .i64 x.ch]] w fun e w' => e = .returned (.int .i64 (doS ds ls Z x).1) ∧ ∃ F', WorldS W w' F' g ds ls (doS ds ls Z x).2 (k + 1) ∧ Near F w.heap.size w w' ∧ ∀ j, F' j → F j ∨ w.heap.size ≤ j := by
  obtain ⟨no, gm, nm, f, o, b, km, A, c, h1, h2, h3, h4, h5⟩ := h
  refine (worldDo_walk h1 hb0 h2 h3 h4 h5 hE hG x hx hk).mono ?_
  rintro e w' ⟨he, A', c', F', hw, hn, hF⟩
  exact ⟨he, F', ⟨no, gm, nm, f, o, b, km, A', c', hw, h2, h3, h4, h5⟩, hn, hF⟩
theorem worldHas_S (h : WorldS W w F g ds ls Z k) (y : ArrV) (hy : y.ok) :
    Calls Try.prog 15 #[.pointer (some ⟨g, 0, none⟩), .agg #[.int .i64 y.d, .int .i64 y.y], .agg #[.int .i64 y.p.src, .int .i64 y.p.dst, .int .i64 y.p.sport, .int .i64 y.p.dport]] w fun e w' => e = .returned (.bool (decide (y ∈ Z.S))) ∧ Below w.heap.size w w' := by
  obtain ⟨no, gm, nm, f, o, b, km, A, c, h1, h2⟩ := h
  exact worldHas_walk h1 y hy
theorem seen_S (h : WorldS W w F g ds ls Z k) (hk : k < 100000) :
    Calls Try.prog 11 #[.pointer (some ⟨g, 0, none⟩)] w fun e w' => ∃ A' c', e = .returned (.slice A' Z.S.length c') ∧ Z.S.length ≤ c' ∧ w'.ownsRow w.heap.size 47 6 (.slice A' Z.S.length c') Z.S.length (Z.S.flatMap ArrV.cells) ∧ Below w.heap.size w w' := by
  obtain ⟨no, gm, nm, f, o, b, km, A, c, h1, h2⟩ := h
  exact seen_walk h1 hk
end
theorem worldNew_S (n : NetV) (W0 W : World) (h0 : W0.heap.size ≤ W.heap.size) (hn : NetAt W W.heap.size n) (hnn : NetOn0 (fun j => j < W0.heap.size) n) (hE : netE n.devs n.ls = 0) :
    Calls Try.prog 6 #[n.val] W fun e W' => ∃ g F, e = .returned (.tuple #[.pointer (some ⟨g, 0, none⟩), .int .i64 0]) ∧ WorldS W0 W' F g n.devs n.ls ⟨MemS.empty, []⟩ 0 ∧ Below W.heap.size W W' ∧ ∀ j, F j → W.heap.size ≤ j := by
  refine (worldNew_ok n W0 W h0 hn hnn hE).mono ?_
  rintro e W' ⟨g, F, no, gm, nm, f, o, b, km, he, hw, ⟨h1, h2, h3, h4⟩, hb, hF⟩
  exact ⟨g, F, he, ⟨no, gm, nm, f, o, b, km, none, 0, hw, h1, h2, h3, h4⟩, hb, hF⟩
theorem net_on_below {w : World} {n : NetV} (h : NetAt w w.heap.size n) : NetOn0 (fun j => j < w.heap.size) n :=
  (h.on (K := 0) ⟨fun _ _ => Nat.zero_le _, fun _ _ => Nat.zero_le _, fun _ _ => ⟨fun _ _ => Nat.zero_le _, fun _ _ => Nat.zero_le _, fun _ _ => Nat.zero_le _⟩⟩).weak (fun j e => e.2)
end Go.Proofs.Ytifkacnoiocebaa
