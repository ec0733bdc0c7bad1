/- A part of the proof: Vo. -/
import Derived.Test.YtifkacnoiocebaaNw24
set_option linter.unusedVariables false
set_option linter.unusedSimpArgs false
set_option maxRecDepth 100000
set_option maxHeartbeats 8000000
namespace Go.Proofs.Ytifkacnoiocebaa
open Go.ChangeAt Go.ChangeShapes Go.RowKit Go.WideShapes
theorem OwnNet.same {w w' : World} {lo : Nat} {n : NetV} (h : OwnNet w lo n) (hb : ∀ q, NetBlk n q → w'.heap[q]? = w.heap[q]?) : OwnNet w' lo n :=
  ⟨own_same h.d (fun q hq => hb q (.inl (row_blk3.1 hq))), h.len, h.l.same (fun q hq => hb q (.inr (.inl hq))), fun d hd => ⟨(h.o d hd).b.same (fun q hq => hb q (.inr (.inr ⟨d, hd, .inl hq⟩))), (h.o d hd).r.same (fun q hq => hb q (.inr (.inr ⟨d, hd, .inr (.inl hq)⟩))), (h.o d hd).t.same (fun q hq => hb q (.inr (.inr ⟨d, hd, .inr (.inr hq)⟩)))⟩⟩
theorem NetLo.blk {L : Nat} {n : NetV} (h : NetLo L n) (q : Nat) (hq : NetBlk n q) : L ≤ q := by
  have hm : ∀ {A : Option Addr}, (∀ a, A = some a → L ≤ a.block) → A.map (·.block) = some q → L ≤ q := fun {A} ha hq => by
    cases A with
    | none => cases hq
    | some a => cases hq; exact ha a rfl
  rcases hq with e | e | ⟨d, hd, e | e | e⟩
  · exact hm h.d e
  · exact hm h.l e
  · exact hm (h.o d hd).b e
  · exact hm (h.o d hd).r e
  · exact hm (h.o d hd).t e
theorem dev_own2 {w4 w5 w6 w7 : World} {N B : Nat} {r : DevV} {B1 B2 B3 : Option Addr} {e1 e2 e3 : Nat} (hz : N < w4.heap.size) (h5 : Below w4.heap.size w4 w5) (h6 : Below w5.heap.size w5 w6) (h7 : Below w6.heap.size w6 w7) (hr : DevAt w4 B r)
    (o1 : w5.ownsRow w4.heap.size 3 1 (.slice B1 r.bn e1) r.bn (r.bs.flatMap i64Cells)) (o2 : w6.ownsRow w5.heap.size 55 5 (.slice B2 r.rn e2) r.rn (r.rs.flatMap RuleV.cells)) (o3 : w7.ownsRow w6.heap.size 71 3 (.slice B3 r.tn e3) r.tn (r.ts.flatMap RouteV.cells))
    (u v t : Value) : OwnDev (set3 w7 N u v t) 0 ⟨r.name, r.kind, r.addr, r.pool, B1, r.bn, e1, r.bs, B2, r.rn, e2, r.rs, B3, r.tn, e3, r.ts⟩ := by
  have s5 := h5.size
  have s6 := h6.size
  refine ⟨⟨r.bs, hr.bs.1, hr.bs.2.1, own_same (o1.mono (Nat.zero_le _)) (fun q hq => ?_)⟩, ⟨r.rs, hr.rs.1, hr.rs.2.1, own_same (o2.mono (Nat.zero_le _)) (fun q hq => ?_)⟩, ⟨r.ts, hr.ts.1, hr.tok, own_same (o3.mono (Nat.zero_le _)) (fun q hq => ?_)⟩⟩
  · have := o1.lt q hq
    exact (set3_off w7 N u v t (by omega)).trans ((h7.block q (by omega)).trans (h6.block q (by omega)))
  · have := o2.lt q hq
    exact (set3_off w7 N u v t (by omega)).trans (h7.block q (by omega))
  · have := o3.lt q hq
    exact set3_off w7 N u v t (by omega)
structure SLO (W : World) (n : NetV) (v : Nat → Bool) (wr : World) (g Nb : Nat) (V O L : Value) (nw : Nat → Nat) (ol : List Nat) (ds' : List DevV) (ls' : List LinkV) : Prop extends SLC W n v wr g Nb V O L nw ol ds' ls' where
  od : ∀ d ∈ ds', OwnDev wr 0 d
section
variable {W wr w' : World} {n : NetV} {v : Nat → Bool} {g Nb : Nat} {V O L : Value} {nw : Nat → Nat} {ol : List Nat} {ds' : List DevV} {ls' : List LinkV}
theorem SLO.keep (h : SLO W n v wr g Nb V O L nw ol ds' ls') (x : Nat) (hs : wr.heap.size ≤ w'.heap.size) (hos : w'.os = wr.os) (htp : w'.tape = wr.tape) (hou : w'.output = wr.output) (hk : ∀ q, q < wr.heap.size → q ≠ x → w'.heap[q]? = wr.heap[q]?)
    (hx : g + 1 < x) (hV : V.ownBlock ≠ some x) (hO : O.ownBlock ≠ some x) (hL : L.ownBlock ≠ some x) (hd : ∀ d ∈ ds', DevOn (fun q => q ≠ x) d) : SLO W n v w' g Nb V O L nw ol ds' ls' :=
  ⟨h.toSLC.keep x hs hos htp hou hk hx hV hO hL hd, fun d hdm => ⟨(h.od d hdm).b.same (fun q hq => hk q ((h.od d hdm).b.lt q hq).2 (by
    cases hA : d.bA with
    | none => rw [hA] at hq; cases hq
    | some a => rw [hA] at hq; cases hq; exact (hd d hdm).b a hA)), (h.od d hdm).r.same (fun q hq => hk q ((h.od d hdm).r.lt q hq).2 (by
    cases hA : d.rA with
    | none => rw [hA] at hq; cases hq
    | some a => rw [hA] at hq; cases hq; exact (hd d hdm).r a hA)), (h.od d hdm).t.same (fun q hq => hk q ((h.od d hdm).t.lt q hq).2 (by
    cases hA : d.tA with
    | none => rw [hA] at hq; cases hq
    | some a => rw [hA] at hq; cases hq; exact (hd d hdm).t a hA))⟩⟩
theorem SLO.below (h : SLO W n v wr g Nb V O L nw ol ds' ls') (hb : Below wr.heap.size wr w') : SLO W n v w' g Nb V O L nw ol ds' ls' := ⟨h.toSLC.below hb, fun d hd => (h.od d hd).below hb⟩
theorem SLO.now (h : SLO W n v wr g Nb V O L nw ol ds' ls') (i x : Nat) : SLO W n v (wr.setCell ⟨g + 1, i, none⟩ (.int .i64 (x : Int))) g Nb V O L (fun k => if k = i then x else nw k) ol ds' ls' :=
  ⟨h.toSLC.now i x, fun d hd => (h.od d hd).same (h.don d hd) (fun q hq => RowKit.Below.heap_setCell _ _ _ _ (by have := hq.1; show q ≠ g + 1; omega))⟩
theorem SLO.pushOld {O' : Value} {x : Nat} (h : SLO W n v wr g Nb V O L nw ol ds' ls') (hown : w'.ownsRow (g + 2) 3 1 O' (ol.length + 1) (intCells ol ++ [.int .i64 (x : Int)])) (hg : wr.grownBy w' O.ownBlock) (hat : O'.ownBlock = O.ownBlock ∨ O'.ownBlock = some wr.heap.size) : SLO W n v w' g Nb V O' L nw (ol ++ [x]) ds' ls' :=
  ⟨h.toSLC.pushOld hown hg hat, fun d hd => (h.od d hd).same (h.don d hd) (fun q hq => grown_off hg hq.2.1 hq.2.2.2.1)⟩
theorem SLO.pushDev {V' : Value} {d : DevV} (h : SLO W n v wr g Nb V O L nw ol ds' ls') (hd : DevM wr d) (hon : DevOn (fun q => g + 2 ≤ q ∧ q < wr.heap.size ∧ V.ownBlock ≠ some q ∧ O.ownBlock ≠ some q ∧ L.ownBlock ≠ some q) d)
    (hown : w'.ownsRow (g + 2) 61 7 V' (ds'.length + 1) (ds'.flatMap DevV.cells ++ d.cells)) (hg : wr.grownBy w' V.ownBlock) (hat : V'.ownBlock = V.ownBlock ∨ V'.ownBlock = some wr.heap.size) : SLO W n v (w'.setCell ⟨g, 0, none⟩ V') g Nb V' O L nw ol (ds' ++ [d]) ls' :=
  ⟨h.toSLC.pushDev hd.a hon hown hg hat, fun x hx => by
    have hs : ∀ q, (g + 2 ≤ q ∧ q < wr.heap.size ∧ V.ownBlock ≠ some q ∧ O.ownBlock ≠ some q ∧ L.ownBlock ≠ some q) → (w'.setCell ⟨g, 0, none⟩ V').heap[q]? = wr.heap[q]? := fun q hq => (RowKit.Below.heap_setCell _ _ _ _ (by have := hq.1; show q ≠ g; omega)).trans (grown_off hg hq.2.1 hq.2.2.1)
    rcases List.mem_append.1 hx with hx | hx
    · exact (h.od x hx).same (h.don x hx) hs
    · simp at hx; subst hx; exact hd.o.same hon hs⟩
theorem SLO.pushLink {L' : Value} {l : LinkV} (h : SLO W n v wr g Nb V O L nw ol ds' ls') (hown : w'.ownsRow (g + 2) 66 4 L' (ls'.length + 1) (ls'.flatMap LinkV.cells ++ l.cells)) (hg : wr.grownBy w' L.ownBlock) (hat : L'.ownBlock = L.ownBlock ∨ L'.ownBlock = some wr.heap.size) : SLO W n v (w'.setCell ⟨g, 1, none⟩ L') g Nb V O L' nw ol ds' (ls' ++ [l]) :=
  ⟨h.toSLC.pushLink hown hg hat, fun d hd => (h.od d hd).same (h.don d hd) (fun q hq => (RowKit.Below.heap_setCell _ _ _ _ (by have := hq.1; show q ≠ g; omega)).trans (grown_off hg hq.2.1 hq.2.2.2.2))⟩
end
def SlicedO (n : NetV) (i0 : Nat) (W : World) (e : Ending) (W' : World) : Prop := ∃ (m : NetV) (A : Option Addr) (c : Nat) (v : Nat → Bool),
  e = .returned (.tuple #[m.val, .slice A (oldL v n.dn).length c]) ∧ NetAt W' W'.heap.size m ∧ (NetLo W.heap.size m ∧ OwnNet W' 0 m) ∧ NearIs n.ls i0 v ∧ m.devs = pickD v n.devs n.dn ∧ m.ls = pickL v n.dn n.ls ∧ IntsAt W' W'.heap.size A (oldL v n.dn).length ((oldL v n.dn).map fun (k : Nat) => (k : Int)) ∧ Below W.heap.size W W'
theorem slicedO_walk (n : NetV) (i0 : Nat) (W : World) (hn : NetAt W W.heap.size n) (hE : netE n.devs n.ls = 0) (hi : i0 < n.dn) :
    Calls Try.prog 24 #[n.val, .int .i64 (i0 : Int)] W (SlicedO n i0 W) := by
  have hok := netE_ok hE
  have hdn : n.dn ≤ 10 := by have h1 := hok.dl; have h2 := hn.dlen; simp only [NetV.devs, List.length_map] at h1; omega
  have hln : n.ln ≤ 15 := by have h1 := hok.ll; have h2 := hn.llen; omega
  have hli : LinksIn n.ls n.dn := by
    have h1 := links_in hE
    have h2 : n.devs.length = n.dn := by simp only [NetV.devs, List.length_map]; exact hn.dlen
    rwa [h2] at h1
  have HDK := hide (fun (d : DevV) (hd : d ∈ n.ds) => net_devs_ok hE d.dev (List.mem_map_of_mem hd))
  have HNW := hide (fun (w' : World) (hb : Below W.heap.size W w') => show NetAt w' W.heap.size n from hn.below hb (Nat.le_refl _))
  have HNR := hide (fun (w' : World) (hb : Below W.heap.size W w') => near_walk n i0 w' (hn.below hb hb.size) hdn hln hli hi)
  have HDL := hide hn.dlen
  have HLL := hide hn.llen
  have HLI := hide hli
  clear hn hE hok hli
  obtain ⟨dA, dn, dc, ds, lA, ln, lc, ls⟩ := n
  simp only [NetV.val, NetV.devs] at *
  have hmi := fun w => run_ints dn (by omega) w
  go_enter Try.func24, Try.ntmps24
  go_wp2_with fail
  have hb1 : Below W.heap.size W ((W.alloc (.cells #[.slice dA dn dc, .slice lA ln lc] 25)).alloc (.cells #[.slice none 0 0, .slice none 0 0] 25)) := ((Below.refl _ _).alloc (Nat.le_refl _) _).alloc (by simp) _
  have hx1 := (Bx.new W #[.slice dA dn dc, .slice lA ln lc] 25).below (below_alloc2 (W.alloc (.cells #[.slice dA dn dc, .slice lA ln lc] 25)) (.cells #[.slice none 0 0, .slice none 0 0] 25))
  have hr1 : Bx ((W.alloc (.cells #[.slice dA dn dc, .slice lA ln lc] 25)).alloc (.cells #[.slice none 0 0, .slice none 0 0] 25)) (W.heap.size + 1) #[.slice none 0 0, .slice none 0 0] 25 := by
    have h := Bx.new (W.alloc (.cells #[.slice dA dn dc, .slice lA ln lc] 25)) #[.slice none 0 0, .slice none 0 0] 25
    simpa using h
  have hs1 : ((W.alloc (.cells #[.slice dA dn dc, .slice lA ln lc] 25)).alloc (.cells #[.slice none 0 0, .slice none 0 0] 25)).heap.size = W.heap.size + 2 := by simp
  have HB1 := hide hb1
  have HX1 := hide hx1
  have HR1 := hide hr1
  clear hb1 hx1 hr1
  generalize World.alloc (World.alloc W _) _ = w1 at *
  refine (HNR.out w1 HB1.out).mono ?_
  clear HNR
  rintro e w2 ⟨Nb, v, rfl, hN, hbb, hnear, hb⟩
  simp only at hbb hnear
  have HNEAR := hide hnear
  have hg2 := hb.size
  have HB2 := hide (HB1.out.trans (hb.mono HB1.out.size))
  have HX2 := hide (HX1.out.below hb)
  have HR2 := hide (HR1.out.below hb)
  have HBB := hide hbb
  have hNb := hbb.lt
  clear hb HB1 HX1 HR1 hbb hnear
  have x0 : ∀ o1, (w2.alloc o1).cell? ⟨W.heap.size, 0, none⟩ = some (.slice dA dn dc) := fun o1 => (HX2.out.below (below_alloc2 w2 o1)).get 0 _ rfl
  have x0' : ∀ o1 o2, ((w2.alloc o1).alloc o2).cell? ⟨W.heap.size, 0, none⟩ = some (.slice dA dn dc) := fun o1 o2 => ((HX2.out.below (below_alloc2 w2 o1)).below (below_alloc2 _ o2)).get 0 _ rfl
  go_wp2_with fail
  clear x0 x0' hmi
  have hb3 := (below_alloc2 w2 (.cells #[.slice none 0 0, .slice none 0 0] 25)).trans ((below_alloc2 (w2.alloc (.cells #[.slice none 0 0, .slice none 0 0] 25)) (.cells (intsA (fun _ => 0) dn) 3)).mono (below_alloc2 w2 _).size)
  have hs3 : ((w2.alloc (.cells #[.slice none 0 0, .slice none 0 0] 25)).alloc (.cells (intsA (fun _ => 0) dn) 3)).heap.size = w2.heap.size + 2 := by simp
  have HS0 := hide (show SLO W ⟨dA, dn, dc, ds, lA, ln, lc, ls⟩ v ((w2.alloc (.cells #[.slice none 0 0, .slice none 0 0] 25)).alloc (.cells (intsA (fun _ => 0) dn) 3)) w2.heap.size Nb (.slice none 0 0) (.slice none 0 0) (.slice none 0 0) (nowK v 0) (oldL v 0) [] [] from
    ⟨⟨HB2.out.trans (hb3.mono HB2.out.size), ⟨by omega, by omega, by omega⟩, HX2.out.below hb3, HR2.out.below hb3, HBB.out.below hb3, (Bx.new w2 _ _).below (below_alloc2 _ _), by
      have h := Bx.new (w2.alloc (.cells #[.slice none 0 0, .slice none 0 0] 25)) (intsA (fun _ => 0) dn) 3
      have e : nowK v 0 = fun _ => 0 := by funext i; unfold nowK; rw [if_neg (fun h => by omega)]
      rw [e]
      simpa using h, World.ownsRow_nil _ _ _ _, World.ownsRow_nil _ _ _ _, World.ownsRow_nil _ _ _ _, fun q hq => by (cases hq), fun q hq => by (cases hq), fun q hq => by (cases hq), fun d hd => by (cases hd), fun d hd => by (cases hd)⟩, fun d hd => by (cases hd)⟩)
  clear hb3 hs3 HB2 HX2 HR2 HBB hN hNb hg2 hs1
  generalize World.alloc (World.alloc w2 _) _ = w4 at *
  generalize w2.heap.size = g at *
  go_loopw [8, 24] (fun o i wr => ∃ (k : Nat) (V O : Value) (ds' : List DevV), k ≤ dn ∧ o = O ∧ i = .int .i64 (k : Int) ∧ Hid (SLO W ⟨dA, dn, dc, ds, lA, ln, lc, ls⟩ v wr g Nb V O (.slice none 0 0) (nowK v k) (oldL v k) ds' []) ∧ Hid (ds'.map DevV.dev = pickD v (ds.map DevV.dev) k)) (fun _ i _ => dn - (intOf i).toNat)
  case atStart => exact ⟨0, _, _, [], Nat.zero_le _, rfl, rfl, HS0, hide rfl⟩
  case round =>
    clear HS0
    obtain ⟨k, V, O, ds', hk, rfl, rfl, HS, HP⟩ := hrel
    generalize u8 = O at *
    by_cases hlt : k < dn
    · obtain ⟨r, hr⟩ : ∃ r, ds[k]? = some r := ⟨_, List.getElem?_eq_getElem (by have := HDL.out; omega)⟩
      have hna := HNW.out wr HS.out.bl
      obtain ⟨b, o, rfl, _, _⟩ := hna.ds.2 (by show 0 < dn; omega)
      obtain ⟨_, q0, q1, q2, q3, q4, q5, q6⟩ := dev_get hna.ds hr
      have HDA := hide (fun (w' : World) (hb : Below W.heap.size W w') => show DevAt w' w'.heap.size r from ((HNW.out w' hb).dok r (List.mem_of_getElem? hr)).below (Below.refl _ _) hb.size)
      have HOK := hide (HDK.out r (List.mem_of_getElem? hr))
      have HRR := hide (show (ds.map DevV.dev)[k]? = some r.dev from by rw [List.getElem?_map, hr]; rfl)
      have HLN := hide (show r.bs.length = r.bn ∧ r.rs.length = r.rn ∧ r.ts.length = r.tn from ⟨(HDA.out _ HS.out.bl).bs.1, (HDA.out _ HS.out.bl).rs.1, (HDA.out _ HS.out.bl).ts.1⟩)
      clear hr hna
      obtain ⟨nm, kd, ad, pl, bA, bn, bc, bs, rA, rn, rc, rs, tA, tn, tc, ts⟩ := r
      simp only at q0 q1 q2 q3 q4 q5 q6 HOK HDA HLN
      obtain ⟨vb, hvb⟩ : ∃ vb, v k = vb := ⟨_, rfl⟩
      have HVB := hide hvb
      have hcb := HS.out.bx.get k _ (bools_get v hlt)
      rw [hvb] at hcb
      clear hvb
      have hor := HS.out.ord
      cases vb
      · have HS8 := hide (HS.out.below (below_alloc2 wr (.cells #[.string nm, .int .i64 kd, .int .i64 ad, .int .u8 pl, .slice bA bn bc, .slice rA rn rc, .slice tA tn tc] 61)))
        rw [← nowK_no HVB.out, ← oldL_no HVB.out] at HS8
        have HP8 := hide (show ds'.map DevV.dev = pickD v (ds.map DevV.dev) (k + 1) from by rw [pickD_no HVB.out]; exact HP.out)
        have hcb8 : ∀ o1, (wr.alloc o1).cell? ⟨Nb, k, none⟩ = some (.bool false) := fun o1 => by
          have h := (HS.out.below (below_alloc2 wr o1)).bx.get k _ (bools_get v hlt)
          rw [HVB.out] at h; exact h
        clear HS HP hcb
        go_wp2_with fail
        go_roundw
        case rel => exact ⟨k + 1, V, O, ds', by omega, rfl, by go_num, HS8, HP8⟩
        case measure => simp [intOf]; omega
      · have hol9 : (oldL v k).length ≤ 10 := by have := cntB_le k v; rw [oldL_len]; omega
        obtain ⟨A0, c0, rfl, hc0, _⟩ := ints_of_own HS.out.old (fun x hx => by
          unfold oldL at hx
          have := List.mem_range.1 (List.mem_filter.1 hx).1
          omega)
        have HLE := hide (oldL_len v k)
        have hcb8 : ∀ o1, (wr.alloc o1).cell? ⟨Nb, k, none⟩ = some (.bool true) := fun o1 => by
          have h := (HS.out.below (below_alloc2 wr o1)).bx.get k _ (bools_get v hlt)
          rw [HVB.out] at h; exact h
        have hw8 : ∀ o1, (wr.alloc o1).cell? ⟨g + 1, k, none⟩ = some (.int .i64 ((nowK v k k : Nat) : Int)) := fun o1 => (HS.out.below (below_alloc2 wr o1)).wx.get k _ (intsA_get _ hlt)
        have hf8 : ∀ o1, (wr.alloc o1).frozen? ⟨g + 1, k, none⟩ = false := fun o1 => (HS.out.below (below_alloc2 wr o1)).wx.frozen k
        obtain ⟨i0', hi0, hz0, hz1, hz2⟩ := info_parts Try.infoInt
        have HSA := hide (show SLO W ⟨some ⟨b, o, none⟩, dn, dc, ds, lA, ln, lc, ls⟩ v (wr.setCell ⟨g + 1, k, none⟩ (.int .i64 ((oldL v k).length : Int))) g Nb V (.slice A0 (oldL v k).length c0) (.slice none 0 0) (nowK v (k + 1)) (oldL v k) ds' [] from by
          have h := HS.out.now k (oldL v k).length
          rw [oldL_len] at h
          rw [oldL_len]
          rw [← nowK_yes HVB.out]
          exact h)
        have hsA : (wr.setCell ⟨g + 1, k, none⟩ (.int .i64 ((oldL v k).length : Int))).heap.size = wr.heap.size := size_setCell _ _ _
        have hb6 := (below_alloc2 (wr.setCell ⟨g + 1, k, none⟩ (.int .i64 ((oldL v k).length : Int))) (.cells #[.string nm, .int .i64 kd, .int .i64 ad, .int .u8 pl, .slice bA bn bc, .slice rA rn rc, .slice tA tn tc] 61)).trans ((below_alloc2 ((wr.setCell ⟨g + 1, k, none⟩ (.int .i64 ((oldL v k).length : Int))).alloc (.cells #[.string nm, .int .i64 kd, .int .i64 ad, .int .u8 pl, .slice bA bn bc, .slice rA rn rc, .slice tA tn tc] 61)) (.cells #[.int .i64 (k : Int)] 3)).mono (below_alloc2 _ _).size)
        have HS6 := hide (HSA.out.below hb6)
        have HX6 := hide (show DBoxF (((wr.setCell ⟨g + 1, k, none⟩ (.int .i64 ((oldL v k).length : Int))).alloc (.cells #[.string nm, .int .i64 kd, .int .i64 ad, .int .u8 pl, .slice bA bn bc, .slice rA rn rc, .slice tA tn tc] 61)).alloc (.cells #[.int .i64 (k : Int)] 3)) wr.heap.size ⟨nm, kd, ad, pl, bA, bn, bc, bs, rA, rn, rc, rs, tA, tn, tc, ts⟩ from by
          have hx := DBoxF.new (wr.setCell ⟨g + 1, k, none⟩ (.int .i64 ((oldL v k).length : Int))) ⟨nm, kd, ad, pl, bA, bn, bc, bs, rA, rn, rc, rs, tA, tn, tc, ts⟩ 61
          rw [hsA] at hx
          exact hx.below (below_alloc2 _ _) (by simp [hsA]))
        have HLIT := hide (show Reads (((wr.setCell ⟨g + 1, k, none⟩ (.int .i64 ((oldL v k).length : Int))).alloc (.cells #[.string nm, .int .i64 kd, .int .i64 ad, .int .u8 pl, .slice bA bn bc, .slice rA rn rc, .slice tA tn tc] 61)).alloc (.cells #[.int .i64 (k : Int)] 3)) (wr.heap.size + 2) 1 (some ⟨wr.heap.size + 1, 0, none⟩) 1 [.int .i64 (k : Int)] from
          ⟨rfl, fun _ => ⟨_, rfl, by show wr.heap.size + 1 < wr.heap.size + 2; omega, fun j u hu => by
            have hx := heap_alloc_new ((wr.setCell ⟨g + 1, k, none⟩ (.int .i64 ((oldL v k).length : Int))).alloc (.cells #[.string nm, .int .i64 kd, .int .i64 ad, .int .u8 pl, .slice bA bn bc, .slice rA rn rc, .slice tA tn tc] 61)) (.cells #[.int .i64 (k : Int)] 3)
            rw [World.size_alloc, hsA] at hx
            rw [addr_add, Nat.zero_add, cell_of_row _ _ _ _ _ _ hx]
            simpa using hu⟩⟩)
        have hs6 : (((wr.setCell ⟨g + 1, k, none⟩ (.int .i64 ((oldL v k).length : Int))).alloc (.cells #[.string nm, .int .i64 kd, .int .i64 ad, .int .u8 pl, .slice bA bn bc, .slice rA rn rc, .slice tA tn tc] 61)).alloc (.cells #[.int .i64 (k : Int)] 3)).heap.size = wr.heap.size + 2 := by simp [hsA]
        have hgh : g + 1 < wr.heap.size := hor.2.2
        have HVH := hide (show (∀ q, V.ownBlock = some q → q < wr.heap.size) ∧ (∀ q, (Value.slice A0 (oldL v k).length c0).ownBlock = some q → q < wr.heap.size) ∧ (∀ d ∈ ds', DevOn (fun q => q < wr.heap.size) d) from
          ⟨fun q hq => (HS.out.own.lt q hq).2, fun q hq => (HS.out.old.lt q hq).2, fun d hd => (HS.out.don d hd).weak (fun q hq => hq.2.1)⟩)
        clear HSA hb6 HS hcb
        go_wp2_with (at_builtin; refine wpList_append_any _ rfl (.tmp 38) (.tmp 40) 58 rfl (g + 2) 3 i0' _ 1 8 Try.underlying58 hi0 hz0 hz1 hz2 rfl (by omega) (.slice A0 (oldL v k).length c0) (oldL v k).length (intCells (oldL v k)) rfl HS6.out.old (wr.heap.size + 2) (some ⟨wr.heap.size + 1, 0, none⟩) 1 1 [.int .i64 (k : Int)] rfl HLIT.out (by intro u hu; simp at hu; subst hu; rfl) (by simp only [maxLen]; omega) (by omega) (by rw [hs6]; omega) ?_; intro v9 w9 hown9 hg9 hat9; obtain ⟨g9, d9, rfl, _⟩ := hown9.form (by omega); have HT := hide (And.intro hown9 (And.intro hg9 hat9)); clear hown9 hg9 hat9)
        have hk9 : ∀ q, q < wr.heap.size + 2 → (Value.slice A0 (oldL v k).length c0).ownBlock ≠ some q → w9.heap[q]? = _ := fun q hq hne => grown_off HT.out.2.1 (by rw [hs6]; exact hq) hne
        have hO9 : ∀ q, (Value.slice (some ⟨g9, 0, none⟩) ((oldL v k).length + 1) d9).ownBlock = some q → q ≠ wr.heap.size := fun q hq => by
          rcases HT.out.2.2 with e | e
          · have := HVH.out.2.1 q (e ▸ hq); omega
          · rw [e, hs6] at hq; simp only [Option.some.injEq] at hq; omega
        have HO9 := hide hO9
        have HS9 := hide (show SLO W ⟨some ⟨b, o, none⟩, dn, dc, ds, lA, ln, lc, ls⟩ v w9 g Nb V (.slice (some ⟨g9, 0, none⟩) ((oldL v k).length + 1) d9) (.slice none 0 0) (nowK v (k + 1)) (oldL v (k + 1)) ds' [] from by
          rw [oldL_yes HVB.out]
          exact HS6.out.pushOld HT.out.1 HT.out.2.1 HT.out.2.2)
        have hx9 : DBoxF w9 wr.heap.size ⟨nm, kd, ad, pl, bA, bn, bc, bs, rA, rn, rc, rs, tA, tn, tc, ts⟩ := by
          have hst : StayOn (fun q => some q ≠ (Value.slice A0 (oldL v k).length c0).ownBlock) _ w9 := StayOn.of_grown HT.out.2.1
          have hne : (Value.slice A0 (oldL v k).length c0).ownBlock ≠ some wr.heap.size := fun e => by have := HVH.out.2.1 _ e; omega
          have hb9 := hk9 wr.heap.size (by omega) hne
          obtain ⟨⟨y0, y1, y2, y3, y4, y5, y6⟩, yf⟩ := HX6.out
          exact ⟨⟨hst _ _ (fun e => hne e.symm) y0, hst _ _ (fun e => hne e.symm) y1, hst _ _ (fun e => hne e.symm) y2, hst _ _ (fun e => hne e.symm) y3, hst _ _ (fun e => hne e.symm) y4, hst _ _ (fun e => hne e.symm) y5, hst _ _ (fun e => hne e.symm) y6⟩, fun q => (World.frozen?_of_block (a := ⟨wr.heap.size, q, none⟩) hb9).trans (yf q)⟩
        have hz9 : wr.heap.size < w9.heap.size := by have := HT.out.2.1.size; rw [hs6] at this; omega
        have HRB := hide (show bn ≤ 3 ∧ rn ≤ 8 ∧ tn ≤ 8 from by
          have h1 := HOK.out.bl
          have h2 := HOK.out.rl
          have h3 := HOK.out.tl
          have h4 := HLN.out
          simp only [DevV.dev] at h1 h2 h3
          omega)
        have HVO := hide (show ∀ q, (Value.slice (some ⟨g9, 0, none⟩) ((oldL v k).length + 1) d9).ownBlock = some q → q < w9.heap.size from fun q hq => (HT.out.1.lt q hq).2)
        clear q0 q1 q2 q3 q4 q5 q6 hcb8 hw8 hf8 HS6 HX6 HLIT hk9 hO9 HT hs6 hsA
        obtain ⟨h, hh⟩ : ∃ h, wr.heap.size = h := ⟨_, rfl⟩
        rw [hh] at HVH hx9 hz9 HO9 hgh ⊢
        have HQ := hide (fun (w' : World) (hb : Below w9.heap.size w9 w') => show DBoxF w' h ⟨nm, kd, ad, pl, bA, bn, bc, bs, rA, rn, rc, rs, tA, tn, tc, ts⟩ from hx9.below hb hz9)
        have HW4 := hide (fun (w' : World) (hb : Below w9.heap.size w9 w') => show Below W.heap.size W w' from HS9.out.bl.trans (hb.mono HS9.out.bl.size))
        clear hx9 hh hor
        generalize Value.slice (some ⟨g9, 0, none⟩) ((oldL v k).length + 1) d9 = O9 at *
        generalize w9 = w4 at *
        obtain ⟨⟨_, _, _, _, x4, x5, x6⟩, xf⟩ := HQ.out w4 (Below.refl _ _)
        simp only at x4 x5 x6
        refine wp_region_E (fun w' => w'.cell? ⟨h, 4, none⟩ = some (.slice bA bn bc) ∧ w'.cell? ⟨h, 5, none⟩ = some (.slice rA rn rc) ∧ w'.cell? ⟨h, 6, none⟩ = some (.slice tA tn tc)) 10 (by kernel_rfl) ⟨by simpa using x4, by simpa using x5, by simpa using x6⟩ (fun hS inv => ?_)
        refine wpAnyE_pure (i := 0) (v := ?_) rfl (by kernel_rfl) (by kernel_rfl) (by kernel_rfl) (by kernel_rfl) (fun _ _ _ h => h) inv (Or.inl ⟨by rfl, ?_⟩) (fun _ => hS) (fun inv => ?_)
        rotate_left
        · intro w _
          go_simp
          try with_reducible rfl
        try simp only [Act.put, nrmA, nrmB, nrmC]
        refine wpAnyE_pure (i := 3) (v := ?_) rfl (by kernel_rfl) (by kernel_rfl) (by kernel_rfl) (by kernel_rfl) (fun _ _ _ h => h) inv (Or.inl ⟨by rfl, ?_⟩) (fun _ => hS) (fun inv => ?_)
        rotate_left
        · intro w _
          go_simp
          try with_reducible rfl
        try simp only [Act.put, nrmA, nrmB, nrmC]
        refine wpAnyE_pure (i := 6) (v := ?_) rfl (by kernel_rfl) (by kernel_rfl) (by kernel_rfl) (by kernel_rfl) (fun _ _ _ h => h) inv (Or.inl ⟨by rfl, ?_⟩) (fun _ => hS) (fun inv => ?_)
        rotate_left
        · intro w _
          go_simp
          try with_reducible rfl
        try simp only [Act.put, nrmA, nrmB, nrmC]
        refine wpAnyE_load (i := 1) (v := ?_) [2, 5, 8, 10] rfl (by kernel_rfl) (by kernel_rfl) (by kernel_rfl) (by kernel_rfl) (fun _ _ _ h => h) inv (Or.inl ⟨by rfl, ?_⟩) hS (fun inv => ?_)
        rotate_left
        · intro w hSw
          obtain ⟨s1, s2, s3⟩ := hSw
          go_simp
          try with_reducible rfl
        try simp only [Act.put, nrmA, nrmB, nrmC]
        refine wpAnyE_load (i := 4) (v := ?_) [5, 8, 10] rfl (by kernel_rfl) (by kernel_rfl) (by kernel_rfl) (by kernel_rfl) (fun _ _ _ h => h) inv (Or.inl ⟨by rfl, ?_⟩) hS (fun inv => ?_)
        rotate_left
        · intro w hSw
          obtain ⟨s1, s2, s3⟩ := hSw
          go_simp
          try with_reducible rfl
        try simp only [Act.put, nrmA, nrmB, nrmC]
        refine wpAnyE_load (i := 7) (v := ?_) [8, 10] rfl (by kernel_rfl) (by kernel_rfl) (by kernel_rfl) (by kernel_rfl) (fun _ _ _ h => h) inv (Or.inl ⟨by rfl, ?_⟩) hS (fun inv => ?_)
        rotate_left
        · intro w hSw
          obtain ⟨s1, s2, s3⟩ := hSw
          go_simp
          try with_reducible rfl
        try simp only [Act.put, nrmA, nrmB, nrmC]
        refine rO 2 inv fun K hK => ?_
        go_simp
        go_at_call 18
        refine (cloneInt_walk bs bA bn bc _ (by have := HRB.out.1; omega) (ints_sl (HDA.out _ (HW4.out _ (by first | exact Below.refl _ _ | exact (Below.refl _ _).drew))).bs)).mono ?_
        rintro e w5 ⟨v1, rfl, ho1, hb5⟩
        have H5 := hide (show Below w4.heap.size w4 w5 from by first | exact hb5 | exact ((Below.refl _ _).drew).trans hb5)
        have ho1 : w5.ownsRow w4.heap.size 3 1 v1 bn (bs.flatMap i64Cells) := ho1
        obtain ⟨B1, e1, rfl, he1, hs1, hg1⟩ := SlAt.of_own i64Cells_len ho1 HLN.out.1
        have HO1 := hide ho1
        clear he1 hs1 hg1
        obtain ⟨⟨_, _, _, _, x4, x5, x6⟩, xf⟩ := HQ.out w5 H5.out
        simp only at x4 x5 x6
        clear ho1 hb5
        go_wp2_with fail
        refine hK.out _ _ (fun _ => ⟨x4, x5, x6⟩) (fun inv => ?_)
        clear hK K hS
        have hS := And.intro x4 (And.intro x5 x6)
        try simp only [Act.put, nrmA, nrmB, nrmC]
        refine wpAnyE_pure (i := 9) (v := ?_) rfl (by kernel_rfl) (by kernel_rfl) (by kernel_rfl) (by kernel_rfl) (fun _ _ _ h => h) inv (Or.inl ⟨by rfl, ?_⟩) (fun _ => hS) (fun inv => ?_)
        rotate_left
        · intro w _
          go_simp
          try with_reducible rfl
        try simp only [Act.put, nrmA, nrmB, nrmC]
        refine rO 5 inv fun K hK => ?_
        go_simp
        go_at_call 19
        refine (cloneRule_walk rs rA rn rc _ (by have := HRB.out.2.1; omega) (HDA.out _ (HW4.out _ (by first | exact H5.out | exact H5.out.drew))).rs.sl).mono ?_
        rintro e w6 ⟨v2, rfl, ho2, hb6⟩
        have hb6 : Below w5.heap.size w5 w6 := (by first | exact hb6 | exact ((Below.refl _ _).drew).trans hb6)
        have H56 := hide hb6
        have H6 := hide (H5.out.trans (hb6.mono H5.out.size))
        have ho2 : w6.ownsRow w5.heap.size 55 5 v2 rn (rs.flatMap RuleV.cells) := ho2
        obtain ⟨B2, e2, rfl, he2, hs2, hg2⟩ := SlAt.of_own RuleV.len ho2 HLN.out.2.1
        have HO2 := hide ho2
        clear he2 hs2 hg2
        obtain ⟨⟨_, _, _, _, x4, x5, x6⟩, xf⟩ := HQ.out w6 H6.out
        simp only at x4 x5 x6
        clear ho2 hb6
        go_wp2_with fail
        refine hK.out _ _ (fun _ => ⟨x4, x5, x6⟩) (fun inv => ?_)
        clear hK K hS
        have hS := And.intro x4 (And.intro x5 x6)
        try simp only [Act.put, nrmA, nrmB, nrmC]
        refine rO 8 inv fun K hK => ?_
        go_simp
        go_at_call 20
        refine (cloneRoute_walk ts tA tn tc _ (by have := HRB.out.2.2; omega) (HDA.out _ (HW4.out _ (by first | exact H6.out | exact H6.out.drew))).ts).mono ?_
        rintro e w7 ⟨v3, rfl, ho3, hb7⟩
        have hb7 : Below w6.heap.size w6 w7 := (by first | exact hb7 | exact ((Below.refl _ _).drew).trans hb7)
        have H67 := hide hb7
        have H7 := hide (H6.out.trans (hb7.mono H6.out.size))
        have ho3 : w7.ownsRow w6.heap.size 71 3 v3 tn (ts.flatMap RouteV.cells) := ho3
        obtain ⟨B3, e3, rfl, he3, hs3, hg3⟩ := SlAt.of_own RouteV.len ho3 HLN.out.2.2
        have HO3 := hide ho3
        clear he3 hs3 hg3
        obtain ⟨⟨_, _, _, _, x4, x5, x6⟩, xf⟩ := HQ.out w7 H7.out
        simp only at x4 x5 x6
        clear ho3 hb7
        go_wp2_with fail
        refine hK.out _ _ (fun _ => ⟨x4, x5, x6⟩) (fun inv => ?_)
        clear hK K hS
        have hS := And.intro x4 (And.intro x5 x6)
        try simp only [Act.put, nrmA, nrmB, nrmC]
        refine rT 10 inv fun K hK => ?_
        go_simp
        refine hK.out _ _ (fun inv => ?_)
        clear hK K
        try simp only [Act.put, nrmA, nrmB, nrmC]
        refine rT 11 inv fun K hK => ?_
        go_simp
        refine hK.out _ _ (fun inv => ?_)
        clear hK K
        try simp only [Act.put, nrmA, nrmB, nrmC]
        refine rT 12 inv fun K hK => ?_
        go_simp
        refine hK.out _ _ (fun inv => ?_)
        clear hK K
        try simp only [Act.put, nrmA, nrmB, nrmC]
        refine rT 13 inv fun K hK => ?_
        go_simp
        refine hK.out _ _ (fun inv => ?_)
        clear hK K
        try simp only [Act.put, nrmA, nrmB, nrmC]
        refine rT 14 inv fun K hK => ?_
        go_simp
        refine hK.out _ _ (fun inv => ?_)
        clear hK K
        try simp only [Act.put, nrmA, nrmB, nrmC]
        refine rD ?_
        have hx8 := (HQ.out w7 H7.out).set3 B1 B2 B3 bn rn tn e1 e2 e3 bs rs ts
        obtain ⟨hd8, hon8⟩ := dev_copied2 hz9 H5.out H56.out H67.out (HDA.out _ (HW4.out _ (Below.refl _ _))) HO1.out HO2.out HO3.out (.slice B1 bn e1) (.slice B2 rn e2) (.slice B3 tn e3)
        have ho8 := dev_own2 hz9 H5.out H56.out H67.out (HDA.out _ (HW4.out _ (Below.refl _ _))) HO1.out HO2.out HO3.out (.slice B1 bn e1) (.slice B2 rn e2) (.slice B3 tn e3)
        have hs8 := set3_size w7 h (.slice B1 bn e1) (.slice B2 rn e2) (.slice B3 tn e3)
        rw [← hs8] at hd8 hon8
        have hss := set3_below (Below.refl 0 w7) (Nat.zero_le h) (.slice B1 bn e1) (.slice B2 rn e2) (.slice B3 tn e3)
        have HC8 := hide (show SLO W ⟨some ⟨b, o, none⟩, dn, dc, ds, lA, ln, lc, ls⟩ v (set3 w7 h (.slice B1 bn e1) (.slice B2 rn e2) (.slice B3 tn e3)) g Nb V O9 (.slice none 0 0) (nowK v (k + 1)) (oldL v (k + 1)) ds' [] from
          (HS9.out.below H7.out).keep h (Nat.le_of_eq hs8.symm) hss.os hss.tape hss.output (fun q _ hq => set3_off w7 h _ _ _ hq) hgh (fun e => Nat.lt_irrefl _ (HVH.out.1 h e)) (fun e => HO9.out h e rfl) (fun e => by cases e) (fun d hd => (HVH.out.2.2 d hd).weak (fun q hq => by omega)))
        have HD8 := hide (show DevM _ _ from ⟨hd8, ho8⟩)
        have HN8 := hide (show DevOn (fun q => g + 2 ≤ q ∧ q < ((set3 w7 h (.slice B1 bn e1) (.slice B2 rn e2) (.slice B3 tn e3))).heap.size ∧ V.ownBlock ≠ some q ∧ O9.ownBlock ≠ some q ∧ (Value.slice none 0 0).ownBlock ≠ some q) ⟨nm, kd, ad, pl, B1, bn, e1, bs, B2, rn, e2, rs, B3, tn, e3, ts⟩ from hon8.weak (fun q hq => ⟨by have := hq.1; omega, hq.2, fun e => by have h1 := HVH.out.1 q e; have := hq.1; omega, fun e => by have h1 := HVO.out q e; have := hq.1; omega, fun e => by cases e⟩))
        clear hd8 hon8 ho8 hs8 hss H5 H56 H67 H6 H7 HO1 HO2 HO3 HQ HW4 HS9 HVH HO9 HVO inv hS x4 x5 x6 xf hz9
        unfold set3 at hx8 HC8 HD8 HN8
        generalize World.setCell (World.setCell (World.setCell w7 _ _) _ _) _ _ = w8 at *
        obtain ⟨⟨y0, y1, y2, y3, y4, y5, y6⟩, _⟩ := hx8
        simp only at y0 y1 y2 y3 y4 y5 y6
        have gx := HC8.out.gx.get 0 _ rfl
        have hba := below_alloc2 w8 (.cells #[.string nm, .int .i64 kd, .int .i64 ad, .int .u8 pl, .slice B1 bn e1, .slice B2 rn e2, .slice B3 tn e3] 61)
        have HCA := hide (HC8.out.below hba)
        have HDV := hide (HD8.out.below hba)
        have HNA := hide (HN8.out.weak (q := fun q => g + 2 ≤ q ∧ q < (w8.alloc (.cells #[.string nm, .int .i64 kd, .int .i64 ad, .int .u8 pl, .slice B1 bn e1, .slice B2 rn e2, .slice B3 tn e3] 61)).heap.size ∧ V.ownBlock ≠ some q ∧ O9.ownBlock ≠ some q ∧ (Value.slice none 0 0).ownBlock ≠ some q) (fun q hq => ⟨hq.1, Nat.lt_of_lt_of_le hq.2.1 hba.size, hq.2.2⟩))
        have hgc := fun o1 => (HC8.out.below (below_alloc2 w8 o1)).gx.get 0 _ rfl
        have HLIT := hide (show Reads (w8.alloc (.cells #[.string nm, .int .i64 kd, .int .i64 ad, .int .u8 pl, .slice B1 bn e1, .slice B2 rn e2, .slice B3 tn e3] 61)) (w8.heap.size + 1) 7 (some ⟨w8.heap.size, 0, none⟩) 1 (DevV.cells ⟨nm, kd, ad, pl, B1, bn, e1, bs, B2, rn, e2, rs, B3, tn, e3, ts⟩) from
          ⟨rfl, fun _ => ⟨_, rfl, Nat.lt_succ_self _, fun j u hu => by
            rw [addr_add, Nat.zero_add, cell_of_row _ _ _ _ _ _ (heap_alloc_new w8 _)]
            simpa [DevV.cells] using hu⟩⟩)
        have hdl9 : ds'.length ≤ 10 := by
          have h1 := congrArg List.length HP.out
          rw [List.length_map] at h1
          have h2 : (pickD v (ds.map DevV.dev) k).length ≤ k := by
            unfold pickD
            have h3 := List.length_filterMap_le (fun i => (ds.map DevV.dev)[i]?) (oldL v k)
            have h4 := cntB_le k v
            rw [oldL_len] at h3
            omega
          omega
        have HGM := hide (fun (w9 : World) (hg : (w8.alloc (.cells #[.string nm, .int .i64 kd, .int .i64 ad, .int .u8 pl, .slice B1 bn e1, .slice B2 rn e2, .slice B3 tn e3] 61)).grownBy w9 V.ownBlock) => show Bx w9 g #[V, .slice none 0 0] 25 from HCA.out.gx.same (grown_off hg HCA.out.gx.lt (fun e => by have := (HCA.out.own.lt g e).1; omega)))
        obtain ⟨i1, hi1, hy0', hy1', hy2'⟩ := info_parts Try.infoDevice
        have hsz8 : g + 2 ≤ (w8.alloc (.cells #[.string nm, .int .i64 kd, .int .i64 ad, .int .u8 pl, .slice B1 bn e1, .slice B2 rn e2, .slice B3 tn e3] 61)).heap.size := HCA.out.ord.2.2
        clear hba HC8 HD8 HN8
        go_wp2_with (at_builtin; go_loud (refine wpList_append_any _ rfl (.tmp 55) (.tmp 57) 22 rfl (g + 2) 61 i1 _ 7 112 Try.underlying22 hi1 hy0' hy1' hy2' rfl (by omega) V ds'.length (ds'.flatMap DevV.cells) rfl HCA.out.own (w8.heap.size + 1) (some ⟨w8.heap.size, 0, none⟩) 1 1 _ rfl HLIT.out (DevV.one _) (by simp only [maxLen]; omega) (by omega) (by exact hsz8) ?_); intro v9 w9 hown9 hg9 hat9; obtain ⟨g9', d9', rfl, _⟩ := hown9.form (by omega); have z0 := (HGM.out w9 hg9).get 0 _ rfl; have z1 := (HGM.out w9 hg9).frozen 0; have HT := hide (And.intro hown9 (And.intro hg9 hat9)); clear hown9 hg9 hat9)
        have HN := hide (HCA.out.pushDev (d := ⟨nm, kd, ad, pl, B1, bn, e1, bs, B2, rn, e2, rs, B3, tn, e3, ts⟩) HDV.out HNA.out HT.out.1 HT.out.2.1 HT.out.2.2)
        have HPN := hide (show (ds' ++ [(⟨nm, kd, ad, pl, B1, bn, e1, bs, B2, rn, e2, rs, B3, tn, e3, ts⟩ : DevV)]).map DevV.dev = pickD v (ds.map DevV.dev) (k + 1) from by
          rw [pickD_yes HVB.out HRR.out, List.map_append, HP.out]; rfl)
        go_roundw
        case rel => exact ⟨k + 1, _, O9, ds' ++ [⟨nm, kd, ad, pl, B1, bn, e1, bs, B2, rn, e2, rs, B3, tn, e3, ts⟩], by omega, rfl, by go_num, HN, HPN⟩
        case measure => simp [intOf]; omega
    · obtain rfl : k = dn := by omega
      have x1 : wr.cell? ⟨W.heap.size, 1, none⟩ = some (.slice lA ln lc) := HS.out.nx.get 1 _ rfl
      go_wp2_with fail
      clear x1
      go_loopw [64] (fun i wr => ∃ (j : Nat) (L : Value) (ls' : List LinkV), j ≤ ln ∧ i = .int .i64 (j : Int) ∧ Hid (SLO W ⟨dA, k, dc, ds, lA, ln, lc, ls⟩ v wr g Nb V O L (nowK v k) (oldL v k) ds' ls') ∧ Hid (ls' = pickL v k (ls.take j))) (fun i _ => ln - (intOf i).toNat)
      case atStart => exact ⟨0, _, [], Nat.zero_le _, rfl, HS, hide rfl⟩
      case round =>
        clear HS
        obtain ⟨j, L, ls', hj, rfl, HS, HPL⟩ := hrel
        by_cases hjl : j < ln
        · obtain ⟨r, hr⟩ : ∃ r, ls[j]? = some r := ⟨_, List.getElem?_eq_getElem (by have := HLL.out; omega)⟩
          have hna := HNW.out wr HS.out.bl
          obtain ⟨lb, lo, rfl, _, _⟩ := hna.ls.2 (by show 0 < ln; omega)
          obtain ⟨_, q0, q1, q2, q3⟩ := link_get hna.ls hr
          obtain ⟨⟨ha1, ha2⟩, hb1, hb2⟩ := HLI.out r (List.mem_of_getElem? hr)
          have HPS := hide (pickL_succ v k hr)
          clear hna hr
          obtain ⟨ra, rp, rb, rq⟩ := r
          simp only at q0 q1 q2 q3 ha1 ha2 hb1 hb2
          obtain ⟨an, rfl⟩ : ∃ an : Nat, ra = (an : Int) := ⟨ra.toNat, by omega⟩
          obtain ⟨bn, rfl⟩ : ∃ bn : Nat, rb = (bn : Int) := ⟨rb.toNat, by omega⟩
          have han : an < k := by omega
          have hbn : bn < k := by omega
          clear ha1 ha2 hb1 hb2
          obtain ⟨va, hva⟩ : ∃ va, v an = va := ⟨_, rfl⟩
          have HVA := hide hva
          have hb8 := below_alloc2 wr (.cells #[.int .i64 (an : Int), .int .i64 rp, .int .i64 (bn : Int), .int .i64 rq] 66)
          have HS8 := hide (HS.out.below hb8)
          have HL8 := hide (Bx.new wr #[.int .i64 (an : Int), .int .i64 rp, .int .i64 (bn : Int), .int .i64 rq] 66)
          have hcb8 : ∀ o1, (wr.alloc o1).cell? ⟨Nb, an, none⟩ = some (.bool va) := fun o1 => by
            have h := (HS.out.below (below_alloc2 wr o1)).bx.get an _ (bools_get v han)
            rw [hva] at h; exact h
          have hLN : ∀ q, wr.heap.size = q → L.ownBlock ≠ some q := fun q hq e => by have := (HS.out.lnk.lt q e).2; omega
          clear hb8 hva HS
          cases va
          · have HN := hide (show ls' = pickL v k (ls.take (j + 1)) from by rw [HPS.out, if_neg (by show ¬ v an = true; rw [HVA.out]; decide), List.append_nil]; exact HPL.out)
            go_wp2_with fail
            go_roundw
            case rel => exact ⟨j + 1, L, ls', by omega, by go_num, HS8, HN⟩
            case measure => simp [intOf]; omega
          · have HN := hide (show ls' ++ [linkS v k ⟨(an : Int), rp, (bn : Int), rq⟩] = pickL v k (ls.take (j + 1)) from by rw [HPS.out, if_pos (by show v an = true; exact HVA.out), ← HPL.out])
            go_wp2_with fail
            clear q0 q1 q2 q3 hcb8
            generalize World.alloc wr _ = w8 at *
            obtain ⟨N8, hN8⟩ : ∃ N8, wr.heap.size = N8 := ⟨_, rfl⟩
            rw [hN8] at HL8 hLN ⊢
            clear hN8
            have HQ := hide (fun (w' : World) (h1 : Bx w' g #[V, L] 25) (h2 : Bx w' (g + 1) (intsA (nowK v k) k) 3) (h3 : Bx w' N8 #[.int .i64 (an : Int), .int .i64 rp, .int .i64 (bn : Int), .int .i64 rq] 66) => show (w'.cell? ⟨g, 1, none⟩ = some L ∧ w'.cell? ⟨g + 1, an, none⟩ = some (.int .i64 ((nowK v k an : Nat) : Int)) ∧ w'.cell? ⟨g + 1, bn, none⟩ = some (.int .i64 ((nowK v k bn : Nat) : Int))) ∧ w'.cell? ⟨N8, 0, none⟩ = some (.int .i64 (an : Int)) ∧ w'.cell? ⟨N8, 1, none⟩ = some (.int .i64 rp) ∧ w'.cell? ⟨N8, 2, none⟩ = some (.int .i64 (bn : Int)) ∧ w'.cell? ⟨N8, 3, none⟩ = some (.int .i64 rq) from
              ⟨⟨h1.get 1 _ rfl, h2.get an _ (intsA_get _ han), h2.get bn _ (intsA_get _ hbn)⟩, h3.get 0 _ rfl, h3.get 1 _ rfl, h3.get 2 _ rfl, h3.get 3 _ rfl⟩)
            have hNL := HL8.out.lt
            have hdr := (Below.refl w8.heap.size w8).drew
            have HS9 := hide (HS8.out.below hdr)
            have HL9 := hide (HL8.out.below hdr)
            clear hdr HS8 HL8
            refine wp_region_E (fun w' => (w'.cell? ⟨g, 1, none⟩ = some L ∧ w'.cell? ⟨g + 1, an, none⟩ = some (.int .i64 ((nowK v k an : Nat) : Int)) ∧ w'.cell? ⟨g + 1, bn, none⟩ = some (.int .i64 ((nowK v k bn : Nat) : Int))) ∧ w'.cell? ⟨N8, 0, none⟩ = some (.int .i64 (an : Int)) ∧ w'.cell? ⟨N8, 1, none⟩ = some (.int .i64 rp) ∧ w'.cell? ⟨N8, 2, none⟩ = some (.int .i64 (bn : Int)) ∧ w'.cell? ⟨N8, 3, none⟩ = some (.int .i64 rq)) 20 (by kernel_rfl) (HQ.out _ HS9.out.gx HS9.out.wx HL9.out) (fun hS inv => ?_)
            generalize World.drew w8 = wd at *
            revert inv
            refine rP 0 hS ?_
            refine rL 1 [18, 20] rfl hS (by intro w hSw; obtain ⟨⟨s0, s1, s2⟩, s3, s4, s5, s6⟩ := hSw; go_simp; try with_reducible rfl) ?_
            refine rP 2 hS ?_
            refine rP 3 hS ?_
            refine rL 4 [5, 6, 16, 17, 18, 20] rfl hS (by intro w hSw; obtain ⟨⟨s0, s1, s2⟩, s3, s4, s5, s6⟩ := hSw; go_simp; try with_reducible rfl) ?_
            refine rP 5 hS ?_
            refine rL 6 [16, 17, 18, 20] rfl hS (by intro w hSw; obtain ⟨⟨s0, s1, s2⟩, s3, s4, s5, s6⟩ := hSw; go_simp; try with_reducible rfl) ?_
            refine rP 7 hS ?_
            refine rL 8 [16, 17, 18, 20] rfl hS (by intro w hSw; obtain ⟨⟨s0, s1, s2⟩, s3, s4, s5, s6⟩ := hSw; go_simp; try with_reducible rfl) ?_
            refine rP 9 hS ?_
            refine rP 10 hS ?_
            refine rL 11 [12, 13, 16, 17, 18, 20] rfl hS (by intro w hSw; obtain ⟨⟨s0, s1, s2⟩, s3, s4, s5, s6⟩ := hSw; go_simp; try with_reducible rfl) ?_
            refine rP 12 hS ?_
            refine rL 13 [16, 17, 18, 20] rfl hS (by intro w hSw; obtain ⟨⟨s0, s1, s2⟩, s3, s4, s5, s6⟩ := hSw; go_simp; try with_reducible rfl) ?_
            refine rP 14 hS ?_
            refine rL 15 [16, 17, 18, 20] rfl hS (by intro w hSw; obtain ⟨⟨s0, s1, s2⟩, s3, s4, s5, s6⟩ := hSw; go_simp; try with_reducible rfl) ?_
            refine rP 16 hS ?_
            intro inv
            refine rO 17 inv fun K hK => ?_
            go_simp
            have hb10 := below_alloc2 wd (.cells #[.int .i64 ((nowK v k an : Nat) : Int), .int .i64 rp, .int .i64 ((nowK v k bn : Nat) : Int), .int .i64 rq] 66)
            have HX10 := hide (Bx.new wd #[.int .i64 ((nowK v k an : Nat) : Int), .int .i64 rp, .int .i64 ((nowK v k bn : Nat) : Int), .int .i64 rq] 66)
            have HS10 := hide (HS9.out.below hb10)
            have HL10 := hide (HL9.out.below hb10)
            have hs10 : (wd.alloc (.cells #[.int .i64 ((nowK v k an : Nat) : Int), .int .i64 rp, .int .i64 ((nowK v k bn : Nat) : Int), .int .i64 rq] 66)).heap.size = wd.heap.size + 1 := by simp
            clear hb10 HS9 HL9 hS
            generalize World.alloc wd _ = w10 at *
            have hS := HQ.out _ HS10.out.gx HS10.out.wx HL10.out
            refine hK.out _ _ (fun _ => hS) ?_
            clear hK K hS inv
            intro inv
            try simp only [Act.put, nrmA, nrmB, nrmC]
            obtain ⟨i0', hi0, hz0, hz1, hz2⟩ := info_parts Try.infoLink
            have hg10 : g + 2 ≤ w10.heap.size := HS10.out.ord.2.2
            have hll : ls'.length ≤ 15 := by
              have h1 := congrArg List.length HPL.out
              have h2 := List.length_filter_le (fun l => v l.a.toNat) (ls.take j)
              have h3 := List.length_take_le j ls
              unfold pickL at h1
              rw [List.length_map] at h1
              omega
            refine rO 18 inv fun K hK => ?_
            rw [if_pos (by rfl)]
            refine wp_append_any _ (.tmp 74) (.tmp 90) 23 rfl (g + 2) 66 i0' _ 4 32 Try.underlying23 hi0 hz0 hz1 hz2 rfl (by omega) L ls'.length (ls'.flatMap LinkV.cells) rfl HS10.out.lnk (wd.heap.size + 1) (some ⟨wd.heap.size, 0, none⟩) 1 1 (LinkV.cells ⟨((nowK v k an : Nat) : Int), rp, ((nowK v k bn : Nat) : Int), rq⟩) rfl ⟨rfl, fun _ => ⟨_, rfl, Nat.lt_succ_self _, fun j' u hu => by
              rw [addr_add, Nat.zero_add]
              exact HX10.out.get j' u (by simpa [LinkV.cells] using hu)⟩⟩ (LinkV.one _) (by simp only [maxLen]; omega) (by omega) (by omega) ?_
            intro v9 w9 hown9 hg9 hat9
            obtain ⟨g9, d9, rfl, _⟩ := hown9.form (by omega)
            have HGX := hide (show Bx w9 g #[V, L] 25 from HS10.out.gx.same (grown_off hg9 HS10.out.gx.lt (fun e => by have := (HS10.out.lnk.lt g e).1; omega)))
            have HWX := hide (show Bx w9 (g + 1) (intsA (nowK v k) k) 3 from HS10.out.wx.same (grown_off hg9 HS10.out.wx.lt (fun e => by have := (HS10.out.lnk.lt _ e).1; omega)))
            have HLX := hide (show w9.cell? ⟨N8, 0, none⟩ = some (.int .i64 (an : Int)) ∧ w9.cell? ⟨N8, 1, none⟩ = some (.int .i64 rp) ∧ w9.cell? ⟨N8, 2, none⟩ = some (.int .i64 (bn : Int)) ∧ w9.cell? ⟨N8, 3, none⟩ = some (.int .i64 rq) from by
              have hb := grown_off hg9 HL10.out.lt (hLN N8 rfl)
              have h3 := HL10.out.same hb
              exact ⟨h3.get 0 _ rfl, h3.get 1 _ rfl, h3.get 2 _ rfl, h3.get 3 _ rfl⟩)
            have HPU := hide (HS10.out.pushLink (l := ⟨((nowK v k an : Nat) : Int), rp, ((nowK v k bn : Nat) : Int), rq⟩) hown9 hg9 hat9)
            clear hown9 hg9 hat9
            have hS : (w9.cell? ⟨g, 1, none⟩ = some L ∧ w9.cell? ⟨g + 1, an, none⟩ = some (.int .i64 ((nowK v k an : Nat) : Int)) ∧ w9.cell? ⟨g + 1, bn, none⟩ = some (.int .i64 ((nowK v k bn : Nat) : Int))) ∧ w9.cell? ⟨N8, 0, none⟩ = some (.int .i64 (an : Int)) ∧ w9.cell? ⟨N8, 1, none⟩ = some (.int .i64 rp) ∧ w9.cell? ⟨N8, 2, none⟩ = some (.int .i64 (bn : Int)) ∧ w9.cell? ⟨N8, 3, none⟩ = some (.int .i64 rq) := ⟨⟨HGX.out.get 1 _ rfl, HWX.out.get an _ (intsA_get _ han), HWX.out.get bn _ (intsA_get _ hbn)⟩, HLX.out⟩
            refine hK.out _ _ (fun _ => hS) ?_
            clear hK K inv
            intro inv
            try simp only [Act.put, nrmA, nrmB, nrmC]
            revert inv
            refine rP 19 hS ?_
            intro inv
            have s0 : w9.cell? ⟨g, 1, none⟩ = some L := HGX.out.get 1 _ rfl
            have f0 : w9.frozen? ⟨g, 1, none⟩ = false := HGX.out.frozen 1
            refine rT 20 inv fun K hK => ?_
            go_simp
            refine hK.out _ _ ?_
            clear hK K inv
            intro inv
            try simp only [Act.put, nrmA, nrmB, nrmC]
            refine rD ?_
            clear inv
            clear s0 f0 hS HGX HWX HLX HQ
            go_wp2_with fail
            go_roundw
            case rel => exact ⟨j + 1, _, ls' ++ [⟨((nowK v k an : Nat) : Int), rp, ((nowK v k bn : Nat) : Int), rq⟩], by omega, by go_num, HPU, hide HN.out⟩
            case measure => simp [intOf]; omega
        · obtain rfl : j = ln := by omega
          obtain ⟨A1, c1, rfl, hc1, hs1, hA1⟩ := SlAt.of_own DevV.len HS.out.own rfl
          have hm1 : c1 ≤ maxLen := own_cap HS.out.own
          obtain ⟨A2, c2, rfl, hc2, hs2, hA2⟩ := SlAt.of_own LinkV.len HS.out.lnk rfl
          have hm2 : c2 ≤ maxLen := own_cap HS.out.lnk
          obtain ⟨A3, c3, rfl, hc3, hs3⟩ := ints_of_own HS.out.old (fun x hx => by
            unfold oldL at hx
            have := List.mem_range.1 (List.mem_filter.1 hx).1
            omega)
          have HSS := hide (And.intro hs1 (And.intro hs2 hs3))
          have k0 := HS.out.gx.get 0 _ rfl
          have k1 := HS.out.gx.get 1 _ rfl
          have r0 := HS.out.rx.get 0 _ rfl
          have r1 := HS.out.rx.get 1 _ rfl
          have f2 := HS.out.rx.frozen 0
          have f3 := HS.out.rx.frozen 1
          have hor := HS.out.ord
          have hgn : g ≠ W.heap.size + 1 := by omega
          clear hs1 hs2 hs3
          go_wp2
          have hst : StayOn (fun q => q ≠ W.heap.size + 1) wr ((wr.setCell ⟨W.heap.size + 1, 0, none⟩ (.slice A1 ds'.length c1)).setCell ⟨W.heap.size + 1, 1, none⟩ (.slice A2 ls'.length c2)) := (StayOn.of_set ⟨W.heap.size + 1, 0, none⟩ _).trans (StayOn.of_set ⟨W.heap.size + 1, 1, none⟩ _)
          have hszf : (((wr.setCell ⟨W.heap.size + 1, 0, none⟩ (.slice A1 ds'.length c1)).setCell ⟨W.heap.size + 1, 1, none⟩ (.slice A2 ls'.length c2))).heap.size = wr.heap.size := by simp [World.setCell]
          have hA3 : ∀ a, A3 = some a → g + 2 ≤ a.block := fun a ha => by
            have := (HS.out.old.lt a.block (by rw [ha]; rfl)).1
            exact this
          have hlk : ∀ l ∈ ls', l.ok := fun l hl => by
            rw [HPL.out] at hl
            unfold pickL at hl
            obtain ⟨l0, hl0, rfl⟩ := List.mem_map.1 hl
            have hm0 := List.mem_of_mem_take (List.mem_filter.1 hl0).1
            have h0 := (HNW.out wr HS.out.bl).lok l0 hm0
            have h1 := HLI.out l0 hm0
            have n1 := nowK_le v k l0.a.toNat
            have n2 := nowK_le v k l0.b.toNat
            refine ⟨?_, h0.2.1, ?_, h0.2.2.2⟩
            · show i64ok ((nowK v k l0.a.toNat : Nat) : Int)
              simp only [i64ok]; omega
            · show i64ok ((nowK v k l0.b.toNat : Nat) : Int)
              simp only [i64ok]; omega
          have HOO := hide (show OwnNet ((wr.setCell ⟨W.heap.size + 1, 0, none⟩ (.slice A1 ds'.length c1)).setCell ⟨W.heap.size + 1, 1, none⟩ (.slice A2 ls'.length c2)) 0 ⟨A1, ds'.length, c1, ds', A2, ls'.length, c2, ls'⟩ from by
            have hbk : ∀ q, q ≠ W.heap.size + 1 → ((wr.setCell ⟨W.heap.size + 1, 0, none⟩ (.slice A1 ds'.length c1)).setCell ⟨W.heap.size + 1, 1, none⟩ (.slice A2 ls'.length c2)).heap[q]? = wr.heap[q]? := fun q hq => (RowKit.Below.heap_setCell _ _ _ _ hq).trans (RowKit.Below.heap_setCell _ _ _ _ hq)
            exact ⟨own_same (HS.out.own.mono (Nat.zero_le _)) (fun q hq => hbk q (by have := (HS.out.own.lt q hq).1; omega)), rfl, ⟨ls', rfl, hlk, own_same (HS.out.lnk.mono (Nat.zero_le _)) (fun q hq => hbk q (by have := (HS.out.lnk.lt q hq).1; omega))⟩, fun d hd => (HS.out.od d hd).same (HS.out.don d hd) (fun q hq => hbk q (by have := hq.1; omega))⟩)
          refine bodyPost_ret (v := .tuple #[.agg #[.slice A1 ds'.length c1, .slice A2 ls'.length c2], .slice A3 (oldL v k).length c3]) (by simp [results, Try.f24, go_sem, r0, r1]) rfl ⟨⟨A1, ds'.length, c1, ds', A2, ls'.length, c2, ls'⟩, A3, c3, v, rfl, ?_, ⟨⟨fun a ha => by have := hA1 a ha; omega, fun a ha => by have := hA2 a ha; omega, fun d hd => (HS.out.don d hd).weak (fun q hq => by have := hq.1; omega)⟩, HOO.out⟩, HNEAR.out, HP.out, ?_, ?_, ?_⟩
          · rw [hszf]
            exact ⟨HSS.out.1.stay hst (fun a ha => by have := hA1 a ha; omega) (Nat.le_refl _), fun d hd => (HS.out.dev d hd).stay hst ((HS.out.don d hd).weak (fun q hq => by have := hq.1; omega)) (Nat.le_refl _), HSS.out.2.1.stay hst (fun a ha => by have := hA2 a ha; omega) (Nat.le_refl _), hlk, ⟨hc1, hm1⟩, ⟨hc2, hm2⟩⟩
          · have h := HPL.out
            rw [List.take_of_length_le (Nat.le_of_eq HLL.out)] at h
            exact h
          · rw [hszf]
            exact HSS.out.2.2.stay hst (fun a ha => by have := hA3 a ha; omega) (Nat.le_refl _)
          · exact (HS.out.bl.setCell (by show _ ≤ W.heap.size + 1; omega) _).setCell (by show _ ≤ W.heap.size + 1; omega) _
def SliceO (n : NetV) (nm : ByteArray) (W : World) (e : Ending) (W' : World) : Prop := Below W.heap.size W W' ∧
  ((chkE nm n.devs n.ls ≠ 0 ∧ e = .returned (.tuple #[.agg #[.slice none 0 0, .slice none 0 0], .int .i64 (chkE nm n.devs n.ls)])) ∨
   (chkE nm n.devs n.ls = 0 ∧ ∃ (m : NetV) (v : Nat → Bool), e = .returned (.tuple #[m.val, .int .i64 0]) ∧ NetAt W' W'.heap.size m ∧ (NetLo W.heap.size m ∧ OwnNet W' 0 m) ∧ NearIs n.ls (hostI nm n.devs).toNat v ∧ m.devs = pickD v n.devs n.devs.length ∧ m.ls = pickL v n.devs.length n.ls))
theorem sliceO_walk (n : NetV) (nm : ByteArray) (W : World) (hn : NetAt W W.heap.size n) : Calls Try.prog 7 #[n.val, .string nm] W (SliceO n nm W) := by
  have HC := hide (fun (w' : World) (hb : Below W.heap.size W w') => check_walk n nm w' (hn.below hb hb.size))
  have HS := hide (fun (hE : netE n.devs n.ls = 0) (i0 : Nat) (hi : i0 < n.dn) (w' : World) (hb : Below W.heap.size W w') => slicedO_walk n i0 w' (hn.below hb hb.size) hE hi)
  have HCH := hide (fun h => chkE_host (nm := nm) (ds := n.devs) (ls := n.ls) h)
  have HDL := hide (show n.devs.length = n.dn from by simp only [NetV.devs, List.length_map]; exact hn.dlen)
  have HIC := hide (show (chkE nm n.devs n.ls = 0 → chkI nm n.devs n.ls = hostI nm n.devs) from fun h => if_pos h)
  have HBAD := hide (fun (E : Int) (hE : chkE nm n.devs n.ls = E) (h0 : E ≠ 0) (w' : World) (hb : Below W.heap.size W w') => show SliceO n nm W (.returned (.tuple #[.agg #[.slice none 0 0, .slice none 0 0], .int .i64 E])) w' from ⟨hb, .inl ⟨by rw [hE]; exact h0, by rw [hE]⟩⟩)
  have HGOOD := hide (fun (hE : chkE nm n.devs n.ls = 0) (k : Nat) (hk : hostI nm n.devs = (k : Int)) (w' : World) (hb : Below W.heap.size W w') (m : NetV) (v : Nat → Bool) (h1 : NetAt w' w'.heap.size m) (h1' : NetLo W.heap.size m ∧ OwnNet w' 0 m) (h2 : NearIs n.ls k v) (h3 : m.devs = pickD v n.devs n.dn) (h4 : m.ls = pickL v n.dn n.ls) => show SliceO n nm W (.returned (.tuple #[m.val, .int .i64 0])) w' from
    ⟨hb, .inr ⟨hE, m, v, rfl, h1, h1', by rw [hk]; exact h2, by rw [HDL.out]; exact h3, by rw [HDL.out]; exact h4⟩⟩)
  clear hn
  generalize SliceO n nm W = Q at *
  obtain ⟨dA, dn, dc, ds, lA, ln, lc, ls⟩ := n
  simp only [NetV.val, NetV.devs] at *
  generalize hJ : chkI nm (ds.map DevV.dev) ls = J at *
  have HJ := hide hJ
  obtain ⟨C, hC⟩ : ∃ C, chkE nm (ds.map DevV.dev) ls = C := ⟨_, rfl⟩
  have HCC := hide hC
  simp only [hC] at HC
  clear hJ hC
  go_enter Try.func7, Try.ntmps7
  go_wp2_with fail
  have hb0 := (below_alloc2 W (.cells #[.slice dA dn dc, .slice lA ln lc] 25)).trans ((below_alloc2 (W.alloc (.cells #[.slice dA dn dc, .slice lA ln lc] 25)) (.cells #[.slice none 0 0, .slice none 0 0] 25)).mono (below_alloc2 W _).size)
  have HB0 := hide hb0
  have HX0 := hide ((Bx.new W #[.slice dA dn dc, .slice lA ln lc] 25).below (below_alloc2 (W.alloc (.cells #[.slice dA dn dc, .slice lA ln lc] 25)) (.cells #[.slice none 0 0, .slice none 0 0] 25)))
  have HR0 := hide (show Bx ((W.alloc (.cells #[.slice dA dn dc, .slice lA ln lc] 25)).alloc (.cells #[.slice none 0 0, .slice none 0 0] 25)) (W.heap.size + 1) #[.slice none 0 0, .slice none 0 0] 25 from by
    have h := Bx.new (W.alloc (.cells #[.slice dA dn dc, .slice lA ln lc] 25)) #[.slice none 0 0, .slice none 0 0] 25
    simpa using h)
  clear hb0
  generalize World.alloc (World.alloc W _) _ = w0 at *
  refine (HC.out w0 HB0.out).mono ?_
  clear HC
  rintro e w1 ⟨rfl, hb⟩
  have HB1 := hide (HB0.out.trans (hb.mono HB0.out.size))
  have HX1 := hide (HX0.out.below hb)
  have HR1 := hide (HR0.out.below hb)
  clear hb HB0 HX0 HR0
  have r0 := HR1.out.get 0 _ rfl
  have r1 := HR1.out.get 1 _ rfl
  have f0 := HR1.out.frozen 0
  have f1 := HR1.out.frozen 1
  by_cases h0 : C = 0
  · subst h0
    obtain ⟨hE, k, hk, hkl⟩ := HCH.out HCC.out
    have hJk : J = (k : Int) := (HIC.out HCC.out).trans hk
    subst hJk
    have HK := hide hk
    have HS1 := hide (HS.out hE k (by rw [← HDL.out]; exact hkl) w1 HB1.out)
    have x0 : w1.cell? ⟨W.heap.size, 0, none⟩ = some (.slice dA dn dc) := HX1.out.get 0 _ rfl
    have x1 : w1.cell? ⟨W.heap.size, 1, none⟩ = some (.slice lA ln lc) := HX1.out.get 1 _ rfl
    clear hE hk hkl HS
    go_wp2_with fail
    refine HS1.out.mono ?_
    clear HS1 x0 x1 r0 r1 f0 f1
    rintro e w2 ⟨m, A, c, v, rfl, hm, hlo, hnear, hd, hls, hi, hb⟩
    have HB2 := hide (HB1.out.trans (hb.mono HB1.out.size))
    have HR2 := hide (HR1.out.below hb)
    have HM := hide (And.intro hm (And.intro hnear (And.intro hd hls)))
    have HLO := hide hlo
    have hsr := HR1.out.lt
    clear hb hm hnear hd hls hi hlo HR1 HX1
    obtain ⟨mA, mn, mc, ms, kA, kn, kc, ks⟩ := m
    simp only [NetV.val, NetV.devs] at *
    have hrl := HR2.out.lt
    have r0 : ∀ o1, (w2.alloc o1).cell? ⟨W.heap.size + 1, 0, none⟩ = some (.slice none 0 0) := fun o1 => (HR2.out.below (below_alloc2 w2 o1)).get 0 _ rfl
    have r1 : ∀ o1, (w2.alloc o1).cell? ⟨W.heap.size + 1, 1, none⟩ = some (.slice none 0 0) := fun o1 => (HR2.out.below (below_alloc2 w2 o1)).get 1 _ rfl
    have f0 : ∀ o1, (w2.alloc o1).frozen? ⟨W.heap.size + 1, 0, none⟩ = false := fun o1 => (HR2.out.below (below_alloc2 w2 o1)).frozen 0
    have f1 : ∀ o1, (w2.alloc o1).frozen? ⟨W.heap.size + 1, 1, none⟩ = false := fun o1 => (HR2.out.below (below_alloc2 w2 o1)).frozen 1
    have hne2 : W.heap.size + 1 ≠ w2.heap.size := by omega
    have r0' := HR2.out.get 0 _ rfl
    have r1' := HR2.out.get 1 _ rfl
    have f0' := HR2.out.frozen 0
    have f1' := HR2.out.frozen 1
    go_wp2
    have hbx := ((HR2.out.set 0 (.slice mA mn mc)).set 1 (.slice kA kn kc)).below (below_alloc2 ((w2.setCell ⟨W.heap.size + 1, 0, none⟩ (.slice mA mn mc)).setCell ⟨W.heap.size + 1, 1, none⟩ (.slice kA kn kc)) (.cells #[.slice mA mn mc, .slice kA kn kc] 25))
    have z0 := hbx.get 0 (.slice mA mn mc) rfl
    have z1 := hbx.get 1 (.slice kA kn kc) rfl
    have hst : StayOn (fun q => q ≠ W.heap.size + 1) w2 ((w2.setCell ⟨W.heap.size + 1, 0, none⟩ (.slice mA mn mc)).setCell ⟨W.heap.size + 1, 1, none⟩ (.slice kA kn kc)) := (StayOn.of_set ⟨W.heap.size + 1, 0, none⟩ _).trans (StayOn.of_set ⟨W.heap.size + 1, 1, none⟩ _)
    have hszf : (((w2.setCell ⟨W.heap.size + 1, 0, none⟩ (.slice mA mn mc)).setCell ⟨W.heap.size + 1, 1, none⟩ (.slice kA kn kc))).heap.size = w2.heap.size := by simp [World.setCell]
    have hbf : Below W.heap.size W (((w2.setCell ⟨W.heap.size + 1, 0, none⟩ (.slice mA mn mc)).setCell ⟨W.heap.size + 1, 1, none⟩ (.slice kA kn kc)).alloc (.cells #[.slice mA mn mc, .slice kA kn kc] 25)) := ((HB2.out.setCell (by show _ ≤ W.heap.size + 1; omega) _).setCell (by show _ ≤ W.heap.size + 1; omega) _).trans ((below_alloc2 ((w2.setCell ⟨W.heap.size + 1, 0, none⟩ (.slice mA mn mc)).setCell ⟨W.heap.size + 1, 1, none⟩ (.slice kA kn kc)) _).mono (by rw [hszf]; exact HB2.out.size))
    have hnet : NetAt ((w2.setCell ⟨W.heap.size + 1, 0, none⟩ (.slice mA mn mc)).setCell ⟨W.heap.size + 1, 1, none⟩ (.slice kA kn kc)) w2.heap.size ⟨mA, mn, mc, ms, kA, kn, kc, ks⟩ := HM.out.1.stay hst (fun a ha => by have := HLO.out.1.d a ha; omega) (fun a ha => by have := HLO.out.1.l a ha; omega) (fun d hd => (HLO.out.1.o d hd).weak (fun q hq => by omega)) (Nat.le_refl _)
    have hnet2 : NetAt (((w2.setCell ⟨W.heap.size + 1, 0, none⟩ (.slice mA mn mc)).setCell ⟨W.heap.size + 1, 1, none⟩ (.slice kA kn kc)).alloc (.cells #[.slice mA mn mc, .slice kA kn kc] 25)) ((((w2.setCell ⟨W.heap.size + 1, 0, none⟩ (.slice mA mn mc)).setCell ⟨W.heap.size + 1, 1, none⟩ (.slice kA kn kc)).alloc (.cells #[.slice mA mn mc, .slice kA kn kc] 25))).heap.size ⟨mA, mn, mc, ms, kA, kn, kc, ks⟩ := by
      rw [← hszf] at hnet
      exact hnet.below (below_alloc2 ((w2.setCell ⟨W.heap.size + 1, 0, none⟩ (.slice mA mn mc)).setCell ⟨W.heap.size + 1, 1, none⟩ (.slice kA kn kc)) _) (below_alloc2 ((w2.setCell ⟨W.heap.size + 1, 0, none⟩ (.slice mA mn mc)).setCell ⟨W.heap.size + 1, 1, none⟩ (.slice kA kn kc)) _).size
    refine bodyPost_ret (v := .tuple #[.agg #[.slice mA mn mc, .slice kA kn kc], .int .i64 0]) (by simp only [results, Try.f7]; simp [go_sem, z0, z1]) rfl ?_
    exact HGOOD.out HCC.out k HK.out _ hbf ⟨mA, mn, mc, ms, kA, kn, kc, ks⟩ v hnet2 ⟨HLO.out.1.less (by omega), ((HLO.out.2.same (fun q hq => by have := HLO.out.1.blk q hq; exact (RowKit.Below.heap_setCell _ _ _ _ (by show q ≠ W.heap.size + 1; omega)).trans (RowKit.Below.heap_setCell _ _ _ _ (by show q ≠ W.heap.size + 1; omega)))).below (below_alloc2 _ _))⟩ HM.out.2.1 HM.out.2.2.1 HM.out.2.2.2
  · have h02 : (C != 0) = true := by simpa using h0
    have HC0 := hide h0
    clear h0
    go_wp2
    have hbx := (HR1.out.set 0 (.slice none 0 0)).set 1 (.slice none 0 0)
    have z0 := hbx.get 0 (.slice none 0 0) rfl
    have z1 := hbx.get 1 (.slice none 0 0) rfl
    refine bodyPost_ret (v := .tuple #[.agg #[.slice none 0 0, .slice none 0 0], .int .i64 C]) (by simp only [results, Try.f7]; simp [go_sem, z0, z1]) rfl ?_
    exact HBAD.out C HCC.out HC0.out _ ((HB1.out.setCell (by show _ ≤ W.heap.size + 1; omega) _).setCell (by show _ ≤ W.heap.size + 1; omega) _)
end Go.Proofs.Ytifkacnoiocebaa
