/- A part of the proof: No2, RgF, Vd1. -/
import Derived.Test.YtifkacnoiocebaaNw9
import Derived.Deep.LoopGhost
set_option linter.unusedVariables false
set_option linter.unusedSimpArgs false
set_option maxRecDepth 100000
set_option maxHeartbeats 8000000
namespace Go.Proofs.Ytifkacnoiocebaa
open Go.Maps Go.RowKit
theorem equalLink_yes (l : List LinkV) (A1 A2 : Option Addr) (n c1 c2 : Nat) (W : World) (hn : n ≤ 9223372036854775807) (h1 : SlAt LinkV.cells 4 W W.heap.size A1 n l) (h2 : SlAt LinkV.cells 4 W W.heap.size A2 n l) :
    Calls Try.prog 25 #[.slice A1 n c1, .slice A2 n c2] W fun e W' => e = .returned (.bool true) ∧ RowKit.Below W.heap.size W W' := by
  have H1 := hide h1
  have H2 := hide h2
  clear h1 h2
  go_enter Try.func25, Try.ntmps25
  go_wp2
  go_loopw [13] (fun i wr => ∃ k : Nat, k ≤ n ∧ i = .int .i64 k ∧ Hid (RowKit.Below W.heap.size W wr)) (fun i _ => n - (intOf i).toNat)
  case atStart => exact ⟨0, Nat.zero_le _, rfl, hide (RowKit.Below.refl _ _)⟩
  case round =>
    obtain ⟨k, hk, rfl, HB⟩ := hrel
    by_cases hlt : k < n
    · obtain ⟨z, hz⟩ : ∃ r, l[k]? = some r := ⟨_, List.getElem?_eq_getElem (by have := H1.out.1; omega)⟩
      obtain ⟨b, o, rfl, _, _⟩ := H1.out.2 (by omega)
      obtain ⟨b', o', rfl, _, _⟩ := H2.out.2 (by omega)
      obtain ⟨_, hg⟩ := (H1.out.below HB.out HB.out.size).get hz
      obtain ⟨_, hg'⟩ := (H2.out.below HB.out HB.out.size).get hz
      have q0 := hg 0 _ rfl
      have q1 := hg 1 _ rfl
      have q2 := hg 2 _ rfl
      have p0 := hg' 0 _ rfl
      have p1 := hg' 1 _ rfl
      have p2 := hg' 2 _ rfl
      have q3 := hg 3 _ rfl
      have p3 := hg' 3 _ rfl
      clear hg hg' hz
      rw [Nat.add_zero] at q0 p0
      go_wp2
      go_quiet (fail)
      go_wp2
      go_roundw
      case rel => exact ⟨k + 1, by omega, by go_num, hide (HB.out.trans (below_drew _ _ _))⟩
      case measure => simp [intOf]; omega
    · go_wp2
      go_ret
      exact ⟨rfl, HB.out⟩
theorem equalRule_yes (l : List RuleV) (A1 A2 : Option Addr) (n c1 c2 : Nat) (W : World) (hn : n ≤ 9223372036854775807) (h1 : SlAt RuleV.cells 5 W W.heap.size A1 n l) (h2 : SlAt RuleV.cells 5 W W.heap.size A2 n l) :
    Calls Try.prog 29 #[.slice A1 n c1, .slice A2 n c2] W fun e W' => e = .returned (.bool true) ∧ RowKit.Below W.heap.size W W' := by
  have H1 := hide h1
  have H2 := hide h2
  clear h1 h2
  go_enter Try.func29, Try.ntmps29
  go_wp2
  go_loopw [13] (fun i wr => ∃ k : Nat, k ≤ n ∧ i = .int .i64 k ∧ Hid (RowKit.Below W.heap.size W wr)) (fun i _ => n - (intOf i).toNat)
  case atStart => exact ⟨0, Nat.zero_le _, rfl, hide (RowKit.Below.refl _ _)⟩
  case round =>
    obtain ⟨k, hk, rfl, HB⟩ := hrel
    by_cases hlt : k < n
    · obtain ⟨z, hz⟩ : ∃ r, l[k]? = some r := ⟨_, List.getElem?_eq_getElem (by have := H1.out.1; omega)⟩
      obtain ⟨b, o, rfl, _, _⟩ := H1.out.2 (by omega)
      obtain ⟨b', o', rfl, _, _⟩ := H2.out.2 (by omega)
      obtain ⟨_, hg⟩ := (H1.out.below HB.out HB.out.size).get hz
      obtain ⟨_, hg'⟩ := (H2.out.below HB.out HB.out.size).get hz
      have q0 := hg 0 _ rfl
      have q1 := hg 1 _ rfl
      have q2 := hg 2 _ rfl
      have p0 := hg' 0 _ rfl
      have p1 := hg' 1 _ rfl
      have p2 := hg' 2 _ rfl
      have q3 := hg 3 _ rfl
      have p3 := hg' 3 _ rfl
      have q4 := hg 4 _ rfl
      have p4 := hg' 4 _ rfl
      clear hg hg' hz
      rw [Nat.add_zero] at q0 p0
      go_wp2
      go_quiet (fail)
      go_wp2
      go_roundw
      case rel => exact ⟨k + 1, by omega, by go_num, hide (HB.out.trans (below_drew _ _ _))⟩
      case measure => simp [intOf]; omega
    · go_wp2
      go_ret
      exact ⟨rfl, HB.out⟩
theorem equalRoute_yes (l : List RouteV) (A1 A2 : Option Addr) (n c1 c2 : Nat) (W : World) (hn : n ≤ 9223372036854775807) (h1 : SlAt RouteV.cells 3 W W.heap.size A1 n l) (h2 : SlAt RouteV.cells 3 W W.heap.size A2 n l) :
    Calls Try.prog 30 #[.slice A1 n c1, .slice A2 n c2] W fun e W' => e = .returned (.bool true) ∧ RowKit.Below W.heap.size W W' := by
  have H1 := hide h1
  have H2 := hide h2
  clear h1 h2
  go_enter Try.func30, Try.ntmps30
  go_wp2
  go_loopw [13] (fun i wr => ∃ k : Nat, k ≤ n ∧ i = .int .i64 k ∧ Hid (RowKit.Below W.heap.size W wr)) (fun i _ => n - (intOf i).toNat)
  case atStart => exact ⟨0, Nat.zero_le _, rfl, hide (RowKit.Below.refl _ _)⟩
  case round =>
    obtain ⟨k, hk, rfl, HB⟩ := hrel
    by_cases hlt : k < n
    · obtain ⟨z, hz⟩ : ∃ r, l[k]? = some r := ⟨_, List.getElem?_eq_getElem (by have := H1.out.1; omega)⟩
      obtain ⟨b, o, rfl, _, _⟩ := H1.out.2 (by omega)
      obtain ⟨b', o', rfl, _, _⟩ := H2.out.2 (by omega)
      obtain ⟨_, hg⟩ := (H1.out.below HB.out HB.out.size).get hz
      obtain ⟨_, hg'⟩ := (H2.out.below HB.out HB.out.size).get hz
      have q0 := hg 0 _ rfl
      have q1 := hg 1 _ rfl
      have q2 := hg 2 _ rfl
      have p0 := hg' 0 _ rfl
      have p1 := hg' 1 _ rfl
      have p2 := hg' 2 _ rfl
      clear hg hg' hz
      rw [Nat.add_zero] at q0 p0
      go_wp2
      go_quiet (fail)
      go_wp2
      go_roundw
      case rel => exact ⟨k + 1, by omega, by go_num, hide (HB.out.trans (below_drew _ _ _))⟩
      case measure => simp [intOf]; omega
    · go_wp2
      go_ret
      exact ⟨rfl, HB.out⟩
theorem below_two (w : World) (o o' : Obj) : RowKit.Below w.heap.size w ((w.alloc o).alloc o') := (below_alloc2 w o).trans ((below_alloc2 (w.alloc o) o').mono (below_alloc2 w o).size)
structure DevSame (w : World) (B : Nat) (x y : DevV) : Prop where
  ax : DevAt w B x
  ay : DevAt w B y
  e : x.dev = y.dev
theorem DevSame.below {w w' : World} {B B' : Nat} {x y : DevV} (h : DevSame w B x y) (hB : RowKit.Below B w w') (hB' : B ≤ B') : DevSame w' B' x y := ⟨h.ax.below hB hB', h.ay.below hB hB', h.e⟩
theorem DevSame.lens {w : World} {B : Nat} {x y : DevV} (h : DevSame w B x y) : x.bn = y.bn ∧ x.rn = y.rn ∧ x.tn = y.tn := by
  have h1 := h.ax.bs.1
  have h2 := h.ay.bs.1
  have h3 := h.ax.rs.1
  have h4 := h.ay.rs.1
  have h5 := h.ax.ts.1
  have h6 := h.ay.ts.1
  obtain ⟨_, _, _, _, _, _, _, b1, _, _, _, r1, _, _, _, t1⟩ := x
  obtain ⟨_, _, _, _, _, _, _, b2, _, _, _, r2, _, _, _, t2⟩ := y
  have he := h.e
  simp only [DevV.dev, Dev.mk.injEq] at he h1 h2 h3 h4 h5 h6 ⊢
  obtain ⟨_, _, _, _, rfl, rfl, rfl⟩ := he
  omega
theorem sameDev_walk (x y : DevV) (W : World) (h : DevSame W W.heap.size x y) :
    Calls Try.prog 27 #[x.val, y.val] W fun e W' => e = .returned (.bool true) ∧ RowKit.Below W.heap.size W W' := by
  have HS := hide h
  obtain ⟨l1, l2, l3⟩ := h.lens
  have he := h.e
  have hc1 := h.ax.cb
  have hc2 := h.ax.cr
  have hc3 := h.ax.ct
  clear h
  obtain ⟨nm, kd, ad, pl, bA, bn, bc, bs, rA, rn, rc, rs, tA, tn, tc, ts⟩ := x
  obtain ⟨nm', kd', ad', pl', bA', bn', bc', bs', rA', rn', rc', rs', tA', tn', tc', ts'⟩ := y
  simp only [DevV.dev, Dev.mk.injEq, DevV.val, maxLen] at *
  obtain ⟨rfl, rfl, rfl, hpl, rfl, rfl, rfl⟩ := he
  obtain rfl : pl = pl' := by omega
  subst l1 l2 l3
  have HQ1 := hide (fun (w' : World) (hb : RowKit.Below W.heap.size W w') => equal_yes bs bA bA' bn bc bc' w' (by omega) (HS.out.below hb hb.size).ax.bs (HS.out.below hb hb.size).ay.bs)
  have HQ2 := hide (fun (w' : World) (hb : RowKit.Below W.heap.size W w') => equalRule_yes rs rA rA' rn rc rc' w' (by omega) (HS.out.below hb hb.size).ax.rs.sl (HS.out.below hb hb.size).ay.rs.sl)
  have HQ3 := hide (fun (w' : World) (hb : RowKit.Below W.heap.size W w') => equalRoute_yes ts tA tA' tn tc tc' w' (by omega) (HS.out.below hb hb.size).ax.ts (HS.out.below hb hb.size).ay.ts)
  clear HS
  go_enter Try.func27, Try.ntmps27
  go_wp2_with fail
  have HB2 := hide (below_two W (.cells #[.string nm, .int .i64 kd, .int .i64 ad, .int .u8 (pl : Int), .slice bA bn bc, .slice rA rn rc, .slice tA tn tc] 61) (.cells #[.string nm, .int .i64 kd, .int .i64 ad, .int .u8 (pl : Int), .slice bA' bn bc', .slice rA' rn rc', .slice tA' tn tc'] 61))
  have HX0 := hide ((Bx.new W #[.string nm, .int .i64 kd, .int .i64 ad, .int .u8 (pl : Int), .slice bA bn bc, .slice rA rn rc, .slice tA tn tc] 61).below (below_alloc2 _ (.cells #[.string nm, .int .i64 kd, .int .i64 ad, .int .u8 (pl : Int), .slice bA' bn bc', .slice rA' rn rc', .slice tA' tn tc'] 61)))
  have HX1 := hide (show Bx ((W.alloc (.cells #[.string nm, .int .i64 kd, .int .i64 ad, .int .u8 (pl : Int), .slice bA bn bc, .slice rA rn rc, .slice tA tn tc] 61)).alloc (.cells #[.string nm, .int .i64 kd, .int .i64 ad, .int .u8 (pl : Int), .slice bA' bn bc', .slice rA' rn rc', .slice tA' tn tc'] 61)) (W.heap.size + 1) #[.string nm, .int .i64 kd, .int .i64 ad, .int .u8 (pl : Int), .slice bA' bn bc', .slice rA' rn rc', .slice tA' tn tc'] 61 from by
    have h := Bx.new (W.alloc (.cells #[.string nm, .int .i64 kd, .int .i64 ad, .int .u8 (pl : Int), .slice bA bn bc, .slice rA rn rc, .slice tA tn tc] 61)) #[.string nm, .int .i64 kd, .int .i64 ad, .int .u8 (pl : Int), .slice bA' bn bc', .slice rA' rn rc', .slice tA' tn tc'] 61
    simpa using h)
  generalize World.alloc (World.alloc W _) _ = w2 at *
  refine (HQ1.out w2 HB2.out).mono ?_
  clear HQ1
  rintro e w3 ⟨rfl, hb⟩
  have HB3 := hide (HB2.out.trans (hb.mono HB2.out.size))
  have HX0' := hide (HX0.out.below hb)
  have HX1' := hide (HX1.out.below hb)
  clear hb HB2 HX0 HX1
  have HX0 := HX0'
  have HX1 := HX1'
  clear HX0' HX1'
  have y0 := HX0.out.get 5 _ rfl
  have y1 := HX1.out.get 5 _ rfl
  go_wp2_with fail
  clear y0 y1
  refine (HQ2.out w3 HB3.out).mono ?_
  clear HQ2
  rintro e w4 ⟨rfl, hb⟩
  have HB4 := hide (HB3.out.trans (hb.mono HB3.out.size))
  have HX0' := hide (HX0.out.below hb)
  have HX1' := hide (HX1.out.below hb)
  clear hb HB3 HX0 HX1
  have HX0 := HX0'
  have HX1 := HX1'
  clear HX0' HX1'
  have y0 := HX0.out.get 6 _ rfl
  have y1 := HX1.out.get 6 _ rfl
  go_wp2_with fail
  clear y0 y1
  refine (HQ3.out w4 HB4.out).mono ?_
  clear HQ3
  rintro e w5 ⟨rfl, hb⟩
  have HB5 := hide (HB4.out.trans (hb.mono HB4.out.size))
  have HX0' := hide (HX0.out.below hb)
  have HX1' := hide (HX1.out.below hb)
  clear hb HB4 HX0 HX1
  have HX0 := HX0'
  have HX1 := HX1'
  clear HX0' HX1'
  go_wp2
  go_ret
  exact ⟨rfl, HB5.out⟩
structure NetSame (w : World) (B : Nat) (x y : NetV) : Prop where
  ax : NetAt w B x
  ay : NetAt w B y
  ed : x.devs = y.devs
  el : x.ls = y.ls
theorem NetSame.below {w w' : World} {B B' : Nat} {x y : NetV} (h : NetSame w B x y) (hB : RowKit.Below B w w') (hB' : B ≤ B') : NetSame w' B' x y := ⟨h.ax.below hB hB', h.ay.below hB hB', h.ed, h.el⟩
theorem equalDevs_walk (x y : NetV) (W : World) (h : NetSame W W.heap.size x y) :
    Calls Try.prog 26 #[.slice x.dA x.dn x.dc, .slice y.dA y.dn y.dc, .func (.func 27) #[] #[]] W fun e W' => e = .returned (.bool true) ∧ RowKit.Below W.heap.size W W' := by
  have HS := hide h
  have hn : x.dn = y.dn := by
    have h1 := congrArg List.length h.ed
    simp only [NetV.devs, List.length_map] at h1
    have := h.ax.dlen
    have := h.ay.dlen
    omega
  have hc := h.ax.cd
  have HSD := hide (fun (w' : World) (hb : RowKit.Below W.heap.size W w') (j : Nat) (r r' : DevV) (hr : x.ds[j]? = some r) (hr' : y.ds[j]? = some r') => show Calls Try.prog 27 #[r.val, r'.val] w' (fun e W' => e = .returned (.bool true) ∧ RowKit.Below w'.heap.size w' W') from sameDev_walk r r' w' ⟨(h.below hb hb.size).ax.dok r (List.mem_of_getElem? hr), (h.below hb hb.size).ay.dok r' (List.mem_of_getElem? hr'), by
    have e := congrArg (fun l => l[j]?) h.ed
    simp only [NetV.devs, List.getElem?_map, hr, hr', Option.map_some, Option.some.injEq] at e
    exact e⟩)
  have HLN := hide (show x.ds.length = x.dn ∧ y.ds.length = x.dn from ⟨h.ax.dlen, by rw [hn]; exact h.ay.dlen⟩)
  simp only [maxLen] at hc
  clear h
  rw [← hn]
  have HN := hide hn
  clear hn
  go_enter Try.func26, Try.ntmps26
  go_wp2_with fail
  go_loopw [17] (fun i wr => ∃ k : Nat, k ≤ x.dn ∧ i = .int .i64 k ∧ Hid (RowKit.Below W.heap.size W wr)) (fun i _ => x.dn - (intOf i).toNat)
  case atStart => exact ⟨0, Nat.zero_le _, rfl, hide (RowKit.Below.refl _ _)⟩
  case round =>
    obtain ⟨k, hk, rfl, HB⟩ := hrel
    by_cases hlt : k < x.dn
    case neg =>
      go_wp2
      go_ret
      exact ⟨rfl, HB.out⟩
    case pos =>
      obtain ⟨r, hr⟩ : ∃ r, x.ds[k]? = some r := ⟨_, List.getElem?_eq_getElem (by have := HLN.out.1; omega)⟩
      obtain ⟨r', hr'⟩ : ∃ r, y.ds[k]? = some r := ⟨_, List.getElem?_eq_getElem (by have := HLN.out.2; omega)⟩
      have HC := hide (fun (w' : World) (hb : RowKit.Below W.heap.size W w') => HSD.out w' hb k r r' hr hr')
      have HA := hide (fun (w' : World) (hb : RowKit.Below W.heap.size W w') => And.intro ((HS.out.below hb hb.size).ax.ds) ((HS.out.below hb hb.size).ay.ds))
      obtain ⟨b, o, e1, _, _⟩ := HS.out.ax.ds.2 (by omega)
      obtain ⟨b', o', e2, _, _⟩ := HS.out.ay.ds.2 (by have := HN.out; omega)
      rw [e1, e2] at HA
      rw [e1, e2]
      have HQ := hide (fun (w' : World) (hb : RowKit.Below W.heap.size W w') => And.intro (dev_get (HA.out w' hb).1 hr).2 (dev_get (HA.out w' hb).2 hr').2)
      clear hr hr' HA e1 e2
      obtain ⟨nm, kd, ad, pl, bA, bn, bc, bs, rA, rn, rc, rs, tA, tn, tc, ts⟩ := r
      obtain ⟨nm', kd', ad', pl', bA', bn', bc', bs', rA', rn', rc', rs', tA', tn', tc', ts'⟩ := r'
      simp only [DevV.val] at HC HQ
      obtain ⟨⟨q0, q1, q2, q3, q4, q5, q6⟩, _⟩ := HQ.out wr HB.out
      have HB1 := hide (HB.out.trans ((below_alloc2 wr (.cells #[.string nm, .int .i64 kd, .int .i64 ad, .int .u8 (pl : Int), .slice bA bn bc, .slice rA rn rc, .slice tA tn tc] 61)).mono HB.out.size))
      obtain ⟨_, p0, p1, p2, p3, p4, p5, p6⟩ := HQ.out _ HB1.out
      have HB2 := hide (HB1.out.trans ((below_alloc2 (wr.alloc (.cells #[.string nm, .int .i64 kd, .int .i64 ad, .int .u8 (pl : Int), .slice bA bn bc, .slice rA rn rc, .slice tA tn tc] 61)) (.cells #[.string nm', .int .i64 kd', .int .i64 ad', .int .u8 (pl' : Int), .slice bA' bn' bc', .slice rA' rn' rc', .slice tA' tn' tc'] 61)).mono HB1.out.size))
      clear HQ HSD
      go_wp2_with fail
      clear q0 q1 q2 q3 q4 q5 q6 p0 p1 p2 p3 p4 p5 p6
      refine (HC.out _ HB2.out).mono ?_
      clear HC
      rintro e w3 ⟨rfl, hb3⟩
      have HB3 := hide (HB2.out.trans (hb3.mono HB2.out.size))
      clear hb3 HB2 HB1 HB
      go_wp2_with fail
      go_roundw
      case rel => exact ⟨k + 1, by omega, by go_num, HB3⟩
      case measure => simp [intOf]; omega
theorem sameNet_walk (x y : NetV) (W : World) (h : NetSame W W.heap.size x y) :
    Calls Try.prog 8 #[x.val, y.val] W fun e W' => e = .returned (.bool true) ∧ RowKit.Below W.heap.size W W' := by
  have hn : x.ln = y.ln := by
    have h1 := congrArg List.length h.el
    have := h.ax.llen
    have := h.ay.llen
    omega
  have HS := hide h
  have hc := h.ax.cl
  have HL := hide (fun (w' : World) (hb : RowKit.Below W.heap.size W w') => show Calls Try.prog 25 #[.slice x.lA x.ln x.lc, .slice y.lA y.ln y.lc] w' (fun e W' => e = .returned (.bool true) ∧ RowKit.Below w'.heap.size w' W') from by
    have h1 := (h.below hb hb.size).ax.ls
    have h2 := (h.below hb hb.size).ay.ls
    rw [← h.el, ← hn] at h2
    rw [← hn]
    exact equalLink_yes x.ls x.lA y.lA x.ln x.lc y.lc w' (by have := hc; simp only [maxLen] at this; omega) h1 h2)
  have HD := hide (fun (w' : World) (hb : RowKit.Below W.heap.size W w') => equalDevs_walk x y w' (h.below hb hb.size))
  clear h hc hn HS
  simp only [NetV.val] at *
  go_enter Try.func8, Try.ntmps8
  go_wp2_with fail
  have HB2 := hide (below_two W (.cells #[.slice x.dA x.dn x.dc, .slice x.lA x.ln x.lc] 25) (.cells #[.slice y.dA y.dn y.dc, .slice y.lA y.ln y.lc] 25))
  have HX0 := hide ((Bx.new W #[.slice x.dA x.dn x.dc, .slice x.lA x.ln x.lc] 25).below (below_alloc2 _ (.cells #[.slice y.dA y.dn y.dc, .slice y.lA y.ln y.lc] 25)))
  have HX1 := hide (show Bx ((W.alloc (.cells #[.slice x.dA x.dn x.dc, .slice x.lA x.ln x.lc] 25)).alloc (.cells #[.slice y.dA y.dn y.dc, .slice y.lA y.ln y.lc] 25)) (W.heap.size + 1) #[.slice y.dA y.dn y.dc, .slice y.lA y.ln y.lc] 25 from by
    have h := Bx.new (W.alloc (.cells #[.slice x.dA x.dn x.dc, .slice x.lA x.ln x.lc] 25)) #[.slice y.dA y.dn y.dc, .slice y.lA y.ln y.lc] 25
    simpa using h)
  generalize World.alloc (World.alloc W _) _ = w2 at *
  refine (HL.out w2 HB2.out).mono ?_
  clear HL
  rintro e w3 ⟨rfl, hb⟩
  have HB3 := hide (HB2.out.trans (hb.mono HB2.out.size))
  have HX0' := hide (HX0.out.below hb)
  have HX1' := hide (HX1.out.below hb)
  clear hb HB2 HX0 HX1
  have HX0 := HX0'
  have HX1 := HX1'
  clear HX0' HX1'
  have y0 := HX0.out.get 0 _ rfl
  have y1 := HX1.out.get 0 _ rfl
  go_wp2_with fail
  clear y0 y1
  refine (HD.out w3 HB3.out).mono ?_
  clear HD
  rintro e w4 ⟨rfl, hb⟩
  have HB4 := hide (HB3.out.trans (hb.mono HB3.out.size))
  have HX0' := hide (HX0.out.below hb)
  have HX1' := hide (HX1.out.below hb)
  clear hb HB3 HX0 HX1
  have HX0 := HX0'
  have HX1 := HX1'
  clear HX0' HX1'
  go_wp2
  go_ret
  exact ⟨rfl, HB4.out⟩
end Go.Proofs.Ytifkacnoiocebaa
namespace Go.Proofs.Ytifkacnoiocebaa
open Bdd Go.RowKit
theorem countP_lt {p q : Nat → Bool} : ∀ {l : List Nat}, (∀ a ∈ l, p a = true → q a = true) → (∃ a ∈ l, q a = true ∧ p a = false) → l.countP p < l.countP q := by
  intro l
  induction l with
  | nil => rintro _ ⟨a, ha, _⟩; simp at ha
  | cons b l ih =>
    intro h hx
    have hle : l.countP p ≤ l.countP q := List.countP_mono_left (fun a ha => h a (by simp [ha]))
    have hb := h b (by simp)
    obtain ⟨a, ha, h1, h2⟩ := hx
    rw [List.countP_cons, List.countP_cons]
    rcases List.mem_cons.1 ha with rfl | ha'
    · rw [h1, h2]; simp; omega
    · have := ih (fun a ha => h a (by simp [ha])) ⟨a, ha', h1, h2⟩
      cases hp : p b
      · cases hq : q b <;> simp <;> omega
      · rw [hb hp]; simp; omega
end Go.Proofs.Ytifkacnoiocebaa
namespace Go.Proofs.Ytifkacnoiocebaa
open Go.Maps Go.RowKit
def bools (v : Nat → Bool) (n : Nat) : Array Value := ((List.range n).map fun i => Value.bool (v i)).toArray
theorem bools_get (v : Nat → Bool) {n i : Nat} (h : i < n) : (bools v n)[i]? = some (.bool (v i)) := by simp [bools, h]
theorem bools_set (v : Nat → Bool) (n i : Nat) (b : Bool) : (bools v n).setIfInBounds i (.bool b) = bools (fun k => if k = i then b else v k) n := by
  apply Array.ext'
  simp only [bools, List.setIfInBounds_toArray]
  apply List.ext_getElem?
  intro k
  rw [List.getElem?_set]
  by_cases hk : k < n
  · by_cases e : i = k
    · subst e; simp [hk]
    · simp [hk, e, Ne.symm e]
  · simp [hk]
    omega
theorem Try.infoBool : (Try.prog.info? 4).map (fun i => (i.zero, i.size, i.bytes)) = some (some (.bool false), 1, 1) := by kernel_rfl
theorem made_bools (n : Nat) : madeCells (Value.bool false).cells n = bools (fun _ => false) n := by
  apply Array.ext
  · simp [madeCells, bools]
  · intro i h1 h2
    simp [madeCells, bools, Value.cells, Nat.mod_one]
theorem run_bools (n : Nat) (hn : n ≤ 1000) (w : World) : (Instr.makeSlice 103 (.int .i64 (n : Int)) (.int .i64 (n : Int))).run Try.prog w = .ok (.slice (some ⟨w.heap.size, 0, none⟩) n n) (w.alloc (.cells (bools (fun _ => false) n) 4)) := by
  obtain ⟨i0, hi0, hz0, hz1, hz2⟩ := info_parts Try.infoBool
  have h := run_makeSlice (P := Try.prog) w 103 4 i0 _ Try.underlying103 hi0 hz0 .i64 .i64 (n : Int) (n : Int) (by omega) (Int.le_refl _) (by rw [hz1]; omega) (by rw [hz2]; omega) (by omega)
  rw [h, hz1, Int.toNat_natCast, Nat.mul_one, made_bools]
def nearStep (v : Nat → Bool) (l : LinkV) : Nat → Bool := if v l.a.toNat = v l.b.toNat then v else fun i => if i = l.b.toNat then true else if i = l.a.toNat then true else v i
def nearPass (ls : List LinkV) (v : Nat → Bool) : Nat → Bool := ls.foldl nearStep v
def nearIter (ls : List LinkV) (v : Nat → Bool) : Nat → Nat → Bool
  | 0 => v
  | k + 1 => nearPass ls (nearIter ls v k)
def cntB (n : Nat) (v : Nat → Bool) : Nat := (List.range n).countP v
theorem cntB_le (n : Nat) (v : Nat → Bool) : cntB n v ≤ n := by
  have := List.countP_le_length (p := v) (l := List.range n)
  simpa [cntB] using this
theorem cntB_mono {n : Nat} {v v' : Nat → Bool} (h : ∀ i, v i = true → v' i = true) : cntB n v ≤ cntB n v' := List.countP_mono_left (fun i _ => h i)
theorem cntB_lt {n : Nat} {v v' : Nat → Bool} (h : ∀ i, v i = true → v' i = true) {i : Nat} (hi : i < n) (h1 : v i = false) (h2 : v' i = true) : cntB n v < cntB n v' :=
  countP_lt (fun j _ => h j) ⟨i, List.mem_range.2 hi, h2, h1⟩
theorem nearStep_le (v : Nat → Bool) (l : LinkV) (i : Nat) (h : v i = true) : nearStep v l i = true := by
  unfold nearStep
  split
  · exact h
  · show (if i = l.b.toNat then true else if i = l.a.toNat then true else v i) = true
    split
    · rfl
    · split
      · rfl
      · exact h
theorem nearStep_lt {n : Nat} {v : Nat → Bool} {l : LinkV} (ha : l.a.toNat < n) (hb : l.b.toNat < n) (hne : v l.a.toNat ≠ v l.b.toNat) : cntB n v < cntB n (nearStep v l) := by
  have hs : nearStep v l = fun i => if i = l.b.toNat then true else if i = l.a.toNat then true else v i := if_neg hne
  cases e : v l.a.toNat
  · refine cntB_lt (nearStep_le v l) ha e ?_
    rw [hs]
    simp
  · refine cntB_lt (nearStep_le v l) hb (by rw [e] at hne; cases h : v l.b.toNat; rfl; exact absurd h.symm hne) ?_
    rw [hs]
    simp
def NearIs (ls : List LinkV) (i0 : Nat) (v : Nat → Bool) : Prop := nearPass ls v = v ∧ ∃ k, v = nearIter ls (fun i => decide (i = i0)) k
def LinksIn (ls : List LinkV) (n : Nat) : Prop := ∀ l ∈ ls, (0 ≤ l.a ∧ l.a < n) ∧ (0 ≤ l.b ∧ l.b < n)
def NearP (n : NetV) (i0 : Nat) (W : World) (e : Ending) (W' : World) : Prop := ∃ N v, e = .returned (.slice (some ⟨N, 0, none⟩) n.dn n.dn) ∧ W.heap.size ≤ N ∧ Bx W' N (bools v n.dn) 4 ∧ NearIs n.ls i0 v ∧ RowKit.Below W.heap.size W W'
theorem near_walk (n : NetV) (i0 : Nat) (W : World) (hn : NetAt W W.heap.size n) (hd : n.dn ≤ 10) (hl : n.ln ≤ 15) (hli : LinksIn n.ls n.dn) (hi : i0 < n.dn) :
    Calls Try.prog 40 #[n.val, .int .i64 (i0 : Int)] W (NearP n i0 W) := by
  have HNW := hide (fun (w' : World) (hb : RowKit.Below W.heap.size W w') => show NetAt w' W.heap.size n from hn.below hb (Nat.le_refl _))
  have HLL := hide hn.llen
  have HLI := hide hli
  clear hn hli
  obtain ⟨dA, dn, dc, ds, lA, ln, lc, ls⟩ := n
  simp only [NetV.val] at *
  have hmb := fun w => run_bools dn (by omega) w
  have hg0 := bools_get (fun _ => false) hi
  go_enter Try.func40, Try.ntmps40
  go_wp2_with fail
  have hst : (bools (fun _ => false) dn).setIfInBounds i0 (.bool true) = bools (fun i => decide (i = i0)) dn := by
    rw [bools_set]
    have e : (fun k => if k = i0 then true else false) = fun i => decide (i = i0) := by funext k; by_cases e : k = i0 <;> simp [e]
    rw [e]
  rw [hst]
  have hw1 : RowKit.Below W.heap.size W ((W.alloc (.cells #[.slice dA dn dc, .slice lA ln lc] 25)).alloc (.cells (bools (fun i => decide (i = i0)) dn) 4)) :=
    ((RowKit.Below.refl _ _).alloc (Nat.le_refl _) _).alloc (by simp) _
  have hx1 := (Bx.new W #[.slice dA dn dc, .slice lA ln lc] 25).below (below_alloc2 (W.alloc (.cells #[.slice dA dn dc, .slice lA ln lc] 25)) (.cells (bools (fun i => decide (i = i0)) dn) 4))
  have hy1 : Bx ((W.alloc (.cells #[.slice dA dn dc, .slice lA ln lc] 25)).alloc (.cells (bools (fun i => decide (i = i0)) dn) 4)) (W.heap.size + 1) (bools (fun i => decide (i = i0)) dn) 4 := by
    have h := Bx.new (W.alloc (.cells #[.slice dA dn dc, .slice lA ln lc] 25)) (bools (fun i => decide (i = i0)) dn) 4
    simpa using h
  have HB1 := hide hw1
  have HX1 := hide hx1
  have HY1 := hide hy1
  have HC0 := hide (show 0 < cntB dn (fun i => decide (i = i0)) from by
    have := cntB_lt (n := dn) (v := fun _ => false) (v' := fun i => decide (i = i0)) (fun i h => by cases h) hi rfl (by simp)
    omega)
  clear hw1 hx1 hy1 hmb hg0 hst
  generalize World.alloc (World.alloc W _) _ = w1 at *
  go_loopg [6] (dn + 1 - cntB dn (fun i => decide (i = i0))) (fun m u wr => ∃ (more : Bool) (v : Nat → Bool), u = .bool more ∧ Hid (Bx wr (W.heap.size + 1) (bools v dn) 4) ∧ Hid (Bx wr W.heap.size #[.slice dA dn dc, .slice lA ln lc] 25) ∧ Hid (RowKit.Below W.heap.size W wr) ∧ Hid (m = if more then dn + 1 - cntB dn v else 0) ∧ Hid (∃ k, v = nearIter ls (fun i => decide (i = i0)) k) ∧ Hid (more = false → nearPass ls v = v))
  case atStart => exact ⟨true, _, rfl, HY1, HX1, HB1, hide rfl, hide ⟨0, rfl⟩, hide (fun h => by cases h)⟩
  case round =>
    clear HY1 HX1 HB1 HC0
    obtain ⟨more, v, rfl, HY, HX, HB, HMU, HIT, HFX⟩ := hrel
    cases more
    · have HF := hide (And.intro (HFX.out rfl) HIT.out)
      go_wp2
      go_ret
      exact ⟨_, v, rfl, by omega, HY.out, HF.out, HB.out⟩
    · clear HFX
      have x1 : wr.cell? ⟨W.heap.size, 1, none⟩ = some (.slice lA ln lc) := HX.out.get 1 _ rfl
      go_wp2_with fail
      clear x1
      go_loopw [6, 20] (fun u i wr => ∃ (k : Nat) (more : Bool) (vk : Nat → Bool), k ≤ ln ∧ u = .bool more ∧ i = .int .i64 (k : Int) ∧ Hid (Bx wr (W.heap.size + 1) (bools vk dn) 4) ∧ Hid (Bx wr W.heap.size #[.slice dA dn dc, .slice lA ln lc] 25) ∧ Hid (RowKit.Below W.heap.size W wr) ∧ Hid (vk = (ls.take k).foldl nearStep v) ∧ Hid ((∀ i, v i = true → vk i = true) ∧ ((more = false ∧ vk = v) ∨ (more = true ∧ cntB dn v < cntB dn vk)))) (fun _ i _ => ln - (intOf i).toNat)
      case atStart => exact ⟨0, false, v, Nat.zero_le _, rfl, rfl, HY, HX, HB, hide rfl, hide ⟨fun _ h => h, .inl ⟨rfl, rfl⟩⟩⟩
      case round =>
        clear HY HX HB
        obtain ⟨k, more, vk, hk, rfl, rfl, HY, HX, HB, HV, HM⟩ := hrel
        by_cases hlt : k < ln
        · obtain ⟨r, hr⟩ : ∃ r, ls[k]? = some r := ⟨_, List.getElem?_eq_getElem (by have := HLL.out; omega)⟩
          have hna := HNW.out wr HB.out
          obtain ⟨lb, lo, rfl, _, _⟩ := hna.ls.2 (by show 0 < ln; omega)
          obtain ⟨_, q0, q1, q2, q3⟩ := link_get hna.ls hr
          obtain ⟨⟨ha1, ha2⟩, hb1, hb2⟩ := HLI.out r (List.mem_of_getElem? hr)
          have HST := hide (show (ls.take (k + 1)).foldl nearStep v = nearStep vk r from by
            obtain ⟨hk', e⟩ := List.getElem?_eq_some_iff.1 hr
            rw [List.take_succ_eq_append_getElem hk', e, List.foldl_append, HV.out]
            rfl)
          clear hna hr
          obtain ⟨ra, rp, rb, rq⟩ := r
          simp only at q0 q1 q2 q3 ha1 ha2 hb1 hb2
          obtain ⟨an, rfl⟩ : ∃ an : Nat, ra = (an : Int) := ⟨ra.toNat, by omega⟩
          obtain ⟨bn, rfl⟩ : ∃ bn : Nat, rb = (bn : Int) := ⟨rb.toNat, by omega⟩
          have han : an < dn := by omega
          have hbn : bn < dn := by omega
          clear ha1 ha2 hb1 hb2
          have hb8 := below_alloc2 wr (.cells #[.int .i64 (an : Int), .int .i64 rp, .int .i64 (bn : Int), .int .i64 rq] 66)
          have HY8 := hide (HY.out.below hb8)
          have HX8 := hide (HX.out.below hb8)
          have HB8 := hide (HB.out.trans (hb8.mono HB.out.size))
          have HL8 := hide (Bx.new wr #[.int .i64 (an : Int), .int .i64 rp, .int .i64 (bn : Int), .int .i64 rq] 66)
          have hne8 : W.heap.size + 1 ≠ wr.heap.size := by have := HY.out.lt; omega
          clear hb8
          go_wp2_with fail
          clear q0 q1 q2 q3 HY HX HB
          generalize World.alloc wr _ = w8 at *
          generalize wr.heap.size = N8 at *
          obtain ⟨va, hva⟩ : ∃ va, vk an = va := ⟨_, rfl⟩
          obtain ⟨vb, hvb⟩ : ∃ vb, vk bn = vb := ⟨_, rfl⟩
          have HVA := hide (And.intro hva hvb)
          have HGA := hide (fun (w' : World) (h : Bx w' (W.heap.size + 1) (bools vk dn) 4) => show w'.cell? ⟨W.heap.size + 1, an, none⟩ = some (.bool va) ∧ w'.cell? ⟨W.heap.size + 1, bn, none⟩ = some (.bool vb) from
            ⟨hva ▸ h.get an _ (bools_get vk han), hvb ▸ h.get bn _ (bools_get vk hbn)⟩)
          clear hva hvb
          refine wp_region_abs (by kernel_rfl) (by kernel_rfl) ?_
          intro T hT gt hg1 hgi
          have HGT := hide hg1
          clear hg1 hgi
          have k0 : ∀ t, (gt t).cell? ⟨N8, 0, none⟩ = some (.int .i64 (an : Int)) := fun t => (HL8.out.below (HGT.out t)).get 0 _ rfl
          have k1 : ∀ t, (gt t).cell? ⟨N8, 2, none⟩ = some (.int .i64 (bn : Int)) := fun t => (HL8.out.below (HGT.out t)).get 2 _ rfl
          have k2 : ∀ t, (gt t).cell? ⟨W.heap.size + 1, an, none⟩ = some (.bool va) := fun t => (HGA.out _ (HY8.out.below (HGT.out t))).1
          have k3 : ∀ t, (gt t).cell? ⟨W.heap.size + 1, bn, none⟩ = some (.bool vb) := fun t => (HGA.out _ (HY8.out.below (HGT.out t))).2
          repeat (go_big_quiet_step (fail))
          refine wpQuiet_nil ?_
          intro _ hw'
          obtain ⟨t, rfl⟩ := hw'
          have HY9 := hide (HY8.out.below (HGT.out t))
          have HX9 := hide (HX8.out.below (HGT.out t))
          have HL9 := hide (HL8.out.below (HGT.out t))
          have HB9 := hide (HB8.out.trans ((HGT.out t).mono HB8.out.size))
          generalize gt t = w9 at *
          clear HGT k0 k1 k2 k3 HY8 HX8 HL8 HB8
          have hab : va ≠ vb → an ≠ bn := fun hne e => hne (by rw [← HVA.out.1, ← HVA.out.2, e])
          cases va <;> cases vb
          · have HN := hide (show (ls.take (k + 1)).foldl nearStep v = vk from by rw [HST.out]; unfold nearStep; rw [if_pos]; show vk an = vk bn; rw [HVA.out.1, HVA.out.2])
            clear hab
            go_wp2_with fail
            go_roundw
            case rel => exact ⟨k + 1, more, vk, by omega, rfl, by go_num, HY9, HX9, HB9, hide HN.out.symm, HM⟩
            case measure => simp [intOf]; omega
          · have hab := hab (by decide)
            have HNE := hide (show vk an ≠ vk bn from by rw [HVA.out.1, HVA.out.2]; decide)
            have hdr := (RowKit.Below.refl w9.heap.size w9).drew
            have HY10 := hide (HY9.out.below hdr)
            have HX10 := hide (HX9.out.below hdr)
            have HL10 := hide (HL9.out.below hdr)
            have HB10 := hide (HB9.out.trans (hdr.mono HB9.out.size))
            clear hdr HY9 HX9 HL9 HB9
            go_wp2_with fail
            refine wp_region_E (fun w' => w'.cell? ⟨N8, 0, none⟩ = some (.int .i64 (an : Int)) ∧ w'.cell? ⟨N8, 2, none⟩ = some (.int .i64 (bn : Int))) 9 (by kernel_rfl) ⟨HL10.out.get 0 _ rfl, HL10.out.get 2 _ rfl⟩ (fun hS inv => ?_)
            generalize World.drew w9 = wd at *
            revert inv
            refine rP 0 hS ?_
            refine rP 1 hS ?_
            refine rL 2 [6, 7, 9] rfl hS (by intro w hSw; obtain ⟨s0, s1⟩ := hSw; go_simp; try with_reducible rfl) ?_
            refine rP 3 hS ?_
            refine rP 4 hS ?_
            refine rL 5 [8, 9] rfl hS (by intro w hSw; obtain ⟨s0, s1⟩ := hSw; go_simp; try with_reducible rfl) ?_
            refine rP 6 hS ?_
            intro inv
            have c7 := (HGA.out _ HY10.out).1
            have f7 : wd.frozen? ⟨W.heap.size + 1, an, none⟩ = false := HY10.out.frozen an
            refine rO 7 inv fun K hK => ?_
            go_simp
            clear c7 f7
            have HY11 := hide (HY10.out.set an (.bool true))
            rw [bools_set] at HY11
            have HX11 := hide (HX10.out.far ⟨W.heap.size + 1, an, none⟩ (.bool true) (by show W.heap.size ≠ W.heap.size + 1; omega))
            have HL11 := hide (HL10.out.far ⟨W.heap.size + 1, an, none⟩ (.bool true) (by show N8 ≠ W.heap.size + 1; exact fun e => hne8 e.symm))
            have HB11 := hide (HB10.out.setCell (show W.heap.size ≤ W.heap.size + 1 by omega) (.bool true) (p := ⟨W.heap.size + 1, an, none⟩))
            clear HY10 HX10 HL10 HB10 hS
            generalize World.setCell wd _ _ = w10 at *
            have hS : w10.cell? ⟨N8, 0, none⟩ = some (.int .i64 (an : Int)) ∧ w10.cell? ⟨N8, 2, none⟩ = some (.int .i64 (bn : Int)) := ⟨HL11.out.get 0 _ rfl, HL11.out.get 2 _ rfl⟩
            refine hK.out _ _ (fun _ => hS) ?_
            clear hK K hS inv
            intro inv
            try simp only [Act.put, nrmA, nrmB, nrmC]
            have hS : w10.cell? ⟨N8, 0, none⟩ = some (.int .i64 (an : Int)) ∧ w10.cell? ⟨N8, 2, none⟩ = some (.int .i64 (bn : Int)) := ⟨HL11.out.get 0 _ rfl, HL11.out.get 2 _ rfl⟩
            revert inv
            refine rP 8 hS ?_
            intro inv
            have c9 := HY11.out.get bn _ (bools_get _ hbn)
            have f9 : w10.frozen? ⟨W.heap.size + 1, bn, none⟩ = false := HY11.out.frozen bn
            refine rT 9 inv fun K hK => ?_
            go_simp
            refine hK.out _ _ ?_
            clear hK K inv
            intro inv
            try simp only [Act.put, nrmA, nrmB, nrmC]
            refine rD ?_
            clear inv
            clear c9 f9 hS
            have HY12 := hide (HY11.out.set bn (.bool true))
            rw [bools_set] at HY12
            have HX12 := hide (HX11.out.far ⟨W.heap.size + 1, bn, none⟩ (.bool true) (by show W.heap.size ≠ W.heap.size + 1; omega))
            have HB12 := hide (HB11.out.setCell (show W.heap.size ≤ W.heap.size + 1 by omega) (.bool true) (p := ⟨W.heap.size + 1, bn, none⟩))
            clear HY11 HX11 HL11 HB11
            generalize World.setCell w10 _ _ = w12 at *
            have HN := hide (show (ls.take (k + 1)).foldl nearStep v = fun i => if i = bn then true else if i = an then true else vk i from by
              rw [HST.out]; exact if_neg HNE.out)
            have HM2 := hide (show (∀ i, v i = true → (fun i => if i = bn then true else if i = an then true else vk i) i = true) ∧ cntB dn v < cntB dn (fun i => if i = bn then true else if i = an then true else vk i) from by
              have e : (fun i => if i = bn then true else if i = an then true else vk i) = nearStep vk ⟨(an : Int), rp, (bn : Int), rq⟩ := HN.out.symm.trans HST.out
              rw [e]
              refine ⟨fun i hi => nearStep_le _ _ _ (HM.out.1 i hi), ?_⟩
              have h1 := nearStep_lt (n := dn) (v := vk) (l := ⟨(an : Int), rp, (bn : Int), rq⟩) (by simpa using han) (by simpa using hbn) HNE.out
              have h2 : cntB dn v ≤ cntB dn vk := cntB_mono HM.out.1
              omega)
            clear hab HNE HST HVA HGA HM
            go_wp2_with fail
            go_roundw
            case rel => exact ⟨k + 1, true, _, by omega, rfl, by go_num, HY12, HX12, HB12, hide HN.out.symm, hide ⟨HM2.out.1, .inr ⟨rfl, HM2.out.2⟩⟩⟩
            case measure => simp [intOf]; omega
          · have hab := hab (by decide)
            have HNE := hide (show vk an ≠ vk bn from by rw [HVA.out.1, HVA.out.2]; decide)
            have hdr := (RowKit.Below.refl w9.heap.size w9).drew
            have HY10 := hide (HY9.out.below hdr)
            have HX10 := hide (HX9.out.below hdr)
            have HL10 := hide (HL9.out.below hdr)
            have HB10 := hide (HB9.out.trans (hdr.mono HB9.out.size))
            clear hdr HY9 HX9 HL9 HB9
            go_wp2_with fail
            refine wp_region_E (fun w' => w'.cell? ⟨N8, 0, none⟩ = some (.int .i64 (an : Int)) ∧ w'.cell? ⟨N8, 2, none⟩ = some (.int .i64 (bn : Int))) 9 (by kernel_rfl) ⟨HL10.out.get 0 _ rfl, HL10.out.get 2 _ rfl⟩ (fun hS inv => ?_)
            generalize World.drew w9 = wd at *
            revert inv
            refine rP 0 hS ?_
            refine rP 1 hS ?_
            refine rL 2 [6, 7, 9] rfl hS (by intro w hSw; obtain ⟨s0, s1⟩ := hSw; go_simp; try with_reducible rfl) ?_
            refine rP 3 hS ?_
            refine rP 4 hS ?_
            refine rL 5 [8, 9] rfl hS (by intro w hSw; obtain ⟨s0, s1⟩ := hSw; go_simp; try with_reducible rfl) ?_
            refine rP 6 hS ?_
            intro inv
            have c7 := (HGA.out _ HY10.out).1
            have f7 : wd.frozen? ⟨W.heap.size + 1, an, none⟩ = false := HY10.out.frozen an
            refine rO 7 inv fun K hK => ?_
            go_simp
            clear c7 f7
            have HY11 := hide (HY10.out.set an (.bool true))
            rw [bools_set] at HY11
            have HX11 := hide (HX10.out.far ⟨W.heap.size + 1, an, none⟩ (.bool true) (by show W.heap.size ≠ W.heap.size + 1; omega))
            have HL11 := hide (HL10.out.far ⟨W.heap.size + 1, an, none⟩ (.bool true) (by show N8 ≠ W.heap.size + 1; exact fun e => hne8 e.symm))
            have HB11 := hide (HB10.out.setCell (show W.heap.size ≤ W.heap.size + 1 by omega) (.bool true) (p := ⟨W.heap.size + 1, an, none⟩))
            clear HY10 HX10 HL10 HB10 hS
            generalize World.setCell wd _ _ = w10 at *
            have hS : w10.cell? ⟨N8, 0, none⟩ = some (.int .i64 (an : Int)) ∧ w10.cell? ⟨N8, 2, none⟩ = some (.int .i64 (bn : Int)) := ⟨HL11.out.get 0 _ rfl, HL11.out.get 2 _ rfl⟩
            refine hK.out _ _ (fun _ => hS) ?_
            clear hK K hS inv
            intro inv
            try simp only [Act.put, nrmA, nrmB, nrmC]
            have hS : w10.cell? ⟨N8, 0, none⟩ = some (.int .i64 (an : Int)) ∧ w10.cell? ⟨N8, 2, none⟩ = some (.int .i64 (bn : Int)) := ⟨HL11.out.get 0 _ rfl, HL11.out.get 2 _ rfl⟩
            revert inv
            refine rP 8 hS ?_
            intro inv
            have c9 := HY11.out.get bn _ (bools_get _ hbn)
            have f9 : w10.frozen? ⟨W.heap.size + 1, bn, none⟩ = false := HY11.out.frozen bn
            refine rT 9 inv fun K hK => ?_
            go_simp
            refine hK.out _ _ ?_
            clear hK K inv
            intro inv
            try simp only [Act.put, nrmA, nrmB, nrmC]
            refine rD ?_
            clear inv
            clear c9 f9 hS
            have HY12 := hide (HY11.out.set bn (.bool true))
            rw [bools_set] at HY12
            have HX12 := hide (HX11.out.far ⟨W.heap.size + 1, bn, none⟩ (.bool true) (by show W.heap.size ≠ W.heap.size + 1; omega))
            have HB12 := hide (HB11.out.setCell (show W.heap.size ≤ W.heap.size + 1 by omega) (.bool true) (p := ⟨W.heap.size + 1, bn, none⟩))
            clear HY11 HX11 HL11 HB11
            generalize World.setCell w10 _ _ = w12 at *
            have HN := hide (show (ls.take (k + 1)).foldl nearStep v = fun i => if i = bn then true else if i = an then true else vk i from by
              rw [HST.out]; exact if_neg HNE.out)
            have HM2 := hide (show (∀ i, v i = true → (fun i => if i = bn then true else if i = an then true else vk i) i = true) ∧ cntB dn v < cntB dn (fun i => if i = bn then true else if i = an then true else vk i) from by
              have e : (fun i => if i = bn then true else if i = an then true else vk i) = nearStep vk ⟨(an : Int), rp, (bn : Int), rq⟩ := HN.out.symm.trans HST.out
              rw [e]
              refine ⟨fun i hi => nearStep_le _ _ _ (HM.out.1 i hi), ?_⟩
              have h1 := nearStep_lt (n := dn) (v := vk) (l := ⟨(an : Int), rp, (bn : Int), rq⟩) (by simpa using han) (by simpa using hbn) HNE.out
              have h2 : cntB dn v ≤ cntB dn vk := cntB_mono HM.out.1
              omega)
            clear hab HNE HST HVA HGA HM
            go_wp2_with fail
            go_roundw
            case rel => exact ⟨k + 1, true, _, by omega, rfl, by go_num, HY12, HX12, HB12, hide HN.out.symm, hide ⟨HM2.out.1, .inr ⟨rfl, HM2.out.2⟩⟩⟩
            case measure => simp [intOf]; omega
          · have HN := hide (show (ls.take (k + 1)).foldl nearStep v = vk from by rw [HST.out]; unfold nearStep; rw [if_pos]; show vk an = vk bn; rw [HVA.out.1, HVA.out.2])
            clear hab
            go_wp2_with fail
            go_roundw
            case rel => exact ⟨k + 1, more, vk, by omega, rfl, by go_num, HY9, HX9, HB9, hide HN.out.symm, HM⟩
            case measure => simp [intOf]; omega
        · obtain rfl : k = ln := by omega
          have HFL := hide (show vk = nearPass ls v from by rw [HV.out, List.take_of_length_le (Nat.le_of_eq HLL.out)]; rfl)
          go_wp2_with fail
          go_roundg (if more then dn + 1 - cntB dn vk else 0)
          case measure =>
            have h1 := HMU.out
            rw [if_pos trivial] at h1
            have h2 := cntB_le dn v
            have h3 := cntB_le dn vk
            rcases HM.out.2 with ⟨rfl, _⟩ | ⟨rfl, hc⟩
            · simp; omega
            · simp; omega
          case rel =>
            exact ⟨more, vk, rfl, HY, HX, HB, hide rfl, hide (by
              obtain ⟨j, hj⟩ := HIT.out
              exact ⟨j + 1, by rw [HFL.out, hj]; rfl⟩), hide (fun hm => by
              rcases HM.out.2 with ⟨_, h⟩ | ⟨h, _⟩
              · rw [h]; rw [← HFL.out]; exact h
              · rw [hm] at h; cases h)⟩
end Go.Proofs.Ytifkacnoiocebaa
