/- match.Build -/
import Derived.Test.YtidikopjfpioaaaBuilt
import Derived.WalkLawsBesides
set_option linter.unusedVariables false
set_option linter.unusedSimpArgs false
namespace Go.Proofs.Ytidikopjfpioaaa
open Go.RowKit Go.Maps Bdd

def partBox (s d p q : Nat) : Array Value := #[.int .u16 s, .int .i64 4, .int .i64 0, .int .u16 p, .int .i64 3, .int .i64 8, .int .u16 d, .int .i64 4, .int .i64 4, .int .u16 q, .int .i64 3, .int .i64 11]

set_option maxRecDepth 100000 in
set_option maxHeartbeats 4000000 in
theorem parts_walk (w : World) (s d p q : Nat) (hs : s < 65536) (hd : d < 65536) (hp : p < 256) (hq : q < 256) :
    Calls Try.prog 131 #[.agg #[.int .u16 s, .int .u16 d, .int .u8 p, .int .u8 q]] w fun e W' => e = .returned (.slice (some ⟨w.heap.size + 1, 0, none⟩) 4 4) ∧ ∃ o0, W' = (w.alloc o0).alloc (.cells (partBox s d p q) 196) := by
  go_enter Try.func131, Try.ntmps131
  go_wp2
  go_ret
  exact ⟨rfl, _, rfl⟩

/-- What is built of a match. -/
structure PartV where
  set : Nat
  bits : Nat
  first : Nat
def partL (s d p q : Nat) : List PartV := [⟨s, 4, 0⟩, ⟨p, 3, 8⟩, ⟨d, 4, 4⟩, ⟨q, 3, 11⟩]
def PartV.fn (x : PartV) : Bdd.Fn := bitF x.set x.bits x.first 0
def outs (l : List PartV) : Bdd.Fn := l.foldl (fun F x => iteF F x.fn (fun _ => false)) (fun _ => true)
theorem outs_snoc {l : List PartV} {k : Nat} {x : PartV} (h : l[k]? = some x) : outs (l.take (k + 1)) = iteF (outs (l.take k)) x.fn (fun _ => false) := by
  rw [List.take_add_one, h]; simp [outs]

/-- What is new when it is built. -/
def NewB (l : List PartV) (G : Bdd.Fn) : Prop := (∃ u, Cof (fun x : Asg => x u) G) ∨ (∃ x ∈ l, Cof x.fn G) ∨ ∃ k, k < l.length ∧ Cof (outs (l.take (k + 1))) G

theorem part_get (s d p q k : Nat) (hs : s < 65536) (hd : d < 65536) (hp : p < 256) (hq : q < 256) (hk : k < 4) : ∃ x : PartV, (partL s d p q)[k]? = some x ∧ x.set < 65536 ∧ x.bits ≤ 4 ∧ x.first + x.bits ≤ 14 ∧
    (partBox s d p q)[k * 3]? = some (.int .u16 x.set) ∧ (partBox s d p q)[k * 3 + 1]? = some (.int .i64 x.bits) ∧ (partBox s d p q)[k * 3 + 2]? = some (.int .i64 x.first) := by
  match k, hk with
  | 0, _ => exact ⟨_, rfl, hs, (by show 4 ≤ 4; omega), (by show 0 + 4 ≤ 14; omega), rfl, rfl, rfl⟩
  | 1, _ => exact ⟨_, rfl, (by show p < _; omega), (by show 3 ≤ 4; omega), (by show 8 + 3 ≤ 14; omega), rfl, rfl, rfl⟩
  | 2, _ => exact ⟨_, rfl, hd, (by show 4 ≤ 4; omega), (by show 4 + 4 ≤ 14; omega), rfl, rfl, rfl⟩
  | 3, _ => exact ⟨_, rfl, (by show q < _; omega), (by show 3 ≤ 4; omega), (by show 11 + 3 ≤ 14; omega), rfl, rfl, rfl⟩

theorem Stg.base {w : World} {B g nb kb ib cap : Nat} {A : St} {K T : Tri → Option Value} (h0 : ArenaAt w B g nb kb ib cap A K T) {box box2 : Array Value} {t t2 : TypeId} {wa wp wr : World} {nb1 cap1 nb2 cap2 : Nat} {A1 A2 : St} {K1 T1 K2 T2 : Tri → Option Value}
    (h : Stg w B g nb kb ib box t wa nb1 cap1 A1 K1 T1) (hb : RowKit.Below wa.heap.size wa wp) (h2 : Stg wp B g nb1 kb ib box2 t2 wr nb2 cap2 A2 K2 T2) : Stg w B g nb kb ib box t wr nb2 cap2 A2 K2 T2 :=
  h.step h0 h2.ar (h2.nbc.imp id (fun hh => by have := hb.size; omega)) ((Frm.of_below hb).trans h2.fm (fun _ _ h => h))

/-- What stands ahead of round k. -/
def AtK (l : List PartV) (A : St) (k r : Nat) (A2 : St) : Prop := Ext A A2 ∧ A2.full = false ∧ (∀ j, A.len ≤ j → j < A2.len → NewB l (den A2.ns j)) ∧ r < A2.ns.length ∧ den A2.ns r = outs (l.take k)

set_option maxRecDepth 100000 in
set_option maxHeartbeats 8000000 in
theorem build_walk {w : World} {B g nb kb ib cap : Nat} {A : St} {K T : Tri → Option Value} (h : ArenaAt w B g nb kb ib cap A K T) (hA : A.full = false) (hv : 14 ≤ A.vars) (s d p q : Nat) (hs : s < 65536) (hd : d < 65536) (hp : p < 256) (hq : q < 256) :
    Calls Try.prog 88 #[.pointer (some ⟨g, 0, none⟩), .agg #[.int .u16 s, .int .u16 d, .int .u8 p, .int .u8 q]] w (BP w B g nb kb ib A (outs (partL s d p q)) (NewB (partL s d p q))) := by
  have hb0 : RowKit.Below w.heap.size w (w.alloc (.cells #[.int .u16 s, .int .u16 d, .int .u8 p, .int .u8 q] 103)) := (RowKit.Below.refl _ _).alloc (Nat.le_refl _) _
  have HS0 : Hid (Stg w B g nb kb ib #[.int .u16 s, .int .u16 d, .int .u8 p, .int .u8 q] 103 (w.alloc (.cells #[.int .u16 s, .int .u16 d, .int .u8 p, .int .u8 q] 103)) nb cap A K T) := hide
    ⟨h.below hb0, Frm.of_below hb0, heap_alloc_new w _, .inl rfl⟩
  have H := hide h
  have HA := hide hA
  have HV := hide hv
  clear h hA hv hb0
  go_enter Try.func88, Try.ntmps88
  go_wp2_with fail
  have hvar : Calls Try.prog 76 #[.pointer (some ⟨g, 0, none⟩), .int .i64 13] (w.alloc (.cells #[.int .u16 s, .int .u16 d, .int .u8 p, .int .u8 q] 103)) (OpP (w.alloc (.cells #[.int .u16 s, .int .u16 d, .int .u8 p, .int .u8 q] 103)) B g nb kb ib A (fun x => x 13) 13) := opVar_walk HS0.out.ar 13 HV.out
  refine hvar.mono ?_
  clear hvar
  rintro e wa hop
  obtain ⟨nb1, cap1, A1, K1, T1, hx1, hf1, hp1, ha1, hn1, hm1, hres⟩ := hop.bp HA.out (P := NewB (partL s d p q)) (fun G hG => .inl ⟨13, hG⟩)
  have HS1 := hide (HS0.out.step H.out ha1 hn1 hm1)
  have HX1 := hide (And.intro hx1 (And.intro hf1 hp1))
  clear hop hx1 hf1 hp1 ha1 hn1 hm1 HS0
  rcases hres with ⟨lo, rfl, hr1, hd1⟩ | ⟨rfl, hfull⟩
  case inr =>
    have HF : Hid (BP w B g nb kb ib A (outs (partL s d p q)) (NewB (partL s d p q)) (.returned (.tuple #[.int .i64 0, .int .i64 6])) wa) := hide
      ⟨nb1, cap1, A1, K1, T1, HX1.out.1, HX1.out.2.1, HX1.out.2.2, HS1.out.ar, HS1.out.nbc.imp id (fun h => by omega), HS1.out.fm, .inr ⟨rfl, hfull⟩⟩
    clear hfull
    go_wp2
    go_ret2
    exact HF.out
  clear hr1 hd1
  have x0 : wa.cell? ⟨w.heap.size, 0, none⟩ = some (.int .u16 s) := by rw [cell_of_row _ _ _ _ _ _ HS1.out.bx]; rfl
  have x1 : wa.cell? ⟨w.heap.size, 1, none⟩ = some (.int .u16 d) := by rw [cell_of_row _ _ _ _ _ _ HS1.out.bx]; rfl
  have x2 : wa.cell? ⟨w.heap.size, 2, none⟩ = some (.int .u8 p) := by rw [cell_of_row _ _ _ _ _ _ HS1.out.bx]; rfl
  have x3 : wa.cell? ⟨w.heap.size, 3, none⟩ = some (.int .u8 q) := by rw [cell_of_row _ _ _ _ _ _ HS1.out.bx]; rfl
  go_wp2_with fail
  refine (parts_walk wa s d p q hs hd hp hq).mono ?_
  rintro e wb ⟨rfl, o0, hwb⟩
  clear x0 x1 x2 x3
  have hbp : RowKit.Below wa.heap.size wa (wa.alloc o0) := (RowKit.Below.refl _ _).alloc (Nat.le_refl _) _
  have H0 := hide (HS1.out.ar.below hbp)
  have HP0 : Hid (Stg (wa.alloc o0) B g nb1 kb ib (partBox s d p q) 196 wb nb1 cap1 A1 K1 T1) := hide (by
    have hb1 : RowKit.Below (wa.alloc o0).heap.size (wa.alloc o0) wb := by rw [hwb]; exact (RowKit.Below.refl _ _).alloc (Nat.le_refl _) _
    exact ⟨H0.out.below hb1, Frm.of_below hb1, by rw [hwb]; exact heap_alloc_new _ _, .inl rfl⟩)
  have HBP := hide hbp
  have hsz : (wa.alloc o0).heap.size = wa.heap.size + 1 := by simp
  have HSZ := hide hsz
  have HA0 := hide (show AtK (partL s d p q) A 0 1 A1 from ⟨HX1.out.1, HX1.out.2.1, HX1.out.2.2, (by have := HX1.out.1.inv.ok.two; omega), (by funext x; simp [den_one, outs])⟩)
  clear hbp hwb hsz
  go_wp2
  go_loopw [8, 24] (fun u i wr => ∃ (k r nb2 cap2 : Nat) (A2 : St) (K2 T2 : Tri → Option Value), k ≤ 4 ∧ i = .int .i64 k ∧ u = .int .i64 r ∧ Hid (Stg (wa.alloc o0) B g nb1 kb ib (partBox s d p q) 196 wr nb2 cap2 A2 K2 T2) ∧ Hid (AtK (partL s d p q) A k r A2)) (fun _ i _ => 4 - (intOf i).toNat)
  case atStart => exact ⟨0, 1, nb1, cap1, A1, K1, T1, Nat.zero_le _, rfl, rfl, HP0, HA0⟩
  case round =>
    clear HP0 HA0
    obtain ⟨k, r, nb2, cap2, A2, K2, T2, hk, rfl, rfl, HP, HK⟩ := hrel
    by_cases hlt : k < 4
    · obtain ⟨⟨xs, xb, xf⟩, hx, hxs, hxb, hxf, g0, g1, g2⟩ := part_get s d p q k hs hd hp hq hlt
      have x0 : wr.cell? ⟨wa.heap.size + 1, k * 3, none⟩ = some (.int .u16 xs) := by rw [← HSZ.out, cell_of_row _ _ _ _ _ _ HP.out.bx]; exact g0
      have x1 : wr.cell? ⟨wa.heap.size + 1, k * 3 + 1, none⟩ = some (.int .i64 xb) := by rw [← HSZ.out, cell_of_row _ _ _ _ _ _ HP.out.bx]; exact g1
      have x2 : wr.cell? ⟨wa.heap.size + 1, k * 3 + 2, none⟩ = some (.int .i64 xf) := by rw [← HSZ.out, cell_of_row _ _ _ _ _ _ HP.out.bx]; exact g2
      have HX := hide (And.intro hx (And.intro hxs (And.intro hxb hxf)))
      clear hx g0 g1 g2 hxs hxb hxf
      have hB3 : RowKit.Below wr.heap.size wr (wr.alloc (.cells #[.int .u16 xs, .int .i64 xb, .int .i64 xf] 196)) := (RowKit.Below.refl _ _).alloc (Nat.le_refl _) _
      have HQ := hide (HP.out.below H0.out hB3)
      have hvv : 14 ≤ A2.vars := by rw [HK.out.1.vars]; exact HV.out
      have hpw : (0 + 1) * 2 ^ xb ≤ 16 := by
        have := Nat.pow_le_pow_right (n := 2) (by omega) HX.out.2.2.1
        simp only at this
        omega
      have HCB : Hid (Calls Try.prog 132 #[.agg #[.int .u16 xs, .int .i64 xb, .int .i64 xf], .pointer (some ⟨g, 0, none⟩), .int .i64 0, .int .i64 0] (wr.alloc (.cells #[.int .u16 xs, .int .i64 xb, .int .i64 xf] 196)) (BP (wr.alloc (.cells #[.int .u16 xs, .int .i64 xb, .int .i64 xf] 196)) B g nb2 kb ib A2 (bitF xs xb (xf + 0) 0) (NewB (partL s d p q)))) :=
        hide (built_walk xs xb xf HX.out.2.1 HX.out.2.2.1 (by have := HX.out.2.2.2; simp only at this; omega) _ (fun u G hG => .inl ⟨u, hG⟩) xb _ _ _ _ _ _ _ _ _ _ HQ.out.ar 0 0 HK.out.2.1 (by omega) (by have := HX.out.2.2.2; simp only at this; omega) hpw
          (fun G hG => .inr (.inl ⟨_, List.mem_of_getElem? HX.out.1, hG⟩)))
      clear hB3 hvv hpw
      go_wp2_with fail
      refine HCB.out.mono ?_
      clear HCB x0 x1 x2
      rintro e wc ⟨nb3, cap3, A3, K3, T3, hx3, hf3, hp3, ha3, hn3, hm3, hres⟩
      have HR := hide (HQ.out.step H0.out ha3 hn3 hm3)
      have HE := hide (show AtK (partL s d p q) A k r A3 from ⟨HK.out.1.trans hx3, hf3, fun j h1 h2 => (by
        rcases Nat.lt_or_ge j A2.len with hl | hl
        · rw [hx3.den HK.out.1.inv hl]; exact HK.out.2.2.1 j h1 hl
        · exact hp3 j hl h2), Nat.lt_of_lt_of_le HK.out.2.2.2.1 hx3.len, (hx3.den HK.out.1.inv HK.out.2.2.2.1).trans HK.out.2.2.2.2⟩)
      clear hx3 hf3 hp3 ha3 hn3 hm3 HP HK HQ
      rcases hres with ⟨f, rfl, hr3, hd3⟩ | ⟨rfl, hfull⟩
      case inr =>
        have HS5 := hide (HS1.out.base H.out HBP.out HR.out)
        have HF : Hid (BP w B g nb kb ib A (outs (partL s d p q)) (NewB (partL s d p q)) (.returned (.tuple #[.int .i64 0, .int .i64 6])) wc) := hide
          ⟨nb3, cap3, A3, K3, T3, HE.out.1, HE.out.2.1, HE.out.2.2.1, HS5.out.ar, HS5.out.nbc.imp id (fun h => by omega), HS5.out.fm, .inr ⟨rfl, hfull⟩⟩
        clear hfull
        go_wp2
        go_ret2
        exact HF.out
      have HD := hide (And.intro hr3 hd3)
      clear hr3 hd3
      go_wp2_with fail
      refine (opAnd_walk HR.out.ar r f HE.out.2.2.2.1 HD.out.1).mono ?_
      rintro e wd hop
      have e0 : den A3.ns 0 = fun _ => false := by funext x; simp [den_zero]
      have eo : iteF (den A3.ns r) (den A3.ns f) (den A3.ns 0) = outs ((partL s d p q).take (k + 1)) := by
        rw [outs_snoc HX.out.1, HE.out.2.2.2.2, e0, HD.out.2]; rfl
      rw [eo] at hop
      obtain ⟨nb4, cap4, A4, K4, T4, hx4, hf4, hp4, ha4, hn4, hm4, hres⟩ := hop.bp HE.out.2.1 (P := NewB (partL s d p q)) (fun G hG => .inr (.inr ⟨k, hlt, hG⟩))
      clear hop eo e0
      have HR4 := hide (HR.out.step H0.out ha4 hn4 hm4)
      have HE3 := HE
      have HE := hide (show Ext A A4 ∧ A4.full = false ∧ (∀ j, A.len ≤ j → j < A4.len → NewB (partL s d p q) (den A4.ns j)) ∧ True from ⟨HE3.out.1.trans hx4, hf4, fun j h1 h2 => (by
        rcases Nat.lt_or_ge j A3.len with hl | hl
        · rw [hx4.den HE3.out.1.inv hl]; exact HE3.out.2.2.1 j h1 hl
        · exact hp4 j hl h2), trivial⟩)
      clear hx4 hf4 hp4 ha4 hn4 hm4 HE3 HR
      rcases hres with ⟨o, rfl, hr4, hd4⟩ | ⟨rfl, hfull⟩
      case inr =>
        have HS5 := hide (HS1.out.base H.out HBP.out HR4.out)
        have HF : Hid (BP w B g nb kb ib A (outs (partL s d p q)) (NewB (partL s d p q)) (.returned (.tuple #[.int .i64 0, .int .i64 6])) wd) := hide
          ⟨nb4, cap4, A4, K4, T4, HE.out.1, HE.out.2.1, HE.out.2.2.1, HS5.out.ar, HS5.out.nbc.imp id (fun h => by omega), HS5.out.fm, .inr ⟨rfl, hfull⟩⟩
        clear hfull
        go_wp2
        go_ret2
        exact HF.out
      have HK5 := hide (show AtK (partL s d p q) A (k + 1) o A4 from ⟨HE.out.1, HE.out.2.1, HE.out.2.2.1, hr4, hd4⟩)
      clear hr4 hd4
      go_wp2
      go_roundw
      case rel => exact ⟨k + 1, o, nb4, cap4, A4, K4, T4, by omega, by go_num, rfl, HR4, HK5⟩
      case measure => simp [intOf]; omega
    · have hk4 : k = 4 := by omega
      subst hk4
      have HS5 := hide (HS1.out.base H.out HBP.out HP.out)
      have HF : Hid (BP w B g nb kb ib A (outs (partL s d p q)) (NewB (partL s d p q)) (.returned (.tuple #[.int .i64 (r : Int), .int .i64 0])) wr) := hide
        ⟨nb2, cap2, A2, K2, T2, HK.out.1, HK.out.2.1, HK.out.2.2.1, HS5.out.ar, HS5.out.nbc.imp id (fun h => by omega), HS5.out.fm, .inl ⟨r, rfl, HK.out.2.2.2.1, HK.out.2.2.2.2⟩⟩
      go_wp2
      go_ret2
      exact HF.out
end Go.Proofs.Ytidikopjfpioaaa
