/- A part of the proof: NetAt, RgMap, RgSame. -/
import Derived.Test.YtifkacnoiocebaaGreatRs9
import Derived.BigRegion
import Derived.ChangeAlike
import Derived.Maps.RangeWalk
set_option linter.unusedVariables false
set_option linter.unusedSimpArgs false
set_option maxRecDepth 100000
set_option maxHeartbeats 8000000
namespace Go.Proofs.YtifkacnoiocebaaGreat
open Go.RowKit
structure LinkV where
  a : Int
  p : Int
  b : Int
  q : Int
def LinkV.ok (l : LinkV) : Prop := i64ok l.a ∧ i64ok l.p ∧ i64ok l.b ∧ i64ok l.q
def LinkV.cells (l : LinkV) : List Value := [.int .i64 l.a, .int .i64 l.p, .int .i64 l.b, .int .i64 l.q]
theorem LinkV.len (l : LinkV) : l.cells.length = 4 := rfl
theorem link_get {w : World} {B b o n k : Nat} {l : List LinkV} {r : LinkV} (h : SlAt LinkV.cells 4 w B (some ⟨b, o, none⟩) n l) (hr : l[k]? = some r) : b < B ∧
    w.cell? ⟨b, o + k * 4, none⟩ = some (.int .i64 r.a) ∧ w.cell? ⟨b, o + k * 4 + 1, none⟩ = some (.int .i64 r.p) ∧ w.cell? ⟨b, o + k * 4 + 2, none⟩ = some (.int .i64 r.b) ∧ w.cell? ⟨b, o + k * 4 + 3, none⟩ = some (.int .i64 r.q) :=
  ⟨(h.get hr).1, (h.get hr).2 0 _ rfl, (h.get hr).2 1 _ rfl, (h.get hr).2 2 _ rfl, (h.get hr).2 3 _ rfl⟩
abbrev Pl := Int × Int
def LinkV.e1 (l : LinkV) : Pl := (l.a, l.p)
def LinkV.e2 (l : LinkV) : Pl := (l.b, l.q)
def eqP (x y : Pl) : Bool := (x.1 == y.1) && (x.2 == y.2)
theorem eqP_iff (x y : Pl) : eqP x y = true ↔ x = y := by
  obtain ⟨a, b⟩ := x
  obtain ⟨c, d⟩ := y
  simp [eqP]
def peerF (l : List LinkV) (x : Pl) : Option Pl :=
  match l with
  | [] => none
  | a :: l => if eqP x a.e1 then some a.e2 else if eqP x a.e2 then some a.e1 else peerF l x
theorem peerF_drop {l : List LinkV} {k : Nat} {r : LinkV} (h : l[k]? = some r) (x : Pl) : peerF (l.drop k) x = if eqP x r.e1 then some r.e2 else if eqP x r.e2 then some r.e1 else peerF (l.drop (k + 1)) x := by
  obtain ⟨hk, e⟩ := List.getElem?_eq_some_iff.1 h
  rw [List.drop_eq_getElem_cons hk, e]; rfl
def peerV (r : Option Pl) : Value := match r with
  | some x => .tuple #[.agg #[.int .i64 x.1, .int .i64 x.2], .bool true]
  | none => .tuple #[.agg #[.int .i64 0, .int .i64 0], .bool false]
def Box2 (w : World) (N : Nat) (a b : Int) : Prop := w.cell? ⟨N, 0, none⟩ = some (.int .i64 a) ∧ w.cell? ⟨N, 1, none⟩ = some (.int .i64 b) ∧ w.frozen? ⟨N, 0, none⟩ = false ∧ w.frozen? ⟨N, 1, none⟩ = false
theorem Box2.below {w w' : World} {B N : Nat} {a b : Int} (h : Box2 w N a b) (hB : Below B w w') (hN : N < B) : Box2 w' N a b := by
  have e : ∀ o, w'.cell? ⟨N, o, none⟩ = w.cell? ⟨N, o, none⟩ := fun o => hB.cell (p := ⟨N, o, none⟩) hN
  have f : ∀ o, w'.frozen? ⟨N, o, none⟩ = w.frozen? ⟨N, o, none⟩ := fun o => hB.frozen (p := ⟨N, o, none⟩) hN
  unfold Box2
  rw [e, e, f, f]
  exact h
theorem Box2.new (w : World) (a b : Int) (t : TypeId) : Box2 (w.alloc (.cells #[.int .i64 a, .int .i64 b] t)) w.heap.size a b := by
  have hbx := heap_alloc_new w (.cells #[.int .i64 a, .int .i64 b] t)
  have f : ∀ o, (w.alloc (.cells #[.int .i64 a, .int .i64 b] t)).frozen? ⟨w.heap.size, o, none⟩ = false := fun o => by unfold World.frozen?; rw [hbx]; simp
  exact ⟨by rw [cell_of_row _ _ _ _ _ _ hbx]; rfl, by rw [cell_of_row _ _ _ _ _ _ hbx]; rfl, f 0, f 1⟩
theorem nwithin_walk (n m : Int) (W : World) (B : Bool) (h : (decide (0 ≤ n) && decide (n < m)) = B) : Calls Tryz.prog 52 #[.int .i64 n, .int .i64 m] W fun e W' => e = .returned (.bool B) ∧ W = W' := by
  cases h1 : decide (0 ≤ n)
  · have e1 : ¬ 0 ≤ n := by simpa using h1
    have HF := hide (show false = B by rw [← h, h1]; rfl)
    clear h
    go_enter Tryz.func52, Tryz.ntmps52
    go_wp2
    go_ret
    exact ⟨ret_bool HF.out, rfl⟩
  · have HF := hide (show decide (n < m) = B by rw [← h, h1]; rfl)
    clear h
    go_enter Tryz.func52, Tryz.ntmps52
    go_wp2
    go_ret
    exact ⟨ret_bool HF.out, rfl⟩
theorem le2 (n : Nat) : n ≤ n + 1 + 1 := by omega
def portsF (k : Int) : Int := if k == 1 then 1 else if k == 2 then 4 else if k == 3 then 2 else if k == 4 then 2 else if k == 5 then 2 else 0
theorem ports_walk (k : Int) (W : World) : Calls Tryz.prog 53 #[.int .i64 k] W fun e W' => e = .returned (.int .i64 (portsF k)) ∧ W = W' := by
  cases h1 : (k == 1)
  case true =>
    have HF := hide (show portsF k = 1 from by simp [portsF, h1])
    rw [HF.out]
    go_enter Tryz.func53, Tryz.ntmps53
    go_wp2
    go_ret
    exact ⟨rfl, rfl⟩
  cases h2 : (k == 2)
  case true =>
    have HF := hide (show portsF k = 4 from by simp [portsF, h1, h2])
    rw [HF.out]
    go_enter Tryz.func53, Tryz.ntmps53
    go_wp2
    go_ret
    exact ⟨rfl, rfl⟩
  cases h3 : (k == 3)
  case true =>
    have HF := hide (show portsF k = 2 from by simp [portsF, h1, h2, h3])
    rw [HF.out]
    go_enter Tryz.func53, Tryz.ntmps53
    go_wp2
    go_ret
    exact ⟨rfl, rfl⟩
  cases h4 : (k == 4)
  case true =>
    have HF := hide (show portsF k = 2 from by simp [portsF, h1, h2, h3, h4])
    rw [HF.out]
    go_enter Tryz.func53, Tryz.ntmps53
    go_wp2
    go_ret
    exact ⟨rfl, rfl⟩
  cases h5 : (k == 5)
  case true =>
    have HF := hide (show portsF k = 2 from by simp [portsF, h1, h2, h3, h4, h5])
    rw [HF.out]
    go_enter Tryz.func53, Tryz.ntmps53
    go_wp2
    go_ret
    exact ⟨rfl, rfl⟩
  · have HF := hide (show portsF k = 0 from by simp [portsF, h1, h2, h3, h4, h5])
    rw [HF.out]
    go_enter Tryz.func53, Tryz.ntmps53
    go_wp2
    go_ret
    exact ⟨rfl, rfl⟩
theorem peer_walk (l : List LinkV) (D : Value) (b o n c : Nat) (x y : Int) (W : World) (hn : n ≤ 9223372036854775807) (hl : SlAt LinkV.cells 4 W W.heap.size (some ⟨b, o, none⟩) n l) (h0 : 0 < n)
    (dA : Option Addr) (dn dc : Nat) (hD : D = .slice dA dn dc) :
    Calls Tryz.prog 85 #[.agg #[.slice dA dn dc, .slice (some ⟨b, o, none⟩) n c], .agg #[.int .i64 x, .int .i64 y]] W fun e W' => e = .returned (peerV (peerF l (x, y))) ∧ Below W.heap.size W W' := by
  have HL := hide hl
  have HB0 := hide (fun o0 o1 o2 => show Below W.heap.size W (((W.alloc o0).alloc o1).alloc o2) from (((Below.refl _ _).alloc (Nat.le_refl _) _).alloc (by simp) _).alloc (by simp; omega) _)
  clear hl hD
  go_enter Tryz.func85, Tryz.ntmps85
  go_wp2
  have hw0 : (((W.alloc (.cells #[.slice dA dn dc, .slice (some ⟨b, o, none⟩) n c] 25)).alloc (.cells #[.int .i64 x, .int .i64 y] 27)).alloc (.cells #[.int .i64 0, .int .i64 0] 27)).heap.size = W.heap.size + 3 := by simp
  have HX0 := hide (show Box2 (((W.alloc (.cells #[.slice dA dn dc, .slice (some ⟨b, o, none⟩) n c] 25)).alloc (.cells #[.int .i64 x, .int .i64 y] 27)).alloc (.cells #[.int .i64 0, .int .i64 0] 27)) (W.heap.size + 1) x y from by
    have := (Box2.new (W.alloc (.cells #[.slice dA dn dc, .slice (some ⟨b, o, none⟩) n c] 25)) x y 27).below ((Below.refl _ _).alloc (Nat.le_refl _) (.cells #[.int .i64 0, .int .i64 0] 27)) (by simp)
    simpa using this)
  have HZ0 := hide (show Box2 (((W.alloc (.cells #[.slice dA dn dc, .slice (some ⟨b, o, none⟩) n c] 25)).alloc (.cells #[.int .i64 x, .int .i64 y] 27)).alloc (.cells #[.int .i64 0, .int .i64 0] 27)) (W.heap.size + 1 + 1) 0 0 from by
    have := (Box2.new ((W.alloc (.cells #[.slice dA dn dc, .slice (some ⟨b, o, none⟩) n c] 25)).alloc (.cells #[.int .i64 x, .int .i64 y] 27)) 0 0 27)
    simpa using this)
  have HB1 := hide (HB0.out (.cells #[.slice dA dn dc, .slice (some ⟨b, o, none⟩) n c] 25) (.cells #[.int .i64 x, .int .i64 y] 27) (.cells #[.int .i64 0, .int .i64 0] 27))
  generalize World.alloc _ _ = w0 at *
  go_loopw [13] (fun i wr => ∃ k : Nat, k ≤ n ∧ i = .int .i64 k ∧ Below W.heap.size W wr ∧ Hid (Box2 wr (W.heap.size + 1) x y) ∧ Hid (Box2 wr (W.heap.size + 1 + 1) 0 0) ∧ W.heap.size + 3 ≤ wr.heap.size ∧ Hid (peerF l (x, y) = peerF (l.drop k) (x, y))) (fun i _ => n - (intOf i).toNat)
  case atStart => exact ⟨0, Nat.zero_le _, rfl, HB1.out, HX0, HZ0, by omega, hide rfl⟩
  case round =>
    clear HX0 HZ0 HB1 hw0 HB0
    obtain ⟨k, hk, rfl, hb, HX, HZ, hsz, HE⟩ := hrel
    have HB := hide hb
    clear hb
    by_cases hlt : k < n
    · obtain ⟨r, hr⟩ : ∃ r, l[k]? = some r := ⟨_, List.getElem?_eq_getElem (by have := HL.out.1; omega)⟩
      obtain ⟨hbB, q0, q1, q2, q3⟩ := link_get (HL.out.below HB.out HB.out.size) hr
      have HS := hide (peerF_drop hr (x, y))
      obtain ⟨ra, rp, rb, rq⟩ := r
      have hx1 := fun (o1 o2 o3 : Obj) => (World.cell?_alloc_lt ((wr.alloc o1).alloc o2) o3 ⟨W.heap.size + 1, 0, none⟩ (by simp; omega)).trans ((World.cell?_alloc_lt (wr.alloc o1) o2 ⟨W.heap.size + 1, 0, none⟩ (by simp; omega)).trans ((World.cell?_alloc_lt wr o1 ⟨W.heap.size + 1, 0, none⟩ (by simp; omega)).trans HX.out.1))
      have hx2 := fun (o1 o2 o3 : Obj) => (World.cell?_alloc_lt ((wr.alloc o1).alloc o2) o3 ⟨W.heap.size + 1, 1, none⟩ (by simp; omega)).trans ((World.cell?_alloc_lt (wr.alloc o1) o2 ⟨W.heap.size + 1, 1, none⟩ (by simp; omega)).trans ((World.cell?_alloc_lt wr o1 ⟨W.heap.size + 1, 1, none⟩ (by simp; omega)).trans HX.out.2.1))
      clear hr
      go_wp2
      clear q0 q1 q2 q3
      obtain ⟨N, hN⟩ : ∃ N, wr.heap.size = N := ⟨_, rfl⟩
      have hbx := heap_alloc_new wr (.cells #[.int .i64 ra, .int .i64 rp, .int .i64 rb, .int .i64 rq] 85)
      have hsx : (wr.alloc (.cells #[.int .i64 ra, .int .i64 rp, .int .i64 rb, .int .i64 rq] 85)).heap.size = wr.heap.size + 1 := by simp
      have HBw := hide (HB.out.alloc HB.out.size (.cells #[.int .i64 ra, .int .i64 rp, .int .i64 rb, .int .i64 rq] 85))
      rw [hN] at hbx hsx hsz ⊢
      have HXw := hide (HX.out.below ((Below.refl _ wr).alloc (Nat.le_refl _) (.cells #[.int .i64 ra, .int .i64 rp, .int .i64 rb, .int .i64 rq] 85)) (by omega))
      have HZw := hide (HZ.out.below ((Below.refl _ wr).alloc (Nat.le_refl _) (.cells #[.int .i64 ra, .int .i64 rp, .int .i64 rb, .int .i64 rq] 85)) (by omega))
      generalize wr.alloc _ = wx at *
      have y0 : wx.cell? ⟨N, 0, none⟩ = some (.int .i64 ra) := by rw [cell_of_row _ _ _ _ _ _ hbx]; rfl
      have y1 : wx.cell? ⟨N, 1, none⟩ = some (.int .i64 rp) := by rw [cell_of_row _ _ _ _ _ _ hbx]; rfl
      have y2 : wx.cell? ⟨N, 2, none⟩ = some (.int .i64 rb) := by rw [cell_of_row _ _ _ _ _ _ hbx]; rfl
      have y3 : wx.cell? ⟨N, 3, none⟩ = some (.int .i64 rq) := by rw [cell_of_row _ _ _ _ _ _ hbx]; rfl
      clear hbx hx1 hx2 hN
      have hNx : N < wx.heap.size := by omega
      have hWx : W.heap.size + 3 ≤ wx.heap.size := by omega
      have HF1 : Hid (∀ (u v : Pl), Below wx.heap.size wx ((wx.alloc (.cells #[.int .i64 u.1, .int .i64 u.2] 27)).alloc (.cells #[.int .i64 v.1, .int .i64 v.2] 27)) ∧ ((wx.alloc (.cells #[.int .i64 u.1, .int .i64 u.2] 27)).alloc (.cells #[.int .i64 v.1, .int .i64 v.2] 27)).heap.size = N + 3 ∧
          Box2 ((wx.alloc (.cells #[.int .i64 u.1, .int .i64 u.2] 27)).alloc (.cells #[.int .i64 v.1, .int .i64 v.2] 27)) (N + 1) u.1 u.2 ∧ Box2 ((wx.alloc (.cells #[.int .i64 u.1, .int .i64 u.2] 27)).alloc (.cells #[.int .i64 v.1, .int .i64 v.2] 27)) (N + 1 + 1) v.1 v.2) := hide (fun u v => by
        have hb1 : Below wx.heap.size wx (wx.alloc (.cells #[.int .i64 u.1, .int .i64 u.2] 27)) := (Below.refl _ _).alloc (Nat.le_refl _) _
        have hs : (wx.alloc (.cells #[.int .i64 u.1, .int .i64 u.2] 27)).heap.size = N + 1 + 1 := by rw [← hsx]; simp
        have b1 := Box2.new wx u.1 u.2 27
        have b2 := Box2.new (wx.alloc (.cells #[.int .i64 u.1, .int .i64 u.2] 27)) v.1 v.2 27
        rw [hsx] at b1
        rw [hs] at b2
        refine ⟨hb1.alloc hb1.size _, by simp; omega, b1.below ((Below.refl _ _).alloc (Nat.le_refl _) _) (by omega), b2⟩)
      go_region_held3 (fun w' => w'.cell? ⟨N, 0, none⟩ = some (.int .i64 ra) ∧ w'.cell? ⟨N, 1, none⟩ = some (.int .i64 rp) ∧ w'.cell? ⟨N, 2, none⟩ = some (.int .i64 rb) ∧ w'.cell? ⟨N, 3, none⟩ = some (.int .i64 rq)) (go_keep) (fail)
      · obtain ⟨hbz, hsz3, b1, b2⟩ := HF1.out (ra, rp) (rb, rq)
        have HBz := hide (HBw.out.trans (hbz.mono (by have := HBw.out.size; omega)))
        have HXz := hide (HXw.out.below hbz (by omega))
        have HZz := hide (HZw.out.below hbz (by omega))
        generalize World.alloc (World.alloc wx _) _ = wz at *
        have hsz' : W.heap.size + 3 ≤ wz.heap.size := by omega
        obtain ⟨u0, u1, _, _⟩ := b1
        obtain ⟨v0, v1, _, _⟩ := b2
        obtain ⟨x0, x1, _, _⟩ := HXz.out
        clear hbz HF1
        cases e1 : (x == ra)
        · cases e3 : (x == rb)
          · have HN := hide (show peerF l (x, y) = peerF (l.drop (k + 1)) (x, y) from by rw [HE.out, HS.out]; simp [eqP, LinkV.e1, LinkV.e2, e1, e3])
            go_wp2
            go_roundw
            case rel => exact ⟨k + 1, by omega, by go_num, HBz.out.drew, HXz, HZz, hsz', HN⟩
            case measure => simp [intOf]; omega
          · cases e4 : (y == rq)
            · have HN := hide (show peerF l (x, y) = peerF (l.drop (k + 1)) (x, y) from by rw [HE.out, HS.out]; simp [eqP, LinkV.e1, LinkV.e2, e1, e3, e4])
              go_wp2
              go_roundw
              case rel => exact ⟨k + 1, by omega, by go_num, HBz.out.drew, HXz, HZz, hsz', HN⟩
              case measure => simp [intOf]; omega
            · have HN := hide (show peerF l (x, y) = some (ra, rp) from by rw [HE.out, HS.out]; simp [eqP, LinkV.e1, LinkV.e2, e1, e3, e4])
              obtain ⟨z0, z1, z2, z3⟩ := HZz.out
              go_wp2
              refine bodyPost_ret (v := .tuple #[.agg #[.int .i64 ra, .int .i64 rp], .bool true]) (by simp [results, Tryz.results85, go_sem, z0, z1]) rfl ⟨by rw [HN.out]; rfl, ?_⟩
              first | exact ((HBz.out.setCell (le2 _) _).setCell (le2 _) _).drew | exact ((HBz.out.drew.setCell (le2 _) _).setCell (le2 _) _)
        · cases e2 : (y == rp)
          · cases e3 : (x == rb)
            · have HN := hide (show peerF l (x, y) = peerF (l.drop (k + 1)) (x, y) from by rw [HE.out, HS.out]; simp [eqP, LinkV.e1, LinkV.e2, e1, e2, e3])
              go_wp2
              go_roundw
              case rel => exact ⟨k + 1, by omega, by go_num, HBz.out.drew, HXz, HZz, hsz', HN⟩
              case measure => simp [intOf]; omega
            · cases e4 : (y == rq)
              · have HN := hide (show peerF l (x, y) = peerF (l.drop (k + 1)) (x, y) from by rw [HE.out, HS.out]; simp [eqP, LinkV.e1, LinkV.e2, e1, e2, e3, e4])
                go_wp2
                go_roundw
                case rel => exact ⟨k + 1, by omega, by go_num, HBz.out.drew, HXz, HZz, hsz', HN⟩
                case measure => simp [intOf]; omega
              · have HN := hide (show peerF l (x, y) = some (ra, rp) from by rw [HE.out, HS.out]; simp [eqP, LinkV.e1, LinkV.e2, e1, e2, e3, e4])
                obtain ⟨z0, z1, z2, z3⟩ := HZz.out
                go_wp2
                refine bodyPost_ret (v := .tuple #[.agg #[.int .i64 ra, .int .i64 rp], .bool true]) (by simp [results, Tryz.results85, go_sem, z0, z1]) rfl ⟨by rw [HN.out]; rfl, ?_⟩
                first | exact ((HBz.out.setCell (le2 _) _).setCell (le2 _) _).drew | exact ((HBz.out.drew.setCell (le2 _) _).setCell (le2 _) _)
          · have HN := hide (show peerF l (x, y) = some (rb, rq) from by rw [HE.out, HS.out]; simp [eqP, LinkV.e1, LinkV.e2, e1, e2])
            obtain ⟨z0, z1, z2, z3⟩ := HZz.out
            go_wp2
            refine bodyPost_ret (v := .tuple #[.agg #[.int .i64 rb, .int .i64 rq], .bool true]) (by simp [results, Tryz.results85, go_sem, z0, z1]) rfl ⟨by rw [HN.out]; rfl, ?_⟩
            first | exact ((HBz.out.setCell (le2 _) _).setCell (le2 _) _).drew | exact ((HBz.out.drew.setCell (le2 _) _).setCell (le2 _) _)
      · obtain ⟨hbz, hsz3, b1, b2⟩ := HF1.out (rb, rq) (ra, rp)
        have HBz := hide (HBw.out.trans (hbz.mono (by have := HBw.out.size; omega)))
        have HXz := hide (HXw.out.below hbz (by omega))
        have HZz := hide (HZw.out.below hbz (by omega))
        generalize World.alloc (World.alloc wx _) _ = wz at *
        have hsz' : W.heap.size + 3 ≤ wz.heap.size := by omega
        obtain ⟨u0, u1, _, _⟩ := b1
        obtain ⟨v0, v1, _, _⟩ := b2
        obtain ⟨x0, x1, _, _⟩ := HXz.out
        clear hbz HF1
        cases e1 : (x == ra)
        · cases e3 : (x == rb)
          · have HN := hide (show peerF l (x, y) = peerF (l.drop (k + 1)) (x, y) from by rw [HE.out, HS.out]; simp [eqP, LinkV.e1, LinkV.e2, e1, e3])
            go_wp2
            go_roundw
            case rel => exact ⟨k + 1, by omega, by go_num, HBz.out.drew, HXz, HZz, hsz', HN⟩
            case measure => simp [intOf]; omega
          · cases e4 : (y == rq)
            · have HN := hide (show peerF l (x, y) = peerF (l.drop (k + 1)) (x, y) from by rw [HE.out, HS.out]; simp [eqP, LinkV.e1, LinkV.e2, e1, e3, e4])
              go_wp2
              go_roundw
              case rel => exact ⟨k + 1, by omega, by go_num, HBz.out.drew, HXz, HZz, hsz', HN⟩
              case measure => simp [intOf]; omega
            · have HN := hide (show peerF l (x, y) = some (ra, rp) from by rw [HE.out, HS.out]; simp [eqP, LinkV.e1, LinkV.e2, e1, e3, e4])
              obtain ⟨z0, z1, z2, z3⟩ := HZz.out
              go_wp2
              refine bodyPost_ret (v := .tuple #[.agg #[.int .i64 ra, .int .i64 rp], .bool true]) (by simp [results, Tryz.results85, go_sem, z0, z1]) rfl ⟨by rw [HN.out]; rfl, ?_⟩
              first | exact ((HBz.out.setCell (le2 _) _).setCell (le2 _) _).drew | exact ((HBz.out.drew.setCell (le2 _) _).setCell (le2 _) _)
        · cases e2 : (y == rp)
          · cases e3 : (x == rb)
            · have HN := hide (show peerF l (x, y) = peerF (l.drop (k + 1)) (x, y) from by rw [HE.out, HS.out]; simp [eqP, LinkV.e1, LinkV.e2, e1, e2, e3])
              go_wp2
              go_roundw
              case rel => exact ⟨k + 1, by omega, by go_num, HBz.out.drew, HXz, HZz, hsz', HN⟩
              case measure => simp [intOf]; omega
            · cases e4 : (y == rq)
              · have HN := hide (show peerF l (x, y) = peerF (l.drop (k + 1)) (x, y) from by rw [HE.out, HS.out]; simp [eqP, LinkV.e1, LinkV.e2, e1, e2, e3, e4])
                go_wp2
                go_roundw
                case rel => exact ⟨k + 1, by omega, by go_num, HBz.out.drew, HXz, HZz, hsz', HN⟩
                case measure => simp [intOf]; omega
              · have HN := hide (show peerF l (x, y) = some (ra, rp) from by rw [HE.out, HS.out]; simp [eqP, LinkV.e1, LinkV.e2, e1, e2, e3, e4])
                obtain ⟨z0, z1, z2, z3⟩ := HZz.out
                go_wp2
                refine bodyPost_ret (v := .tuple #[.agg #[.int .i64 ra, .int .i64 rp], .bool true]) (by simp [results, Tryz.results85, go_sem, z0, z1]) rfl ⟨by rw [HN.out]; rfl, ?_⟩
                first | exact ((HBz.out.setCell (le2 _) _).setCell (le2 _) _).drew | exact ((HBz.out.drew.setCell (le2 _) _).setCell (le2 _) _)
          · have HN := hide (show peerF l (x, y) = some (rb, rq) from by rw [HE.out, HS.out]; simp [eqP, LinkV.e1, LinkV.e2, e1, e2])
            obtain ⟨z0, z1, z2, z3⟩ := HZz.out
            go_wp2
            refine bodyPost_ret (v := .tuple #[.agg #[.int .i64 rb, .int .i64 rq], .bool true]) (by simp [results, Tryz.results85, go_sem, z0, z1]) rfl ⟨by rw [HN.out]; rfl, ?_⟩
            first | exact ((HBz.out.setCell (le2 _) _).setCell (le2 _) _).drew | exact ((HBz.out.drew.setCell (le2 _) _).setCell (le2 _) _)
    · have HN := hide (show peerF l (x, y) = none from by rw [HE.out, List.drop_of_length_le (by have := HL.out.1; omega)]; rfl)
      obtain ⟨z0, z1, z2, z3⟩ := HZ.out
      go_wp2
      refine bodyPost_ret (v := .tuple #[.agg #[.int .i64 0, .int .i64 0], .bool false]) (by simp [results, Tryz.results85, go_sem, z0, z1]) rfl ⟨by rw [HN.out]; rfl, ?_⟩
      exact (HB.out.setCell (le2 _) _).setCell (le2 _) _
open Go.Maps Go.WideElems
def RangeIs {α : Type} (P : Program) (kt : TypeId) (key : α → Value) (dom : α → Prop) (w : World) (b r : Nat) (M : α → Option Value) (left : α → Bool) (cnt : Nat) : Prop :=
  ∃ D lf, w.ranges P kt heldR b r (Maps.size D) D lf cnt ∧
    (∀ a, dom a → ∀ kl, keyOf P kt (key a) = some kl → Maps.has D kl = (M a).isSome ∧ ∀ z, D.atKey kl (.held z) = .held ((M a).getD z)) ∧
    (∀ kl, Maps.has D kl = true → ∃ a, dom a ∧ keyOf P kt (key a) = some kl) ∧
    (∀ a, dom a → ∀ kl, keyOf P kt (key a) = some kl → lf kl = left a) ∧ (∀ kl, lf kl = true → Maps.has D kl = true)
section
variable {α : Type} {P : Program} {kt : TypeId} {key : α → Value} {dom : α → Prop} {w w' : World} {b r cnt : Nat} {M : α → Option Value} {left : α → Bool}
theorem RangeIs.map (h : RangeIs P kt key dom w b r M left cnt) : MapIs P kt key dom w b M := by
  obtain ⟨D, lf, h1, h2, h3, _⟩ := h
  exact ⟨D, h1.owns, h2, h3⟩
theorem RangeIs.kept {row : Option Nat} (h : RangeIs P kt key dom w b r M left cnt) (hg : w.grownBy w' row) (hb : some b ≠ row) (hr : some r ≠ row) : RangeIs P kt key dom w' b r M left cnt := by
  obtain ⟨D, lf, h1, h2⟩ := h
  exact ⟨D, lf, h1.kept hg hb hr, h2⟩
theorem RangeIs.below (h : RangeIs P kt key dom w b r M left cnt) (hb : RowKit.Below w.heap.size w w') : RangeIs P kt key dom w' b r M left cnt :=
  h.kept (row := none) ⟨hb.os, hb.tape, hb.output, hb.size, fun k hk _ => hb.block k hk⟩ (by simp) (by simp)
theorem RangeIs.left_eq (h : RangeIs P kt key dom w b r M left cnt) : w.rangeLeft b r = cnt := by
  obtain ⟨D, lf, h1, h2⟩ := h
  exact h1.left_eq
theorem RangeIs.lt (h : RangeIs P kt key dom w b r M left cnt) : r < w.heap.size := by
  obtain ⟨D, lf, h1, h2⟩ := h
  exact h1.lt
theorem MapIs.range {t et : TypeId} (h : MapIs P kt key dom w b M) (K : KeysAny P kt key dom) (ht : P.underlying t = some (.map kt et)) :
    ∃ w' cnt, (Instr.range t (.map (some b))).run P w = .ok (.pointer (some ⟨w.heap.size, 0, none⟩)) w' ∧ RangeIs P kt key dom w' b w.heap.size M (fun a => (M a).isSome) cnt ∧ w.grownBy w' none ∧ w'.heap.size = w.heap.size + 1 := by
  obtain ⟨D, h1, h2, h3⟩ := h
  obtain ⟨w', hrun, hrg, hg, hs⟩ := h1.range K.law ht
  exact ⟨w', _, hrun, ⟨D, _, hrg, h2, h3, fun a ha kl hkl => (h2 a ha kl hkl).1, fun _ h => h⟩, hg, hs⟩
theorem RangeIs.next [DecidableEq α] (h : RangeIs P kt key dom w b r M left cnt) (K : KeysAny P kt key dom) (ty : TypeId) :
    (cnt = 0 ∧ (∀ a, dom a → left a = false) ∧ (Instr.next (.pointer (some ⟨r, 0, none⟩)) false ty).run P w = .ok (.tuple #[.bool false]) w) ∨
    ∃ a v w' cnt', dom a ∧ left a = true ∧ M a = some v ∧ (Instr.next (.pointer (some ⟨r, 0, none⟩)) false ty).run P w = .ok (.tuple #[.bool true, key a, v]) w' ∧
      RangeIs P kt key dom w' b r M (fun x => left x && decide (x ≠ a)) cnt' ∧ cnt' < cnt ∧ w.grownBy w' (some r) ∧ w'.heap.size = w.heap.size ∧ (Instr.entry (.pointer (some ⟨r, 0, none⟩))).run P w' = .ok (.tuple #[key a, v]) w' := by
  obtain ⟨D, lf, h1, h2, h3, h4, h5⟩ := h
  rcases h1.next K.law ty with ⟨e1, e2, e3⟩ | ⟨kv, v, kl, y, w', cnt', q1, q2, q3, q4, q5, q6, q7, q8, q9, q10⟩
  · refine .inl ⟨e1, fun a ha => ?_, e3⟩
    obtain ⟨kl, hkl⟩ := K.total a ha
    rw [← h4 a ha kl hkl, e2 kl]
  · obtain ⟨a, ha, hka⟩ := h3 kl (h5 kl q2)
    obtain rfl : kv = key a := K.law.inj q1 hka
    obtain ⟨r1, r2⟩ := h2 a ha kl hka
    have hM : (M a).isSome = true := by rw [← r1, h5 kl q2]
    obtain ⟨u, hu⟩ := Option.isSome_iff_exists.1 hM
    have hv : v = u := by
      have e1 := q4 (.held v)
      rw [r2 v, hu] at e1
      simp only [heldR, Option.some.injEq] at q3
      rw [← q3] at e1
      simp only [Option.getD_some, DataW.held.injEq] at e1
      exact e1.symm
    subst hv
    refine .inr ⟨a, v, w', cnt', ha, by rw [← h4 a ha kl hka]; exact q2, hu, q5, ⟨D, _, q6, h2, h3, fun x hx kx hkx => ?_, fun k hk => ?_⟩, q7, q8, q9, q10⟩
    · rw [h4 x hx kx hkx]
      congr 1
      by_cases e : x = a
      · subst e
        obtain rfl : kx = kl := Option.some.inj (hkx.symm.trans hka)
        simp [WideAt.sameKey_self (K.law.key hka)]
      · have hne : kx ≠ kl := fun ek => by subst ek; exact e (K.inj _ _ (K.law.inj hkx hka))
        cases hs : kx.sameKey kl
        · simp [e]
        · exact absurd (WideAt.sameKey_eq hs) hne
    · simp only [Bool.and_eq_true] at hk
      exact h5 k hk.1
end
section
variable {α : Type} {P : Program} {kt : TypeId} {key : α → Value} {dom : α → Prop} {b r cnt : Nat} {M : α → Option Value} {left : α → Bool} (w : World)
theorem wpList_rangeM {ops : Array Oper} {rest : List Oper} {o : Oper} {a : Act} {Q : Exit → Act → World → Prop} (hg : o.guard = none) (m : Operand) (t : TypeId) (hop : o.op = Op.range t m) (et : TypeId) (K : KeysAny P kt key dom) (ht : P.underlying t = some (.map kt et))
    (hm : a.eval m = .map (some b)) (h : MapIs P kt key dom w b M)
    (hK : ∀ w' cnt, RangeIs P kt key dom w' b w.heap.size M (fun a => (M a).isSome) cnt → w.grownBy w' none → w'.heap.size = w.heap.size + 1 → wpList P ops Q rest (a.put o.dst (.pointer (some ⟨w.heap.size, 0, none⟩))) w') :
    wpList P ops Q (o :: rest) a w := by
  refine wpList_plain hg fun K' hK' => ?_
  obtain ⟨w', cnt, hrun, r1, r2, r3⟩ := h.range K ht
  unfold Oper.wp
  simp [execOp, hop, hm, hrun, Result.andThen]
  exact hK' _ _ (hK w' cnt r1 r2 r3)
theorem wpList_nextM [DecidableEq α] {ops : Array Oper} {rest : List Oper} {o : Oper} {a : Act} {Q : Exit → Act → World → Prop} (hg : o.guard = none) (it : Operand) (hop : o.op = Op.next it false) (K : KeysAny P kt key dom) (hit : a.eval it = .pointer (some ⟨r, 0, none⟩))
    (h : RangeIs P kt key dom w b r M left cnt)
    (hDone : cnt = 0 → (∀ a, dom a → left a = false) → wpList P ops Q rest (a.put o.dst (.tuple #[.bool false])) w)
    (hMore : ∀ k v w' cnt', dom k → left k = true → M k = some v → RangeIs P kt key dom w' b r M (fun x => left x && decide (x ≠ k)) cnt' → cnt' < cnt → w.grownBy w' (some r) → w'.heap.size = w.heap.size →
      (Instr.entry (.pointer (some ⟨r, 0, none⟩))).run P w' = .ok (.tuple #[key k, v]) w' → wpList P ops Q rest (a.put o.dst (.tuple #[.bool true, key k, v])) w') :
    wpList P ops Q (o :: rest) a w := by
  refine wpList_plain hg fun K' hK' => ?_
  unfold Oper.wp
  rcases h.next K o.type with ⟨h0, hl, hrun⟩ | ⟨k, v, w', cnt', q1, q2, q3, hrun, q4, q5, q6, q7, q8⟩
  · simp [execOp, hop, hit, hrun, Result.andThen]
    exact hK' _ _ (hDone h0 hl)
  · simp [execOp, hop, hit, hrun, Result.andThen]
    exact hK' _ _ (hMore k v w' cnt' q1 q2 q3 q4 q5 q6 q7 q8)
end
theorem rowPlace : decide (27 < Tryz.prog.types.size) = true := by kernel_rfl
theorem atPlace : Tryz.prog.keyTypeAt 2 27 = true := by kernel_rfl
theorem keyPlace : Tryz.prog.keyType 27 = true := by kernel_rfl
theorem cellsPl2 : Tryz.prog.cellsOf 27 = 2 := by kernel_rfl
theorem lawPlace : Keyed Tryz.prog 27 := Keyed.of_law (deep_law_laid Tryz.laidOut (m := 2) (by omega) (of_decide_eq_true rowPlace) atPlace (by rw [Tryz.underlying27]))
theorem placeKeys : KeysAny Tryz.prog 27 poVal poDom :=
  ⟨lawPlace, pair_key Tryz.underlying27 ⟨rfl, rfl, by decide⟩ ⟨rfl, rfl, by decide⟩ Tryz.underlying3 keyPlace cellsPl2 cellsI types_succ, poVal_inj⟩
def Ints (M : PoK → Option Value) : Prop := ∀ a v, M a = some v → poDom a ∧ ∃ n : Nat, v = .int .i64 (n : Int)
def numAt (M : PoK → Option Value) (a : PoK) : Nat := match M a with
  | some (.int .i64 n) => n.toNat
  | _ => 0
theorem numAt_some {M : PoK → Option Value} {a : PoK} {n : Nat} (h : M a = some (.int .i64 (n : Int))) : numAt M a = n := by unfold numAt; rw [h]; simp
theorem numAt_none {M : PoK → Option Value} {a : PoK} (h : M a = none) : numAt M a = 0 := by unfold numAt; rw [h]
theorem Ints.getD {M : PoK → Option Value} (h : Ints M) (a : PoK) : (M a).getD (.int .i64 0) = .int .i64 ((numAt M a : Nat) : Int) := by
  cases e : M a with
  | none => rw [numAt_none e]; rfl
  | some v =>
    obtain ⟨_, n, rfl⟩ := h a v e
    rw [numAt_some e]; rfl
theorem MapIs.lookN {w : World} {b : Nat} {M : PoK → Option Value} (h : MapIs Tryz.prog 27 poVal poDom w b M) (hM : Ints M) (x y : Int) (hx : i64ok x) (hy : i64ok y) :
    (Instr.lookup 73 (.map (some b)) (.agg #[.int .i64 x, .int .i64 y]) false).run Tryz.prog w = .ok (.int .i64 ((numAt M (x, y) : Nat) : Int)) w := by
  have := (h.lookA placeKeys Tryz.underlying73 (z := .int .i64 0) (by kernel_rfl) (a := (x, y)) ⟨hx, hy⟩).2
  rw [hM.getD] at this
  exact this
theorem below_alloc' (w : World) (o : Obj) : Below w.heap.size w (w.alloc o) := (Below.refl _ _).alloc (Nat.le_refl _) o
end Go.Proofs.YtifkacnoiocebaaGreat
