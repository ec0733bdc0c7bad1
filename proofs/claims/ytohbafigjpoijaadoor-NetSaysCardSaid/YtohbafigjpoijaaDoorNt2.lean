/- A device's text: net.text. -/
import Derived.Test.YtohbafigjpoijaaDoorNt1
import Derived.Test.YtohbafigjpoijaaDoorDevs
set_option linter.unusedVariables false
set_option linter.unusedSimpArgs false
set_option maxRecDepth 100000
set_option maxHeartbeats 8000000
namespace Go.Proofs.YtohbafigjpoijaaDoor
open Go.RowKit

def wordK (k : Int) : List UInt8 := if k = 1 then [104, 111, 115, 116] else if k = 2 then [114, 111, 117, 116, 101, 114] else if k = 3 then [102, 105, 114, 101] else if k = 4 then [110, 97, 116] else [108, 98]
def ruleT (r : RuleV) : List UInt8 := (if r.permit then [112, 101, 114, 109, 105, 116, 32] else [100, 101, 110, 121, 32]) ++ (matchT r.m ++ [10])
def routeT (r : RouteV) : List UInt8 := [114, 111, 117, 116, 101, 32] ++ (Lib.decDigits r.v.toNat ++ 47 :: (Lib.decDigits r.b.toNat ++ 32 :: (Lib.decDigits r.p.toNat ++ [10])))
def tailT (d : Dev) : List UInt8 := if d.kind = 1 then 32 :: (Lib.decDigits d.addr.toNat ++ [10]) else if d.kind = 4 then 32 :: (Lib.decDigits d.addr.toNat ++ 32 :: (comT (poolL d.pool) ++ [10]))
  else if d.kind = 5 then 32 :: (Lib.decDigits d.addr.toNat ++ 32 :: (comT (d.backs.map Int.toNat) ++ [10])) else [10]
def headT (d : Dev) : List UInt8 := wordK d.kind ++ 32 :: (d.name.data.toList ++ tailT d)
def devT (d : Dev) : List UInt8 := headT d ++ (d.rules.flatMap ruleT ++ d.routes.flatMap routeT)
/-- A device that can be printed. -/
structure TxOk (d : Dev) : Prop where
  k : d.kind = 1 ∨ d.kind = 2 ∨ d.kind = 3 ∨ d.kind = 4 ∨ d.kind = 5
  a : 0 ≤ d.addr ∧ d.addr < 16
  nm : d.name.size ≤ 8
  b : ∀ x ∈ d.backs, 0 ≤ x ∧ x < 16
  bl : d.backs.length ≤ 3
  b0 : d.kind = 5 → 0 < d.backs.length
  p0 : d.kind = 4 → 0 < (poolL d.pool).length
  rl : d.rules.length ≤ 8
  tl : d.routes.length ≤ 8
  t : ∀ r ∈ d.routes, (0 ≤ r.v ∧ r.v < 100) ∧ (0 ≤ r.b ∧ r.b < 100) ∧ (0 ≤ r.p ∧ r.p < 100)
theorem ruleT_len (r : RuleV) : (ruleT r).length ≤ 299 := by
  have := matchT_len r.m
  unfold ruleT
  split <;> simp <;> omega
theorem routeT_len {r : RouteV} (h1 : r.v < 100) (h2 : r.b < 100) (h3 : r.p < 100) : (routeT r).length ≤ 15 := by
  have := dec_len2 (show r.v.toNat < 100 by omega)
  have := dec_len2 (show r.b.toNat < 100 by omega)
  have := dec_len2 (show r.p.toNat < 100 by omega)
  simp [routeT]; omega
theorem wordK_len (k : Int) : (wordK k).length ≤ 6 := by
  unfold wordK
  repeat (first | split | simp)
theorem flat_len {α : Type} (f : α → List UInt8) (m : Nat) : ∀ (xs : List α), (∀ x ∈ xs, (f x).length ≤ m) → (xs.flatMap f).length ≤ m * xs.length
  | [], _ => by simp
  | x :: xs, h => by
    have h1 := h x (by simp)
    have h2 := flat_len f m xs (fun y hy => h y (by simp [hy]))
    simp only [List.flatMap_cons, List.length_append, List.length_cons, Nat.mul_add, Nat.mul_one]
    omega
theorem flat_take {α : Type} (f : α → List UInt8) {xs : List α} {k : Nat} {x : α} (h : xs[k]? = some x) : (xs.take (k + 1)).flatMap f = (xs.take k).flatMap f ++ f x := by
  rw [List.take_add_one, h]; simp
theorem tailT_len {d : Dev} (h : TxOk d) : (tailT d).length ≤ 30 := by
  have h1 := dec_len2 (show d.addr.toNat < 100 by have := h.a; omega)
  have h2 := comT_len (xs := poolL d.pool) (fun x hx => by have := poolL_lt d.pool x hx; omega)
  have h3 := poolL_len d.pool
  have h4 := comT_len (xs := d.backs.map Int.toNat) (fun x hx => by
    obtain ⟨y, hy, rfl⟩ := List.mem_map.1 hx
    have := h.b y hy; omega)
  have h5 := h.bl
  simp only [List.length_map] at h4
  unfold tailT
  repeat (first | split | (simp; done) | (simp; omega))
theorem headT_len {d : Dev} (h : TxOk d) : (headT d).length ≤ 50 := by
  have := wordK_len d.kind
  have := tailT_len h
  have : d.name.data.toList.length ≤ 8 := by have := h.nm; simpa using this
  simp only [headT, List.length_append, List.length_cons]; omega

theorem word_walk' (k : Int) (W : World) (hk : k = 1 ∨ k = 2 ∨ k = 3 ∨ k = 4 ∨ k = 5) : Calls Tryd.prog 88 #[.int .i64 k] W fun e W' => e = .returned (.string ⟨(wordK k).toArray⟩) ∧ W = W' := by
  have HIX : ∀ (k : Int) (h : k = 1 ∨ k = 2 ∨ k = 3 ∨ k = 4 ∨ k = 5) (w' : World), (Instr.index 153 (.agg #[.string ⟨#[]⟩, .string ⟨#[104, 111, 115, 116]⟩, .string ⟨#[114, 111, 117, 116, 101, 114]⟩, .string ⟨#[102, 105, 114, 101]⟩, .string ⟨#[110, 97, 116]⟩, .string ⟨#[108, 98]⟩]) (.int .i64 k)).run Tryd.prog w' = .ok (.string ⟨(wordK k).toArray⟩) w' := by
    intro k h w'
    rcases h with rfl | rfl | rfl | rfl | rfl <;> simp [Instr.index, run_underlying Tryd.underlying153, asIntOf, go_sem, wordK]
  have HI := HIX k hk
  clear HIX
  obtain ⟨V, hV⟩ : ∃ V, wordK k = V := ⟨_, rfl⟩
  rw [hV] at HI ⊢
  have hkr : -9223372036854775808 ≤ k ∧ k ≤ 9223372036854775807 := by omega
  clear hk hV
  first
  | skip
    go_enter Tryd.func88, Tryd.ntmps88
    go_wp2
    go_ret
    exact ⟨rfl, rfl⟩
theorem cells5f {w : World} {b : Nat} {x0 x1 x2 x3 x4 : Value} {t : TypeId} (h : w.heap[b]? = some (.cells #[x0, x1, x2, x3, x4] t)) :
    w.cell? ⟨b, 0, none⟩ = some x0 ∧ w.cell? ⟨b, 1, none⟩ = some x1 ∧ w.cell? ⟨b, 2, none⟩ = some x2 ∧ w.cell? ⟨b, 3, none⟩ = some x3 ∧ w.cell? ⟨b, 4, none⟩ = some x4 :=
  ⟨by rw [cell_of_row _ _ _ _ _ _ h]; rfl, by rw [cell_of_row _ _ _ _ _ _ h]; rfl, by rw [cell_of_row _ _ _ _ _ _ h]; rfl, by rw [cell_of_row _ _ _ _ _ _ h]; rfl, by rw [cell_of_row _ _ _ _ _ _ h]; rfl⟩
theorem cells7f {w : World} {b : Nat} {x0 x1 x2 x3 x4 x5 x6 : Value} {t : TypeId} (h : w.heap[b]? = some (.cells #[x0, x1, x2, x3, x4, x5, x6] t)) :
    w.cell? ⟨b, 0, none⟩ = some x0 ∧ w.cell? ⟨b, 1, none⟩ = some x1 ∧ w.cell? ⟨b, 2, none⟩ = some x2 ∧ w.cell? ⟨b, 3, none⟩ = some x3 ∧ w.cell? ⟨b, 4, none⟩ = some x4 ∧ w.cell? ⟨b, 5, none⟩ = some x5 ∧ w.cell? ⟨b, 6, none⟩ = some x6 :=
  ⟨by rw [cell_of_row _ _ _ _ _ _ h]; rfl, by rw [cell_of_row _ _ _ _ _ _ h]; rfl, by rw [cell_of_row _ _ _ _ _ _ h]; rfl, by rw [cell_of_row _ _ _ _ _ _ h]; rfl, by rw [cell_of_row _ _ _ _ _ _ h]; rfl, by rw [cell_of_row _ _ _ _ _ _ h]; rfl, by rw [cell_of_row _ _ _ _ _ _ h]; rfl⟩
theorem str_list (s : ByteArray) : s = ⟨s.data.toList.toArray⟩ := by simp
theorem backs_nat {l : List Int} (h : ∀ x ∈ l, 0 ≤ x ∧ x < 16) : (l.map Int.toNat).map (fun (k : Nat) => (k : Int)) = l := by
  rw [List.map_map]
  conv => rhs; rw [← List.map_id l]
  refine List.map_congr_left (fun x hx => ?_)
  have := h x hx
  show ((x.toNat : Nat) : Int) = x
  omega
theorem netText_walk (d : DevV) (W : World) (hd : DevAt W W.heap.size d) (ho : TxOk d.dev) :
    Calls Tryd.prog 62 #[d.val] W fun e W' => e = .returned (.string ⟨(devT d.dev).toArray⟩) ∧ Below W.heap.size W W' := by
  have hh := headT_len ho
  have HHD := hide (show headT d.dev = wordK d.kind ++ 32 :: (d.name.data.toList ++ tailT d.dev) from rfl)
  have HTL := hide (show tailT d.dev = (if d.kind = 1 then 32 :: (Lib.decDigits d.addr.toNat ++ [10]) else if d.kind = 4 then 32 :: (Lib.decDigits d.addr.toNat ++ 32 :: (comT (poolL d.pool) ++ [10]))
    else if d.kind = 5 then 32 :: (Lib.decDigits d.addr.toNat ++ 32 :: (comT (d.bs.map Int.toNat) ++ [10])) else [10]) from rfl)
  have HDT := hide (show devT d.dev = headT d.dev ++ (d.rs.flatMap ruleT ++ d.ts.flatMap routeT) from rfl)
  have HRL := hide (show d.rs.length ≤ 8 from ho.rl)
  have HTT := hide (show d.ts.length ≤ 8 from ho.tl)
  have HTO := hide (show ∀ r ∈ d.ts, (0 ≤ r.v ∧ r.v < 100) ∧ (0 ≤ r.b ∧ r.b < 100) ∧ (0 ≤ r.p ∧ r.p < 100) from ho.t)
  have HBS := hide (show ∀ x ∈ d.bs, 0 ≤ x ∧ x < 16 from ho.b)
  have HBL := hide (show d.bs.length ≤ 3 from ho.bl)
  have HB0 := hide (show d.kind = 5 → 0 < d.bs.length from ho.b0)
  have HP0 := hide (show d.kind = 4 → 0 < (poolL d.pool).length from ho.p0)
  have hka : d.kind = 1 ∨ d.kind = 2 ∨ d.kind = 3 ∨ d.kind = 4 ∨ d.kind = 5 := ho.k
  have haa : 0 ≤ d.addr ∧ d.addr < 16 := ho.a
  have hnm : d.name.data.toList.length ≤ 8 := (show d.name.data.toList.length ≤ 8 by have h := ho.nm; have : d.name.data.toList.length = d.name.size := Array.length_toList; have e : d.dev.name = d.name := rfl; rw [e] at h; omega)
  have hwl := wordK_len d.kind
  obtain ⟨DT, hDT⟩ : ∃ l, devT d.dev = l := ⟨_, rfl⟩
  rw [hDT] at HDT ⊢
  obtain ⟨HT, hHT⟩ : ∃ l, headT d.dev = l := ⟨_, rfl⟩
  rw [hHT] at HDT HHD hh
  obtain ⟨TL, hTL⟩ : ∃ l, tailT d.dev = l := ⟨_, rfl⟩
  rw [hTL] at HHD HTL
  clear hDT hHT hTL ho
  obtain ⟨name, kind, addr, pool, bA, bn, bc, bs, rA, rn, rc, rs, tA, tn, tc, ts⟩ := d
  have HD := hide hd
  simp only at *
  obtain ⟨nm, rfl⟩ : ∃ nm : List UInt8, name = ⟨nm.toArray⟩ := ⟨_, str_list name⟩
  simp only at hnm HHD
  clear hd
  have HWK := hide (fun w => word_walk' kind w hka)
  generalize wordK kind = WK at *
  have hb0 := (Below.refl W.heap.size W).alloc (Nat.le_refl _) (.cells #[.string ⟨nm.toArray⟩, .int .i64 kind, .int .i64 addr, .int .u8 pool, .slice bA bn bc, .slice rA rn rc, .slice tA tn tc] 71)
  have hx := heap_alloc_new W (.cells #[.string ⟨nm.toArray⟩, .int .i64 kind, .int .i64 addr, .int .u8 pool, .slice bA bn bc, .slice rA rn rc, .slice tA tn tc] 71)
  simp only [DevV.val]
  have s1 : ∀ w', (Op.stringOp .add ⟨List.toArray (WK)⟩ ⟨List.toArray ([32])⟩).run Tryd.prog w' = .ok (.string ⟨List.toArray (WK ++ [32])⟩) w' := fun w' => by
    have := add_run (WK) ([32]) (by (try simp only [List.length_append, List.length_cons, List.length_nil]) <;> omega) (by (try simp only [List.length_append, List.length_cons, List.length_nil]) <;> omega) w'
    simpa using this
  have s2 : ∀ w', (Op.stringOp .add ⟨List.toArray (WK ++ [32])⟩ ⟨List.toArray (nm)⟩).run Tryd.prog w' = .ok (.string ⟨List.toArray (WK ++ 32 :: nm)⟩) w' := fun w' => by
    have := add_run (WK ++ [32]) (nm) (by (try simp only [List.length_append, List.length_cons, List.length_nil]) <;> omega) (by (try simp only [List.length_append, List.length_cons, List.length_nil]) <;> omega) w'
    simpa using this
  go_enter Tryd.func62, Tryd.ntmps62
  go_wp2_with fail
  generalize W.alloc (.cells #[.string ⟨nm.toArray⟩, .int .i64 kind, .int .i64 addr, .int .u8 pool, .slice bA bn bc, .slice rA rn rc, .slice tA tn tc] 71) = w1 at *
  refine wp_region_abs (by kernel_rfl) (by kernel_rfl) ?_
  intro T hT gt hg1 hgi
  have HC := hide (fun t => cells7f (((hg1 t).block W.heap.size (heap_lt hx)).trans hx))
  have k0 : ∀ t, (gt t).cell? ⟨W.heap.size, 0, none⟩ = some (.string ⟨nm.toArray⟩) := fun t => (HC.out t).1
  have k1 : ∀ t, (gt t).cell? ⟨W.heap.size, 1, none⟩ = some (.int .i64 kind) := fun t => (HC.out t).2.1
  have HGT := hide hg1
  clear hg1 hgi HC
  repeat (go_big_quiet_step ((go_at_call 88; exact inAbsSame (HWK.out _))))
  refine wpQuiet_nil ?_
  intro _ hw'
  obtain ⟨t, rfl⟩ := hw'
  have HX2 := hide (((HGT.out t).block W.heap.size (heap_lt hx)).trans hx)
  have HB2 := hide (hb0.trans ((HGT.out t).mono hb0.size))
  generalize gt t = w2 at *
  clear HGT k0 k1 hx hb0 HWK s1 s2
  obtain ⟨c0, c1, c2, c3, c4, c5, c6⟩ := cells7f HX2.out
  have ha100 : addr.toNat < 100 := by omega
  have HIA := hide (fun w => show Calls Tryd.prog 41 #[.int .i64 addr] w (fun e w' => e = .returned (.string ⟨(Lib.decDigits addr.toNat).toArray⟩) ∧ w = w') from by
    have h := Tryd.strconv_Itoa_small addr.toNat ha100 w
    rw [show ((addr.toNat : Nat) : Int) = addr by omega] at h
    exact h.mono (fun e w' h => ⟨h.1, h.2.symm⟩))
  have lX := dec_len2 ha100
  obtain ⟨X, hX⟩ : ∃ X, Lib.decDigits addr.toNat = X := ⟨_, rfl⟩
  rw [hX] at HIA lX HTL
  clear hX ha100
  rcases hka with hk | hk | hk | hk | hk
  · -- a host
    have HH := hide (show HT = WK ++ 32 :: (nm ++ 32 :: (X ++ [10])) by rw [HHD.out, HTL.out, if_pos hk])
    subst hk
    have s3 : ∀ w', (Op.stringOp .add ⟨List.toArray ([32])⟩ ⟨List.toArray (X)⟩).run Tryd.prog w' = .ok (.string ⟨List.toArray (32 :: X)⟩) w' := fun w' => by
      have := add_run ([32]) (X) (by (try simp only [List.length_append, List.length_cons, List.length_nil]) <;> omega) (by (try simp only [List.length_append, List.length_cons, List.length_nil]) <;> omega) w'
      simpa using this
    have s4 : ∀ w', (Op.stringOp .add ⟨List.toArray (WK ++ 32 :: nm)⟩ ⟨List.toArray (32 :: X)⟩).run Tryd.prog w' = .ok (.string ⟨List.toArray (WK ++ 32 :: (nm ++ 32 :: X))⟩) w' := fun w' => by
      have := add_run (WK ++ 32 :: nm) (32 :: X) (by (try simp only [List.length_append, List.length_cons, List.length_nil]) <;> omega) (by (try simp only [List.length_append, List.length_cons, List.length_nil]) <;> omega) w'
      simpa using this
    have s5 : ∀ w', (Op.stringOp .add ⟨List.toArray (WK ++ 32 :: (nm ++ 32 :: X))⟩ ⟨List.toArray ([10])⟩).run Tryd.prog w' = .ok (.string ⟨List.toArray (WK ++ 32 :: (nm ++ 32 :: (X ++ [10])))⟩) w' := fun w' => by
      have := add_run (WK ++ 32 :: (nm ++ 32 :: X)) ([10]) (by (try simp only [List.length_append, List.length_cons, List.length_nil]) <;> omega) (by (try simp only [List.length_append, List.length_cons, List.length_nil]) <;> omega) w'
      simpa using this
    clear HHD HTL lX
    go_wp2_with (go_at_call 41; refine (HIA.out _).mono ?_; rintro e w5 ⟨rfl, rfl⟩)
    rw [← HH.out]
    clear HH
    obtain ⟨c0, c1, c2, c3, c4, c5, c6⟩ := cells7f HX2.out
    clear c0 c1 c2 c3 c4
    have hrn := HD.out.rs.1
    have htn := HD.out.ts.1
    simp only at hrn htn
    have hrn8 : rn ≤ 8 := by have := HRL.out; omega
    have htn8 : tn ≤ 8 := by have := HTT.out; omega
    go_wp2_with fail
    go_loopw [3, 57] (fun v i wr => ∃ (k : Nat) (J : List UInt8), k ≤ rn ∧ i = .int .i64 (k : Int) ∧ v = .string ⟨J.toArray⟩ ∧ Hid (J = HT ++ (rs.take k).flatMap ruleT) ∧ Hid (Below w2.heap.size w2 wr)) (fun _ i _ => rn - (intOf i).toNat)
    case atStart => exact ⟨0, HT, Nat.zero_le _, rfl, rfl, hide (by simp), hide (Below.refl _ _)⟩
    case round =>
      obtain ⟨k, J, hk, rfl, rfl, HJ, HBW⟩ := hrel
      have hJl0 := flat_len ruleT 299 (rs.take k) (fun x _ => ruleT_len x)
      have hJl : J.length ≤ 3000 := by
        rw [HJ.out, List.length_append]
        have := HRL.out
        rw [List.length_take] at hJl0
        omega
      have hbW : Below W.heap.size W wr := HB2.out.trans (HBW.out.mono HB2.out.size)
      by_cases hlt : k < rn
      case pos =>
        obtain ⟨r, hr⟩ : ∃ r, rs[k]? = some r := ⟨_, List.getElem?_eq_getElem (by omega)⟩
        have hrs := HD.out.rs
        simp only at hrs
        have hmo : r.m.ok := hrs.okAt hr
        obtain ⟨bb, oo, rfl, hbb, hgg⟩ := hrs.2.2 (by omega)
        obtain ⟨q0, q1, q2, q3, q4⟩ := (hgg k r hr).below hbW hbb
        clear hgg hbW hrs
        obtain ⟨pm, m⟩ := r
        simp only at hmo q0 q1 q2 q3 q4
        cases pm
        · have HM := hide (fun w => matchPrint_walk m hmo w)
          have lM := matchT_len m
          have HRT := hide (show ruleT ⟨false, m⟩ = [100, 101, 110, 121, 32] ++ (matchT m ++ [10]) from rfl)
          have HTK := hide (flat_take ruleT hr)
          obtain ⟨M, hM⟩ : ∃ M, matchT m = M := ⟨_, rfl⟩
          rw [hM] at HM lM HRT
          have HJ2 := hide (show J ++ ([100, 101, 110, 121, 32] ++ (M ++ [10])) = HT ++ (rs.take (k + 1)).flatMap ruleT by rw [HTK.out, HJ.out, HRT.out, List.append_assoc])
          obtain ⟨a, b', c, d⟩ := m
          simp only at HM
          clear hM HTK HRT HJ hr hmo hJl0
          have a1 : ∀ w', (Op.stringOp .add ⟨List.toArray (J)⟩ ⟨List.toArray ([100, 101, 110, 121, 32])⟩).run Tryd.prog w' = .ok (.string ⟨List.toArray (J ++ [100, 101, 110, 121, 32])⟩) w' := fun w' => by
            have := add_run (J) ([100, 101, 110, 121, 32]) (by (try simp only [List.length_append, List.length_cons, List.length_nil]) <;> omega) (by (try simp only [List.length_append, List.length_cons, List.length_nil]) <;> omega) w'
            simpa using this
          have a2 : ∀ w', (Op.stringOp .add ⟨List.toArray (M)⟩ ⟨List.toArray ([10])⟩).run Tryd.prog w' = .ok (.string ⟨List.toArray (M ++ [10])⟩) w' := fun w' => by
            have := add_run (M) ([10]) (by (try simp only [List.length_append, List.length_cons, List.length_nil]) <;> omega) (by (try simp only [List.length_append, List.length_cons, List.length_nil]) <;> omega) w'
            simpa using this
          have a3 : ∀ w', (Op.stringOp .add ⟨List.toArray (J ++ [100, 101, 110, 121, 32])⟩ ⟨List.toArray (M ++ [10])⟩).run Tryd.prog w' = .ok (.string ⟨List.toArray (J ++ ([100, 101, 110, 121, 32] ++ (M ++ [10])))⟩) w' := fun w' => by
            have := add_run (J ++ [100, 101, 110, 121, 32]) (M ++ [10]) (by (try simp only [List.length_append, List.length_cons, List.length_nil]) <;> omega) (by (try simp only [List.length_append, List.length_cons, List.length_nil]) <;> omega) w'
            simpa using this
          have hwz := HBW.out.size
          have HB4 := hide (HBW.out.alloc hwz (.cells #[.bool false, .int .u16 (a : Int), .int .u16 (b' : Int), .int .u8 (c : Int), .int .u8 (d : Int)] 105))
          obtain ⟨y0, y1, y2, y3, y4⟩ := cells5f (heap_alloc_new wr (.cells #[.bool false, .int .u16 (a : Int), .int .u16 (b' : Int), .int .u8 (c : Int), .int .u8 (d : Int)] 105))
          clear HBW hJl lM
          go_wp2_with fail
          refine (HM.out _).mono ?_
          rintro e w5 ⟨rfl, hb5⟩
          have HB5 := hide (HB4.out.trans (hb5.mono HB4.out.size))
          clear hb5 HB4 y0 y1 y2 y3 y4 q0 q1 q2 q3 q4
          go_wp2_with fail
          go_roundw
          case rel => exact ⟨k + 1, _, by omega, by go_num, rfl, by simpa using HJ2, HB5⟩
          case measure => simp [intOf]; omega
        · have HM := hide (fun w => matchPrint_walk m hmo w)
          have lM := matchT_len m
          have HRT := hide (show ruleT ⟨true, m⟩ = [112, 101, 114, 109, 105, 116, 32] ++ (matchT m ++ [10]) from rfl)
          have HTK := hide (flat_take ruleT hr)
          obtain ⟨M, hM⟩ : ∃ M, matchT m = M := ⟨_, rfl⟩
          rw [hM] at HM lM HRT
          have HJ2 := hide (show J ++ ([112, 101, 114, 109, 105, 116, 32] ++ (M ++ [10])) = HT ++ (rs.take (k + 1)).flatMap ruleT by rw [HTK.out, HJ.out, HRT.out, List.append_assoc])
          obtain ⟨a, b', c, d⟩ := m
          simp only at HM
          clear hM HTK HRT HJ hr hmo hJl0
          have a1 : ∀ w', (Op.stringOp .add ⟨List.toArray (J)⟩ ⟨List.toArray ([112, 101, 114, 109, 105, 116, 32])⟩).run Tryd.prog w' = .ok (.string ⟨List.toArray (J ++ [112, 101, 114, 109, 105, 116, 32])⟩) w' := fun w' => by
            have := add_run (J) ([112, 101, 114, 109, 105, 116, 32]) (by (try simp only [List.length_append, List.length_cons, List.length_nil]) <;> omega) (by (try simp only [List.length_append, List.length_cons, List.length_nil]) <;> omega) w'
            simpa using this
          have a2 : ∀ w', (Op.stringOp .add ⟨List.toArray (M)⟩ ⟨List.toArray ([10])⟩).run Tryd.prog w' = .ok (.string ⟨List.toArray (M ++ [10])⟩) w' := fun w' => by
            have := add_run (M) ([10]) (by (try simp only [List.length_append, List.length_cons, List.length_nil]) <;> omega) (by (try simp only [List.length_append, List.length_cons, List.length_nil]) <;> omega) w'
            simpa using this
          have a3 : ∀ w', (Op.stringOp .add ⟨List.toArray (J ++ [112, 101, 114, 109, 105, 116, 32])⟩ ⟨List.toArray (M ++ [10])⟩).run Tryd.prog w' = .ok (.string ⟨List.toArray (J ++ ([112, 101, 114, 109, 105, 116, 32] ++ (M ++ [10])))⟩) w' := fun w' => by
            have := add_run (J ++ [112, 101, 114, 109, 105, 116, 32]) (M ++ [10]) (by (try simp only [List.length_append, List.length_cons, List.length_nil]) <;> omega) (by (try simp only [List.length_append, List.length_cons, List.length_nil]) <;> omega) w'
            simpa using this
          have hwz := HBW.out.size
          have HB4 := hide (HBW.out.alloc hwz (.cells #[.bool true, .int .u16 (a : Int), .int .u16 (b' : Int), .int .u8 (c : Int), .int .u8 (d : Int)] 105))
          obtain ⟨y0, y1, y2, y3, y4⟩ := cells5f (heap_alloc_new wr (.cells #[.bool true, .int .u16 (a : Int), .int .u16 (b' : Int), .int .u8 (c : Int), .int .u8 (d : Int)] 105))
          clear HBW hJl lM
          go_wp2_with fail
          refine (HM.out _).mono ?_
          rintro e w5 ⟨rfl, hb5⟩
          have HB5 := hide (HB4.out.trans (hb5.mono HB4.out.size))
          clear hb5 HB4 y0 y1 y2 y3 y4 q0 q1 q2 q3 q4
          go_wp2_with fail
          go_roundw
          case rel => exact ⟨k + 1, _, by omega, by go_num, rfl, by simpa using HJ2, HB5⟩
          case measure => simp [intOf]; omega
      case neg =>
        obtain rfl : k = rn := by omega
        have hall : rs.take k = rs := List.take_of_length_le (by omega)
        rw [hall] at HJ
        have HXR := hide ((HBW.out.block W.heap.size (heap_lt HX2.out)).trans HX2.out)
        have HBR := hide hbW
        obtain ⟨c0, c1, c2, c3, c4, c5, c6⟩ := cells7f HXR.out
        have hJlf : J.length ≤ 3000 := hJl
        clear hJl0 hbW HBW hall c0 c1 c2 c3 c4 c5
        obtain ⟨w7, hw7⟩ : ∃ w, w = wr := ⟨_, rfl⟩
        subst hw7
        go_wp2_with fail
        go_loopw [3, 77] (fun v i wf => ∃ (n : Nat) (L : List UInt8), n ≤ tn ∧ i = .int .i64 (n : Int) ∧ v = .string ⟨L.toArray⟩ ∧ Hid (L = J ++ (ts.take n).flatMap routeT) ∧ Hid (Below w7.heap.size w7 wf)) (fun _ i _ => tn - (intOf i).toNat)
        case atStart => exact ⟨0, J, Nat.zero_le _, rfl, rfl, hide (by simp), hide (Below.refl _ _)⟩
        case round =>
          obtain ⟨n, L, hn, rfl, rfl, HL, HBF⟩ := hrel
          have hLl : L.length ≤ 4000 := by
            have h15 := flat_len routeT 15 (ts.take n) (fun x hx => by
              have := HTO.out x (List.mem_of_mem_take hx)
              exact routeT_len this.1.2 this.2.1.2 this.2.2.2)
            rw [HL.out, List.length_append]
            have := HTT.out
            rw [List.length_take] at h15
            omega
          by_cases hlt2 : n < tn
          case pos =>
            obtain ⟨r, hr⟩ : ∃ r, ts[n]? = some r := ⟨_, List.getElem?_eq_getElem (by omega)⟩
            have hts := HD.out.ts
            simp only at hts
            have hrr := HTO.out r (List.mem_of_getElem? hr)
            obtain ⟨bb, oo, rfl, hbb, hgg⟩ := hts.2 (by omega)
            have hbF : Below W.heap.size W wr := HBR.out.trans (HBF.out.mono HBR.out.size)
            have q0 : wr.cell? ⟨bb, oo + n * 3, none⟩ = some (.int .i64 r.v) := (hbF.cell (p := ⟨bb, oo + n * 3, none⟩) hbb).trans (hgg n r hr 0 _ rfl)
            have q1 : wr.cell? ⟨bb, oo + n * 3 + 1, none⟩ = some (.int .i64 r.b) := (hbF.cell (p := ⟨bb, oo + n * 3 + 1, none⟩) hbb).trans (hgg n r hr 1 _ rfl)
            have q2 : wr.cell? ⟨bb, oo + n * 3 + 2, none⟩ = some (.int .i64 r.p) := (hbF.cell (p := ⟨bb, oo + n * 3 + 2, none⟩) hbb).trans (hgg n r hr 2 _ rfl)
            clear hgg hbF hts
            have HRT := hide (show routeT r = [114, 111, 117, 116, 101, 32] ++ (Lib.decDigits r.v.toNat ++ 47 :: (Lib.decDigits r.b.toNat ++ 32 :: (Lib.decDigits r.p.toNat ++ [10]))) from rfl)
            have HTK := hide (flat_take routeT hr)
            obtain ⟨rv, rb, rp⟩ := r
            simp only at q0 q1 q2 hrr HRT
            have I1 := hide (fun w => show Calls Tryd.prog 41 #[.int .i64 rv] w (fun e w' => e = .returned (.string ⟨(Lib.decDigits (rv).toNat).toArray⟩) ∧ w' = w) from by
              have h := Tryd.strconv_Itoa_small (rv).toNat (by have := hrr.1; omega) w
              rw [show (((rv).toNat : Nat) : Int) = rv by have := hrr.1; omega] at h
              exact h)
            have I2 := hide (fun w => show Calls Tryd.prog 41 #[.int .i64 rb] w (fun e w' => e = .returned (.string ⟨(Lib.decDigits (rb).toNat).toArray⟩) ∧ w' = w) from by
              have h := Tryd.strconv_Itoa_small (rb).toNat (by have := hrr.2.1; omega) w
              rw [show (((rb).toNat : Nat) : Int) = rb by have := hrr.2.1; omega] at h
              exact h)
            have I3 := hide (fun w => show Calls Tryd.prog 41 #[.int .i64 rp] w (fun e w' => e = .returned (.string ⟨(Lib.decDigits (rp).toNat).toArray⟩) ∧ w' = w) from by
              have h := Tryd.strconv_Itoa_small (rp).toNat (by have := hrr.2.2; omega) w
              rw [show (((rp).toNat : Nat) : Int) = rp by have := hrr.2.2; omega] at h
              exact h)
            have l1 := dec_len2 (show rv.toNat < 100 by omega)
            have l2 := dec_len2 (show rb.toNat < 100 by omega)
            have l3 := dec_len2 (show rp.toNat < 100 by omega)
            generalize Lib.decDigits rv.toNat = X1 at *
            generalize Lib.decDigits rb.toNat = X2 at *
            generalize Lib.decDigits rp.toNat = X3 at *
            have HL2 := hide (show L ++ ([114, 111, 117, 116, 101, 32] ++ (X1 ++ 47 :: (X2 ++ 32 :: (X3 ++ [10])))) = J ++ (ts.take (n + 1)).flatMap routeT by rw [HTK.out, HL.out, HRT.out, List.append_assoc])
            clear HTK HRT HL hr hrr
            have r1 : ∀ w', (Op.stringOp .add ⟨List.toArray ([114, 111, 117, 116, 101, 32])⟩ ⟨List.toArray (X1)⟩).run Tryd.prog w' = .ok (.string ⟨List.toArray (114 :: 111 :: 117 :: 116 :: 101 :: 32 :: X1)⟩) w' := fun w' => by
              have := add_run ([114, 111, 117, 116, 101, 32]) (X1) (by (try simp only [List.length_append, List.length_cons, List.length_nil]) <;> omega) (by (try simp only [List.length_append, List.length_cons, List.length_nil]) <;> omega) w'
              simpa using this
            have r2 : ∀ w', (Op.stringOp .add ⟨List.toArray (114 :: 111 :: 117 :: 116 :: 101 :: 32 :: X1)⟩ ⟨List.toArray ([47])⟩).run Tryd.prog w' = .ok (.string ⟨List.toArray (114 :: 111 :: 117 :: 116 :: 101 :: 32 :: (X1 ++ [47]))⟩) w' := fun w' => by
              have := add_run (114 :: 111 :: 117 :: 116 :: 101 :: 32 :: X1) ([47]) (by (try simp only [List.length_append, List.length_cons, List.length_nil]) <;> omega) (by (try simp only [List.length_append, List.length_cons, List.length_nil]) <;> omega) w'
              simpa using this
            have r3 : ∀ w', (Op.stringOp .add ⟨List.toArray (114 :: 111 :: 117 :: 116 :: 101 :: 32 :: (X1 ++ [47]))⟩ ⟨List.toArray (X2)⟩).run Tryd.prog w' = .ok (.string ⟨List.toArray (114 :: 111 :: 117 :: 116 :: 101 :: 32 :: (X1 ++ 47 :: X2))⟩) w' := fun w' => by
              have := add_run (114 :: 111 :: 117 :: 116 :: 101 :: 32 :: (X1 ++ [47])) (X2) (by (try simp only [List.length_append, List.length_cons, List.length_nil]) <;> omega) (by (try simp only [List.length_append, List.length_cons, List.length_nil]) <;> omega) w'
              simpa using this
            have r4 : ∀ w', (Op.stringOp .add ⟨List.toArray (114 :: 111 :: 117 :: 116 :: 101 :: 32 :: (X1 ++ 47 :: X2))⟩ ⟨List.toArray ([32])⟩).run Tryd.prog w' = .ok (.string ⟨List.toArray (114 :: 111 :: 117 :: 116 :: 101 :: 32 :: (X1 ++ 47 :: (X2 ++ [32])))⟩) w' := fun w' => by
              have := add_run (114 :: 111 :: 117 :: 116 :: 101 :: 32 :: (X1 ++ 47 :: X2)) ([32]) (by (try simp only [List.length_append, List.length_cons, List.length_nil]) <;> omega) (by (try simp only [List.length_append, List.length_cons, List.length_nil]) <;> omega) w'
              simpa using this
            have r5 : ∀ w', (Op.stringOp .add ⟨List.toArray (114 :: 111 :: 117 :: 116 :: 101 :: 32 :: (X1 ++ 47 :: (X2 ++ [32])))⟩ ⟨List.toArray (X3)⟩).run Tryd.prog w' = .ok (.string ⟨List.toArray (114 :: 111 :: 117 :: 116 :: 101 :: 32 :: (X1 ++ 47 :: (X2 ++ 32 :: X3)))⟩) w' := fun w' => by
              have := add_run (114 :: 111 :: 117 :: 116 :: 101 :: 32 :: (X1 ++ 47 :: (X2 ++ [32]))) (X3) (by (try simp only [List.length_append, List.length_cons, List.length_nil]) <;> omega) (by (try simp only [List.length_append, List.length_cons, List.length_nil]) <;> omega) w'
              simpa using this
            have r6 : ∀ w', (Op.stringOp .add ⟨List.toArray (114 :: 111 :: 117 :: 116 :: 101 :: 32 :: (X1 ++ 47 :: (X2 ++ 32 :: X3)))⟩ ⟨List.toArray ([10])⟩).run Tryd.prog w' = .ok (.string ⟨List.toArray (114 :: 111 :: 117 :: 116 :: 101 :: 32 :: (X1 ++ 47 :: (X2 ++ 32 :: (X3 ++ [10]))))⟩) w' := fun w' => by
              have := add_run (114 :: 111 :: 117 :: 116 :: 101 :: 32 :: (X1 ++ 47 :: (X2 ++ 32 :: X3))) ([10]) (by (try simp only [List.length_append, List.length_cons, List.length_nil]) <;> omega) (by (try simp only [List.length_append, List.length_cons, List.length_nil]) <;> omega) w'
              simpa using this
            have r7 : ∀ w', (Op.stringOp .add ⟨List.toArray (L)⟩ ⟨List.toArray (114 :: 111 :: 117 :: 116 :: 101 :: 32 :: (X1 ++ 47 :: (X2 ++ 32 :: (X3 ++ [10]))))⟩).run Tryd.prog w' = .ok (.string ⟨List.toArray (L ++ 114 :: 111 :: 117 :: 116 :: 101 :: 32 :: (X1 ++ 47 :: (X2 ++ 32 :: (X3 ++ [10]))))⟩) w' := fun w' => by
              have := add_run (L) (114 :: 111 :: 117 :: 116 :: 101 :: 32 :: (X1 ++ 47 :: (X2 ++ 32 :: (X3 ++ [10])))) (by (try simp only [List.length_append, List.length_cons, List.length_nil]) <;> omega) (by (try simp only [List.length_append, List.length_cons, List.length_nil]) <;> omega) w'
              simpa using this
            have hwz := HBF.out.size
            have HB4 := hide (HBF.out.alloc hwz (.cells #[.int .i64 rv, .int .i64 rb, .int .i64 rp] 107))
            obtain ⟨y0, y1, y2⟩ := cells3f (heap_alloc_new wr (.cells #[.int .i64 rv, .int .i64 rb, .int .i64 rp] 107))
            clear HBF hLl hJlf l1 l2 l3 hJl
            go_wp2_with fail
            generalize wr.alloc (.cells #[.int .i64 rv, .int .i64 rb, .int .i64 rp] 107) = w4 at *
            go_quiet (first | (go_at_call_of 41 (Value.int .i64 rv); exact Calls.quiet_of_same (I1.out _)) | (go_at_call_of 41 (Value.int .i64 rb); exact Calls.quiet_of_same (I2.out _)) | (go_at_call_of 41 (Value.int .i64 rp); exact Calls.quiet_of_same (I3.out _)))
            have HB5 := hide (HB4.out.trans ((below_drewN w4 nq).mono HB4.out.size))
            go_wp2_with fail
            go_roundw
            case rel => exact ⟨n + 1, _, by omega, by go_num, rfl, by simpa using HL2, HB5⟩
            case measure => simp [intOf]; omega
          case neg =>
            obtain rfl : n = tn := by omega
            have hall : ts.take n = ts := List.take_of_length_le (by omega)
            rw [hall] at HL
            have HFIN := hide (show L = DT by rw [HL.out, HJ.out, HDT.out, List.append_assoc])
            have HBZ := hide (HBR.out.trans (HBF.out.mono HBR.out.size))
            clear HL HJ HDT HBF hall
            go_wp2
            go_ret
            exact ⟨by rw [← HFIN.out]; rfl, HBZ.out⟩
  · -- a router
    have HH := hide (show HT = WK ++ 32 :: (nm ++ [10]) by rw [HHD.out, HTL.out, if_neg (by omega), if_neg (by omega), if_neg (by omega)])
    subst hk
    have s5 : ∀ w', (Op.stringOp .add ⟨List.toArray (WK ++ 32 :: nm)⟩ ⟨List.toArray ([10])⟩).run Tryd.prog w' = .ok (.string ⟨List.toArray (WK ++ 32 :: (nm ++ [10]))⟩) w' := fun w' => by
      have := add_run (WK ++ 32 :: nm) ([10]) (by (try simp only [List.length_append, List.length_cons, List.length_nil]) <;> omega) (by (try simp only [List.length_append, List.length_cons, List.length_nil]) <;> omega) w'
      simpa using this
    clear HHD HTL lX
    go_wp2_with fail
    rw [← HH.out]
    clear HH
    obtain ⟨c0, c1, c2, c3, c4, c5, c6⟩ := cells7f HX2.out
    clear c0 c1 c2 c3 c4
    have hrn := HD.out.rs.1
    have htn := HD.out.ts.1
    simp only at hrn htn
    have hrn8 : rn ≤ 8 := by have := HRL.out; omega
    have htn8 : tn ≤ 8 := by have := HTT.out; omega
    go_wp2_with fail
    go_loopw [3, 57] (fun v i wr => ∃ (k : Nat) (J : List UInt8), k ≤ rn ∧ i = .int .i64 (k : Int) ∧ v = .string ⟨J.toArray⟩ ∧ Hid (J = HT ++ (rs.take k).flatMap ruleT) ∧ Hid (Below w2.heap.size w2 wr)) (fun _ i _ => rn - (intOf i).toNat)
    case atStart => exact ⟨0, HT, Nat.zero_le _, rfl, rfl, hide (by simp), hide (Below.refl _ _)⟩
    case round =>
      obtain ⟨k, J, hk, rfl, rfl, HJ, HBW⟩ := hrel
      have hJl0 := flat_len ruleT 299 (rs.take k) (fun x _ => ruleT_len x)
      have hJl : J.length ≤ 3000 := by
        rw [HJ.out, List.length_append]
        have := HRL.out
        rw [List.length_take] at hJl0
        omega
      have hbW : Below W.heap.size W wr := HB2.out.trans (HBW.out.mono HB2.out.size)
      by_cases hlt : k < rn
      case pos =>
        obtain ⟨r, hr⟩ : ∃ r, rs[k]? = some r := ⟨_, List.getElem?_eq_getElem (by omega)⟩
        have hrs := HD.out.rs
        simp only at hrs
        have hmo : r.m.ok := hrs.okAt hr
        obtain ⟨bb, oo, rfl, hbb, hgg⟩ := hrs.2.2 (by omega)
        obtain ⟨q0, q1, q2, q3, q4⟩ := (hgg k r hr).below hbW hbb
        clear hgg hbW hrs
        obtain ⟨pm, m⟩ := r
        simp only at hmo q0 q1 q2 q3 q4
        cases pm
        · have HM := hide (fun w => matchPrint_walk m hmo w)
          have lM := matchT_len m
          have HRT := hide (show ruleT ⟨false, m⟩ = [100, 101, 110, 121, 32] ++ (matchT m ++ [10]) from rfl)
          have HTK := hide (flat_take ruleT hr)
          obtain ⟨M, hM⟩ : ∃ M, matchT m = M := ⟨_, rfl⟩
          rw [hM] at HM lM HRT
          have HJ2 := hide (show J ++ ([100, 101, 110, 121, 32] ++ (M ++ [10])) = HT ++ (rs.take (k + 1)).flatMap ruleT by rw [HTK.out, HJ.out, HRT.out, List.append_assoc])
          obtain ⟨a, b', c, d⟩ := m
          simp only at HM
          clear hM HTK HRT HJ hr hmo hJl0
          have a1 : ∀ w', (Op.stringOp .add ⟨List.toArray (J)⟩ ⟨List.toArray ([100, 101, 110, 121, 32])⟩).run Tryd.prog w' = .ok (.string ⟨List.toArray (J ++ [100, 101, 110, 121, 32])⟩) w' := fun w' => by
            have := add_run (J) ([100, 101, 110, 121, 32]) (by (try simp only [List.length_append, List.length_cons, List.length_nil]) <;> omega) (by (try simp only [List.length_append, List.length_cons, List.length_nil]) <;> omega) w'
            simpa using this
          have a2 : ∀ w', (Op.stringOp .add ⟨List.toArray (M)⟩ ⟨List.toArray ([10])⟩).run Tryd.prog w' = .ok (.string ⟨List.toArray (M ++ [10])⟩) w' := fun w' => by
            have := add_run (M) ([10]) (by (try simp only [List.length_append, List.length_cons, List.length_nil]) <;> omega) (by (try simp only [List.length_append, List.length_cons, List.length_nil]) <;> omega) w'
            simpa using this
          have a3 : ∀ w', (Op.stringOp .add ⟨List.toArray (J ++ [100, 101, 110, 121, 32])⟩ ⟨List.toArray (M ++ [10])⟩).run Tryd.prog w' = .ok (.string ⟨List.toArray (J ++ ([100, 101, 110, 121, 32] ++ (M ++ [10])))⟩) w' := fun w' => by
            have := add_run (J ++ [100, 101, 110, 121, 32]) (M ++ [10]) (by (try simp only [List.length_append, List.length_cons, List.length_nil]) <;> omega) (by (try simp only [List.length_append, List.length_cons, List.length_nil]) <;> omega) w'
            simpa using this
          have hwz := HBW.out.size
          have HB4 := hide (HBW.out.alloc hwz (.cells #[.bool false, .int .u16 (a : Int), .int .u16 (b' : Int), .int .u8 (c : Int), .int .u8 (d : Int)] 105))
          obtain ⟨y0, y1, y2, y3, y4⟩ := cells5f (heap_alloc_new wr (.cells #[.bool false, .int .u16 (a : Int), .int .u16 (b' : Int), .int .u8 (c : Int), .int .u8 (d : Int)] 105))
          clear HBW hJl lM
          go_wp2_with fail
          refine (HM.out _).mono ?_
          rintro e w5 ⟨rfl, hb5⟩
          have HB5 := hide (HB4.out.trans (hb5.mono HB4.out.size))
          clear hb5 HB4 y0 y1 y2 y3 y4 q0 q1 q2 q3 q4
          go_wp2_with fail
          go_roundw
          case rel => exact ⟨k + 1, _, by omega, by go_num, rfl, by simpa using HJ2, HB5⟩
          case measure => simp [intOf]; omega
        · have HM := hide (fun w => matchPrint_walk m hmo w)
          have lM := matchT_len m
          have HRT := hide (show ruleT ⟨true, m⟩ = [112, 101, 114, 109, 105, 116, 32] ++ (matchT m ++ [10]) from rfl)
          have HTK := hide (flat_take ruleT hr)
          obtain ⟨M, hM⟩ : ∃ M, matchT m = M := ⟨_, rfl⟩
          rw [hM] at HM lM HRT
          have HJ2 := hide (show J ++ ([112, 101, 114, 109, 105, 116, 32] ++ (M ++ [10])) = HT ++ (rs.take (k + 1)).flatMap ruleT by rw [HTK.out, HJ.out, HRT.out, List.append_assoc])
          obtain ⟨a, b', c, d⟩ := m
          simp only at HM
          clear hM HTK HRT HJ hr hmo hJl0
          have a1 : ∀ w', (Op.stringOp .add ⟨List.toArray (J)⟩ ⟨List.toArray ([112, 101, 114, 109, 105, 116, 32])⟩).run Tryd.prog w' = .ok (.string ⟨List.toArray (J ++ [112, 101, 114, 109, 105, 116, 32])⟩) w' := fun w' => by
            have := add_run (J) ([112, 101, 114, 109, 105, 116, 32]) (by (try simp only [List.length_append, List.length_cons, List.length_nil]) <;> omega) (by (try simp only [List.length_append, List.length_cons, List.length_nil]) <;> omega) w'
            simpa using this
          have a2 : ∀ w', (Op.stringOp .add ⟨List.toArray (M)⟩ ⟨List.toArray ([10])⟩).run Tryd.prog w' = .ok (.string ⟨List.toArray (M ++ [10])⟩) w' := fun w' => by
            have := add_run (M) ([10]) (by (try simp only [List.length_append, List.length_cons, List.length_nil]) <;> omega) (by (try simp only [List.length_append, List.length_cons, List.length_nil]) <;> omega) w'
            simpa using this
          have a3 : ∀ w', (Op.stringOp .add ⟨List.toArray (J ++ [112, 101, 114, 109, 105, 116, 32])⟩ ⟨List.toArray (M ++ [10])⟩).run Tryd.prog w' = .ok (.string ⟨List.toArray (J ++ ([112, 101, 114, 109, 105, 116, 32] ++ (M ++ [10])))⟩) w' := fun w' => by
            have := add_run (J ++ [112, 101, 114, 109, 105, 116, 32]) (M ++ [10]) (by (try simp only [List.length_append, List.length_cons, List.length_nil]) <;> omega) (by (try simp only [List.length_append, List.length_cons, List.length_nil]) <;> omega) w'
            simpa using this
          have hwz := HBW.out.size
          have HB4 := hide (HBW.out.alloc hwz (.cells #[.bool true, .int .u16 (a : Int), .int .u16 (b' : Int), .int .u8 (c : Int), .int .u8 (d : Int)] 105))
          obtain ⟨y0, y1, y2, y3, y4⟩ := cells5f (heap_alloc_new wr (.cells #[.bool true, .int .u16 (a : Int), .int .u16 (b' : Int), .int .u8 (c : Int), .int .u8 (d : Int)] 105))
          clear HBW hJl lM
          go_wp2_with fail
          refine (HM.out _).mono ?_
          rintro e w5 ⟨rfl, hb5⟩
          have HB5 := hide (HB4.out.trans (hb5.mono HB4.out.size))
          clear hb5 HB4 y0 y1 y2 y3 y4 q0 q1 q2 q3 q4
          go_wp2_with fail
          go_roundw
          case rel => exact ⟨k + 1, _, by omega, by go_num, rfl, by simpa using HJ2, HB5⟩
          case measure => simp [intOf]; omega
      case neg =>
        obtain rfl : k = rn := by omega
        have hall : rs.take k = rs := List.take_of_length_le (by omega)
        rw [hall] at HJ
        have HXR := hide ((HBW.out.block W.heap.size (heap_lt HX2.out)).trans HX2.out)
        have HBR := hide hbW
        obtain ⟨c0, c1, c2, c3, c4, c5, c6⟩ := cells7f HXR.out
        have hJlf : J.length ≤ 3000 := hJl
        clear hJl0 hbW HBW hall c0 c1 c2 c3 c4 c5
        obtain ⟨w7, hw7⟩ : ∃ w, w = wr := ⟨_, rfl⟩
        subst hw7
        go_wp2_with fail
        go_loopw [3, 77] (fun v i wf => ∃ (n : Nat) (L : List UInt8), n ≤ tn ∧ i = .int .i64 (n : Int) ∧ v = .string ⟨L.toArray⟩ ∧ Hid (L = J ++ (ts.take n).flatMap routeT) ∧ Hid (Below w7.heap.size w7 wf)) (fun _ i _ => tn - (intOf i).toNat)
        case atStart => exact ⟨0, J, Nat.zero_le _, rfl, rfl, hide (by simp), hide (Below.refl _ _)⟩
        case round =>
          obtain ⟨n, L, hn, rfl, rfl, HL, HBF⟩ := hrel
          have hLl : L.length ≤ 4000 := by
            have h15 := flat_len routeT 15 (ts.take n) (fun x hx => by
              have := HTO.out x (List.mem_of_mem_take hx)
              exact routeT_len this.1.2 this.2.1.2 this.2.2.2)
            rw [HL.out, List.length_append]
            have := HTT.out
            rw [List.length_take] at h15
            omega
          by_cases hlt2 : n < tn
          case pos =>
            obtain ⟨r, hr⟩ : ∃ r, ts[n]? = some r := ⟨_, List.getElem?_eq_getElem (by omega)⟩
            have hts := HD.out.ts
            simp only at hts
            have hrr := HTO.out r (List.mem_of_getElem? hr)
            obtain ⟨bb, oo, rfl, hbb, hgg⟩ := hts.2 (by omega)
            have hbF : Below W.heap.size W wr := HBR.out.trans (HBF.out.mono HBR.out.size)
            have q0 : wr.cell? ⟨bb, oo + n * 3, none⟩ = some (.int .i64 r.v) := (hbF.cell (p := ⟨bb, oo + n * 3, none⟩) hbb).trans (hgg n r hr 0 _ rfl)
            have q1 : wr.cell? ⟨bb, oo + n * 3 + 1, none⟩ = some (.int .i64 r.b) := (hbF.cell (p := ⟨bb, oo + n * 3 + 1, none⟩) hbb).trans (hgg n r hr 1 _ rfl)
            have q2 : wr.cell? ⟨bb, oo + n * 3 + 2, none⟩ = some (.int .i64 r.p) := (hbF.cell (p := ⟨bb, oo + n * 3 + 2, none⟩) hbb).trans (hgg n r hr 2 _ rfl)
            clear hgg hbF hts
            have HRT := hide (show routeT r = [114, 111, 117, 116, 101, 32] ++ (Lib.decDigits r.v.toNat ++ 47 :: (Lib.decDigits r.b.toNat ++ 32 :: (Lib.decDigits r.p.toNat ++ [10]))) from rfl)
            have HTK := hide (flat_take routeT hr)
            obtain ⟨rv, rb, rp⟩ := r
            simp only at q0 q1 q2 hrr HRT
            have I1 := hide (fun w => show Calls Tryd.prog 41 #[.int .i64 rv] w (fun e w' => e = .returned (.string ⟨(Lib.decDigits (rv).toNat).toArray⟩) ∧ w' = w) from by
              have h := Tryd.strconv_Itoa_small (rv).toNat (by have := hrr.1; omega) w
              rw [show (((rv).toNat : Nat) : Int) = rv by have := hrr.1; omega] at h
              exact h)
            have I2 := hide (fun w => show Calls Tryd.prog 41 #[.int .i64 rb] w (fun e w' => e = .returned (.string ⟨(Lib.decDigits (rb).toNat).toArray⟩) ∧ w' = w) from by
              have h := Tryd.strconv_Itoa_small (rb).toNat (by have := hrr.2.1; omega) w
              rw [show (((rb).toNat : Nat) : Int) = rb by have := hrr.2.1; omega] at h
              exact h)
            have I3 := hide (fun w => show Calls Tryd.prog 41 #[.int .i64 rp] w (fun e w' => e = .returned (.string ⟨(Lib.decDigits (rp).toNat).toArray⟩) ∧ w' = w) from by
              have h := Tryd.strconv_Itoa_small (rp).toNat (by have := hrr.2.2; omega) w
              rw [show (((rp).toNat : Nat) : Int) = rp by have := hrr.2.2; omega] at h
              exact h)
            have l1 := dec_len2 (show rv.toNat < 100 by omega)
            have l2 := dec_len2 (show rb.toNat < 100 by omega)
            have l3 := dec_len2 (show rp.toNat < 100 by omega)
            generalize Lib.decDigits rv.toNat = X1 at *
            generalize Lib.decDigits rb.toNat = X2 at *
            generalize Lib.decDigits rp.toNat = X3 at *
            have HL2 := hide (show L ++ ([114, 111, 117, 116, 101, 32] ++ (X1 ++ 47 :: (X2 ++ 32 :: (X3 ++ [10])))) = J ++ (ts.take (n + 1)).flatMap routeT by rw [HTK.out, HL.out, HRT.out, List.append_assoc])
            clear HTK HRT HL hr hrr
            have r1 : ∀ w', (Op.stringOp .add ⟨List.toArray ([114, 111, 117, 116, 101, 32])⟩ ⟨List.toArray (X1)⟩).run Tryd.prog w' = .ok (.string ⟨List.toArray (114 :: 111 :: 117 :: 116 :: 101 :: 32 :: X1)⟩) w' := fun w' => by
              have := add_run ([114, 111, 117, 116, 101, 32]) (X1) (by (try simp only [List.length_append, List.length_cons, List.length_nil]) <;> omega) (by (try simp only [List.length_append, List.length_cons, List.length_nil]) <;> omega) w'
              simpa using this
            have r2 : ∀ w', (Op.stringOp .add ⟨List.toArray (114 :: 111 :: 117 :: 116 :: 101 :: 32 :: X1)⟩ ⟨List.toArray ([47])⟩).run Tryd.prog w' = .ok (.string ⟨List.toArray (114 :: 111 :: 117 :: 116 :: 101 :: 32 :: (X1 ++ [47]))⟩) w' := fun w' => by
              have := add_run (114 :: 111 :: 117 :: 116 :: 101 :: 32 :: X1) ([47]) (by (try simp only [List.length_append, List.length_cons, List.length_nil]) <;> omega) (by (try simp only [List.length_append, List.length_cons, List.length_nil]) <;> omega) w'
              simpa using this
            have r3 : ∀ w', (Op.stringOp .add ⟨List.toArray (114 :: 111 :: 117 :: 116 :: 101 :: 32 :: (X1 ++ [47]))⟩ ⟨List.toArray (X2)⟩).run Tryd.prog w' = .ok (.string ⟨List.toArray (114 :: 111 :: 117 :: 116 :: 101 :: 32 :: (X1 ++ 47 :: X2))⟩) w' := fun w' => by
              have := add_run (114 :: 111 :: 117 :: 116 :: 101 :: 32 :: (X1 ++ [47])) (X2) (by (try simp only [List.length_append, List.length_cons, List.length_nil]) <;> omega) (by (try simp only [List.length_append, List.length_cons, List.length_nil]) <;> omega) w'
              simpa using this
            have r4 : ∀ w', (Op.stringOp .add ⟨List.toArray (114 :: 111 :: 117 :: 116 :: 101 :: 32 :: (X1 ++ 47 :: X2))⟩ ⟨List.toArray ([32])⟩).run Tryd.prog w' = .ok (.string ⟨List.toArray (114 :: 111 :: 117 :: 116 :: 101 :: 32 :: (X1 ++ 47 :: (X2 ++ [32])))⟩) w' := fun w' => by
              have := add_run (114 :: 111 :: 117 :: 116 :: 101 :: 32 :: (X1 ++ 47 :: X2)) ([32]) (by (try simp only [List.length_append, List.length_cons, List.length_nil]) <;> omega) (by (try simp only [List.length_append, List.length_cons, List.length_nil]) <;> omega) w'
              simpa using this
            have r5 : ∀ w', (Op.stringOp .add ⟨List.toArray (114 :: 111 :: 117 :: 116 :: 101 :: 32 :: (X1 ++ 47 :: (X2 ++ [32])))⟩ ⟨List.toArray (X3)⟩).run Tryd.prog w' = .ok (.string ⟨List.toArray (114 :: 111 :: 117 :: 116 :: 101 :: 32 :: (X1 ++ 47 :: (X2 ++ 32 :: X3)))⟩) w' := fun w' => by
              have := add_run (114 :: 111 :: 117 :: 116 :: 101 :: 32 :: (X1 ++ 47 :: (X2 ++ [32]))) (X3) (by (try simp only [List.length_append, List.length_cons, List.length_nil]) <;> omega) (by (try simp only [List.length_append, List.length_cons, List.length_nil]) <;> omega) w'
              simpa using this
            have r6 : ∀ w', (Op.stringOp .add ⟨List.toArray (114 :: 111 :: 117 :: 116 :: 101 :: 32 :: (X1 ++ 47 :: (X2 ++ 32 :: X3)))⟩ ⟨List.toArray ([10])⟩).run Tryd.prog w' = .ok (.string ⟨List.toArray (114 :: 111 :: 117 :: 116 :: 101 :: 32 :: (X1 ++ 47 :: (X2 ++ 32 :: (X3 ++ [10]))))⟩) w' := fun w' => by
              have := add_run (114 :: 111 :: 117 :: 116 :: 101 :: 32 :: (X1 ++ 47 :: (X2 ++ 32 :: X3))) ([10]) (by (try simp only [List.length_append, List.length_cons, List.length_nil]) <;> omega) (by (try simp only [List.length_append, List.length_cons, List.length_nil]) <;> omega) w'
              simpa using this
            have r7 : ∀ w', (Op.stringOp .add ⟨List.toArray (L)⟩ ⟨List.toArray (114 :: 111 :: 117 :: 116 :: 101 :: 32 :: (X1 ++ 47 :: (X2 ++ 32 :: (X3 ++ [10]))))⟩).run Tryd.prog w' = .ok (.string ⟨List.toArray (L ++ 114 :: 111 :: 117 :: 116 :: 101 :: 32 :: (X1 ++ 47 :: (X2 ++ 32 :: (X3 ++ [10]))))⟩) w' := fun w' => by
              have := add_run (L) (114 :: 111 :: 117 :: 116 :: 101 :: 32 :: (X1 ++ 47 :: (X2 ++ 32 :: (X3 ++ [10])))) (by (try simp only [List.length_append, List.length_cons, List.length_nil]) <;> omega) (by (try simp only [List.length_append, List.length_cons, List.length_nil]) <;> omega) w'
              simpa using this
            have hwz := HBF.out.size
            have HB4 := hide (HBF.out.alloc hwz (.cells #[.int .i64 rv, .int .i64 rb, .int .i64 rp] 107))
            obtain ⟨y0, y1, y2⟩ := cells3f (heap_alloc_new wr (.cells #[.int .i64 rv, .int .i64 rb, .int .i64 rp] 107))
            clear HBF hLl hJlf l1 l2 l3 hJl
            go_wp2_with fail
            generalize wr.alloc (.cells #[.int .i64 rv, .int .i64 rb, .int .i64 rp] 107) = w4 at *
            go_quiet (first | (go_at_call_of 41 (Value.int .i64 rv); exact Calls.quiet_of_same (I1.out _)) | (go_at_call_of 41 (Value.int .i64 rb); exact Calls.quiet_of_same (I2.out _)) | (go_at_call_of 41 (Value.int .i64 rp); exact Calls.quiet_of_same (I3.out _)))
            have HB5 := hide (HB4.out.trans ((below_drewN w4 nq).mono HB4.out.size))
            go_wp2_with fail
            go_roundw
            case rel => exact ⟨n + 1, _, by omega, by go_num, rfl, by simpa using HL2, HB5⟩
            case measure => simp [intOf]; omega
          case neg =>
            obtain rfl : n = tn := by omega
            have hall : ts.take n = ts := List.take_of_length_le (by omega)
            rw [hall] at HL
            have HFIN := hide (show L = DT by rw [HL.out, HJ.out, HDT.out, List.append_assoc])
            have HBZ := hide (HBR.out.trans (HBF.out.mono HBR.out.size))
            clear HL HJ HDT HBF hall
            go_wp2
            go_ret
            exact ⟨by rw [← HFIN.out]; rfl, HBZ.out⟩
  · -- a firewall
    have HH := hide (show HT = WK ++ 32 :: (nm ++ [10]) by rw [HHD.out, HTL.out, if_neg (by omega), if_neg (by omega), if_neg (by omega)])
    subst hk
    have s5 : ∀ w', (Op.stringOp .add ⟨List.toArray (WK ++ 32 :: nm)⟩ ⟨List.toArray ([10])⟩).run Tryd.prog w' = .ok (.string ⟨List.toArray (WK ++ 32 :: (nm ++ [10]))⟩) w' := fun w' => by
      have := add_run (WK ++ 32 :: nm) ([10]) (by (try simp only [List.length_append, List.length_cons, List.length_nil]) <;> omega) (by (try simp only [List.length_append, List.length_cons, List.length_nil]) <;> omega) w'
      simpa using this
    clear HHD HTL lX
    go_wp2_with fail
    rw [← HH.out]
    clear HH
    obtain ⟨c0, c1, c2, c3, c4, c5, c6⟩ := cells7f HX2.out
    clear c0 c1 c2 c3 c4
    have hrn := HD.out.rs.1
    have htn := HD.out.ts.1
    simp only at hrn htn
    have hrn8 : rn ≤ 8 := by have := HRL.out; omega
    have htn8 : tn ≤ 8 := by have := HTT.out; omega
    go_wp2_with fail
    go_loopw [3, 57] (fun v i wr => ∃ (k : Nat) (J : List UInt8), k ≤ rn ∧ i = .int .i64 (k : Int) ∧ v = .string ⟨J.toArray⟩ ∧ Hid (J = HT ++ (rs.take k).flatMap ruleT) ∧ Hid (Below w2.heap.size w2 wr)) (fun _ i _ => rn - (intOf i).toNat)
    case atStart => exact ⟨0, HT, Nat.zero_le _, rfl, rfl, hide (by simp), hide (Below.refl _ _)⟩
    case round =>
      obtain ⟨k, J, hk, rfl, rfl, HJ, HBW⟩ := hrel
      have hJl0 := flat_len ruleT 299 (rs.take k) (fun x _ => ruleT_len x)
      have hJl : J.length ≤ 3000 := by
        rw [HJ.out, List.length_append]
        have := HRL.out
        rw [List.length_take] at hJl0
        omega
      have hbW : Below W.heap.size W wr := HB2.out.trans (HBW.out.mono HB2.out.size)
      by_cases hlt : k < rn
      case pos =>
        obtain ⟨r, hr⟩ : ∃ r, rs[k]? = some r := ⟨_, List.getElem?_eq_getElem (by omega)⟩
        have hrs := HD.out.rs
        simp only at hrs
        have hmo : r.m.ok := hrs.okAt hr
        obtain ⟨bb, oo, rfl, hbb, hgg⟩ := hrs.2.2 (by omega)
        obtain ⟨q0, q1, q2, q3, q4⟩ := (hgg k r hr).below hbW hbb
        clear hgg hbW hrs
        obtain ⟨pm, m⟩ := r
        simp only at hmo q0 q1 q2 q3 q4
        cases pm
        · have HM := hide (fun w => matchPrint_walk m hmo w)
          have lM := matchT_len m
          have HRT := hide (show ruleT ⟨false, m⟩ = [100, 101, 110, 121, 32] ++ (matchT m ++ [10]) from rfl)
          have HTK := hide (flat_take ruleT hr)
          obtain ⟨M, hM⟩ : ∃ M, matchT m = M := ⟨_, rfl⟩
          rw [hM] at HM lM HRT
          have HJ2 := hide (show J ++ ([100, 101, 110, 121, 32] ++ (M ++ [10])) = HT ++ (rs.take (k + 1)).flatMap ruleT by rw [HTK.out, HJ.out, HRT.out, List.append_assoc])
          obtain ⟨a, b', c, d⟩ := m
          simp only at HM
          clear hM HTK HRT HJ hr hmo hJl0
          have a1 : ∀ w', (Op.stringOp .add ⟨List.toArray (J)⟩ ⟨List.toArray ([100, 101, 110, 121, 32])⟩).run Tryd.prog w' = .ok (.string ⟨List.toArray (J ++ [100, 101, 110, 121, 32])⟩) w' := fun w' => by
            have := add_run (J) ([100, 101, 110, 121, 32]) (by (try simp only [List.length_append, List.length_cons, List.length_nil]) <;> omega) (by (try simp only [List.length_append, List.length_cons, List.length_nil]) <;> omega) w'
            simpa using this
          have a2 : ∀ w', (Op.stringOp .add ⟨List.toArray (M)⟩ ⟨List.toArray ([10])⟩).run Tryd.prog w' = .ok (.string ⟨List.toArray (M ++ [10])⟩) w' := fun w' => by
            have := add_run (M) ([10]) (by (try simp only [List.length_append, List.length_cons, List.length_nil]) <;> omega) (by (try simp only [List.length_append, List.length_cons, List.length_nil]) <;> omega) w'
            simpa using this
          have a3 : ∀ w', (Op.stringOp .add ⟨List.toArray (J ++ [100, 101, 110, 121, 32])⟩ ⟨List.toArray (M ++ [10])⟩).run Tryd.prog w' = .ok (.string ⟨List.toArray (J ++ ([100, 101, 110, 121, 32] ++ (M ++ [10])))⟩) w' := fun w' => by
            have := add_run (J ++ [100, 101, 110, 121, 32]) (M ++ [10]) (by (try simp only [List.length_append, List.length_cons, List.length_nil]) <;> omega) (by (try simp only [List.length_append, List.length_cons, List.length_nil]) <;> omega) w'
            simpa using this
          have hwz := HBW.out.size
          have HB4 := hide (HBW.out.alloc hwz (.cells #[.bool false, .int .u16 (a : Int), .int .u16 (b' : Int), .int .u8 (c : Int), .int .u8 (d : Int)] 105))
          obtain ⟨y0, y1, y2, y3, y4⟩ := cells5f (heap_alloc_new wr (.cells #[.bool false, .int .u16 (a : Int), .int .u16 (b' : Int), .int .u8 (c : Int), .int .u8 (d : Int)] 105))
          clear HBW hJl lM
          go_wp2_with fail
          refine (HM.out _).mono ?_
          rintro e w5 ⟨rfl, hb5⟩
          have HB5 := hide (HB4.out.trans (hb5.mono HB4.out.size))
          clear hb5 HB4 y0 y1 y2 y3 y4 q0 q1 q2 q3 q4
          go_wp2_with fail
          go_roundw
          case rel => exact ⟨k + 1, _, by omega, by go_num, rfl, by simpa using HJ2, HB5⟩
          case measure => simp [intOf]; omega
        · have HM := hide (fun w => matchPrint_walk m hmo w)
          have lM := matchT_len m
          have HRT := hide (show ruleT ⟨true, m⟩ = [112, 101, 114, 109, 105, 116, 32] ++ (matchT m ++ [10]) from rfl)
          have HTK := hide (flat_take ruleT hr)
          obtain ⟨M, hM⟩ : ∃ M, matchT m = M := ⟨_, rfl⟩
          rw [hM] at HM lM HRT
          have HJ2 := hide (show J ++ ([112, 101, 114, 109, 105, 116, 32] ++ (M ++ [10])) = HT ++ (rs.take (k + 1)).flatMap ruleT by rw [HTK.out, HJ.out, HRT.out, List.append_assoc])
          obtain ⟨a, b', c, d⟩ := m
          simp only at HM
          clear hM HTK HRT HJ hr hmo hJl0
          have a1 : ∀ w', (Op.stringOp .add ⟨List.toArray (J)⟩ ⟨List.toArray ([112, 101, 114, 109, 105, 116, 32])⟩).run Tryd.prog w' = .ok (.string ⟨List.toArray (J ++ [112, 101, 114, 109, 105, 116, 32])⟩) w' := fun w' => by
            have := add_run (J) ([112, 101, 114, 109, 105, 116, 32]) (by (try simp only [List.length_append, List.length_cons, List.length_nil]) <;> omega) (by (try simp only [List.length_append, List.length_cons, List.length_nil]) <;> omega) w'
            simpa using this
          have a2 : ∀ w', (Op.stringOp .add ⟨List.toArray (M)⟩ ⟨List.toArray ([10])⟩).run Tryd.prog w' = .ok (.string ⟨List.toArray (M ++ [10])⟩) w' := fun w' => by
            have := add_run (M) ([10]) (by (try simp only [List.length_append, List.length_cons, List.length_nil]) <;> omega) (by (try simp only [List.length_append, List.length_cons, List.length_nil]) <;> omega) w'
            simpa using this
          have a3 : ∀ w', (Op.stringOp .add ⟨List.toArray (J ++ [112, 101, 114, 109, 105, 116, 32])⟩ ⟨List.toArray (M ++ [10])⟩).run Tryd.prog w' = .ok (.string ⟨List.toArray (J ++ ([112, 101, 114, 109, 105, 116, 32] ++ (M ++ [10])))⟩) w' := fun w' => by
            have := add_run (J ++ [112, 101, 114, 109, 105, 116, 32]) (M ++ [10]) (by (try simp only [List.length_append, List.length_cons, List.length_nil]) <;> omega) (by (try simp only [List.length_append, List.length_cons, List.length_nil]) <;> omega) w'
            simpa using this
          have hwz := HBW.out.size
          have HB4 := hide (HBW.out.alloc hwz (.cells #[.bool true, .int .u16 (a : Int), .int .u16 (b' : Int), .int .u8 (c : Int), .int .u8 (d : Int)] 105))
          obtain ⟨y0, y1, y2, y3, y4⟩ := cells5f (heap_alloc_new wr (.cells #[.bool true, .int .u16 (a : Int), .int .u16 (b' : Int), .int .u8 (c : Int), .int .u8 (d : Int)] 105))
          clear HBW hJl lM
          go_wp2_with fail
          refine (HM.out _).mono ?_
          rintro e w5 ⟨rfl, hb5⟩
          have HB5 := hide (HB4.out.trans (hb5.mono HB4.out.size))
          clear hb5 HB4 y0 y1 y2 y3 y4 q0 q1 q2 q3 q4
          go_wp2_with fail
          go_roundw
          case rel => exact ⟨k + 1, _, by omega, by go_num, rfl, by simpa using HJ2, HB5⟩
          case measure => simp [intOf]; omega
      case neg =>
        obtain rfl : k = rn := by omega
        have hall : rs.take k = rs := List.take_of_length_le (by omega)
        rw [hall] at HJ
        have HXR := hide ((HBW.out.block W.heap.size (heap_lt HX2.out)).trans HX2.out)
        have HBR := hide hbW
        obtain ⟨c0, c1, c2, c3, c4, c5, c6⟩ := cells7f HXR.out
        have hJlf : J.length ≤ 3000 := hJl
        clear hJl0 hbW HBW hall c0 c1 c2 c3 c4 c5
        obtain ⟨w7, hw7⟩ : ∃ w, w = wr := ⟨_, rfl⟩
        subst hw7
        go_wp2_with fail
        go_loopw [3, 77] (fun v i wf => ∃ (n : Nat) (L : List UInt8), n ≤ tn ∧ i = .int .i64 (n : Int) ∧ v = .string ⟨L.toArray⟩ ∧ Hid (L = J ++ (ts.take n).flatMap routeT) ∧ Hid (Below w7.heap.size w7 wf)) (fun _ i _ => tn - (intOf i).toNat)
        case atStart => exact ⟨0, J, Nat.zero_le _, rfl, rfl, hide (by simp), hide (Below.refl _ _)⟩
        case round =>
          obtain ⟨n, L, hn, rfl, rfl, HL, HBF⟩ := hrel
          have hLl : L.length ≤ 4000 := by
            have h15 := flat_len routeT 15 (ts.take n) (fun x hx => by
              have := HTO.out x (List.mem_of_mem_take hx)
              exact routeT_len this.1.2 this.2.1.2 this.2.2.2)
            rw [HL.out, List.length_append]
            have := HTT.out
            rw [List.length_take] at h15
            omega
          by_cases hlt2 : n < tn
          case pos =>
            obtain ⟨r, hr⟩ : ∃ r, ts[n]? = some r := ⟨_, List.getElem?_eq_getElem (by omega)⟩
            have hts := HD.out.ts
            simp only at hts
            have hrr := HTO.out r (List.mem_of_getElem? hr)
            obtain ⟨bb, oo, rfl, hbb, hgg⟩ := hts.2 (by omega)
            have hbF : Below W.heap.size W wr := HBR.out.trans (HBF.out.mono HBR.out.size)
            have q0 : wr.cell? ⟨bb, oo + n * 3, none⟩ = some (.int .i64 r.v) := (hbF.cell (p := ⟨bb, oo + n * 3, none⟩) hbb).trans (hgg n r hr 0 _ rfl)
            have q1 : wr.cell? ⟨bb, oo + n * 3 + 1, none⟩ = some (.int .i64 r.b) := (hbF.cell (p := ⟨bb, oo + n * 3 + 1, none⟩) hbb).trans (hgg n r hr 1 _ rfl)
            have q2 : wr.cell? ⟨bb, oo + n * 3 + 2, none⟩ = some (.int .i64 r.p) := (hbF.cell (p := ⟨bb, oo + n * 3 + 2, none⟩) hbb).trans (hgg n r hr 2 _ rfl)
            clear hgg hbF hts
            have HRT := hide (show routeT r = [114, 111, 117, 116, 101, 32] ++ (Lib.decDigits r.v.toNat ++ 47 :: (Lib.decDigits r.b.toNat ++ 32 :: (Lib.decDigits r.p.toNat ++ [10]))) from rfl)
            have HTK := hide (flat_take routeT hr)
            obtain ⟨rv, rb, rp⟩ := r
            simp only at q0 q1 q2 hrr HRT
            have I1 := hide (fun w => show Calls Tryd.prog 41 #[.int .i64 rv] w (fun e w' => e = .returned (.string ⟨(Lib.decDigits (rv).toNat).toArray⟩) ∧ w' = w) from by
              have h := Tryd.strconv_Itoa_small (rv).toNat (by have := hrr.1; omega) w
              rw [show (((rv).toNat : Nat) : Int) = rv by have := hrr.1; omega] at h
              exact h)
            have I2 := hide (fun w => show Calls Tryd.prog 41 #[.int .i64 rb] w (fun e w' => e = .returned (.string ⟨(Lib.decDigits (rb).toNat).toArray⟩) ∧ w' = w) from by
              have h := Tryd.strconv_Itoa_small (rb).toNat (by have := hrr.2.1; omega) w
              rw [show (((rb).toNat : Nat) : Int) = rb by have := hrr.2.1; omega] at h
              exact h)
            have I3 := hide (fun w => show Calls Tryd.prog 41 #[.int .i64 rp] w (fun e w' => e = .returned (.string ⟨(Lib.decDigits (rp).toNat).toArray⟩) ∧ w' = w) from by
              have h := Tryd.strconv_Itoa_small (rp).toNat (by have := hrr.2.2; omega) w
              rw [show (((rp).toNat : Nat) : Int) = rp by have := hrr.2.2; omega] at h
              exact h)
            have l1 := dec_len2 (show rv.toNat < 100 by omega)
            have l2 := dec_len2 (show rb.toNat < 100 by omega)
            have l3 := dec_len2 (show rp.toNat < 100 by omega)
            generalize Lib.decDigits rv.toNat = X1 at *
            generalize Lib.decDigits rb.toNat = X2 at *
            generalize Lib.decDigits rp.toNat = X3 at *
            have HL2 := hide (show L ++ ([114, 111, 117, 116, 101, 32] ++ (X1 ++ 47 :: (X2 ++ 32 :: (X3 ++ [10])))) = J ++ (ts.take (n + 1)).flatMap routeT by rw [HTK.out, HL.out, HRT.out, List.append_assoc])
            clear HTK HRT HL hr hrr
            have r1 : ∀ w', (Op.stringOp .add ⟨List.toArray ([114, 111, 117, 116, 101, 32])⟩ ⟨List.toArray (X1)⟩).run Tryd.prog w' = .ok (.string ⟨List.toArray (114 :: 111 :: 117 :: 116 :: 101 :: 32 :: X1)⟩) w' := fun w' => by
              have := add_run ([114, 111, 117, 116, 101, 32]) (X1) (by (try simp only [List.length_append, List.length_cons, List.length_nil]) <;> omega) (by (try simp only [List.length_append, List.length_cons, List.length_nil]) <;> omega) w'
              simpa using this
            have r2 : ∀ w', (Op.stringOp .add ⟨List.toArray (114 :: 111 :: 117 :: 116 :: 101 :: 32 :: X1)⟩ ⟨List.toArray ([47])⟩).run Tryd.prog w' = .ok (.string ⟨List.toArray (114 :: 111 :: 117 :: 116 :: 101 :: 32 :: (X1 ++ [47]))⟩) w' := fun w' => by
              have := add_run (114 :: 111 :: 117 :: 116 :: 101 :: 32 :: X1) ([47]) (by (try simp only [List.length_append, List.length_cons, List.length_nil]) <;> omega) (by (try simp only [List.length_append, List.length_cons, List.length_nil]) <;> omega) w'
              simpa using this
            have r3 : ∀ w', (Op.stringOp .add ⟨List.toArray (114 :: 111 :: 117 :: 116 :: 101 :: 32 :: (X1 ++ [47]))⟩ ⟨List.toArray (X2)⟩).run Tryd.prog w' = .ok (.string ⟨List.toArray (114 :: 111 :: 117 :: 116 :: 101 :: 32 :: (X1 ++ 47 :: X2))⟩) w' := fun w' => by
              have := add_run (114 :: 111 :: 117 :: 116 :: 101 :: 32 :: (X1 ++ [47])) (X2) (by (try simp only [List.length_append, List.length_cons, List.length_nil]) <;> omega) (by (try simp only [List.length_append, List.length_cons, List.length_nil]) <;> omega) w'
              simpa using this
            have r4 : ∀ w', (Op.stringOp .add ⟨List.toArray (114 :: 111 :: 117 :: 116 :: 101 :: 32 :: (X1 ++ 47 :: X2))⟩ ⟨List.toArray ([32])⟩).run Tryd.prog w' = .ok (.string ⟨List.toArray (114 :: 111 :: 117 :: 116 :: 101 :: 32 :: (X1 ++ 47 :: (X2 ++ [32])))⟩) w' := fun w' => by
              have := add_run (114 :: 111 :: 117 :: 116 :: 101 :: 32 :: (X1 ++ 47 :: X2)) ([32]) (by (try simp only [List.length_append, List.length_cons, List.length_nil]) <;> omega) (by (try simp only [List.length_append, List.length_cons, List.length_nil]) <;> omega) w'
              simpa using this
            have r5 : ∀ w', (Op.stringOp .add ⟨List.toArray (114 :: 111 :: 117 :: 116 :: 101 :: 32 :: (X1 ++ 47 :: (X2 ++ [32])))⟩ ⟨List.toArray (X3)⟩).run Tryd.prog w' = .ok (.string ⟨List.toArray (114 :: 111 :: 117 :: 116 :: 101 :: 32 :: (X1 ++ 47 :: (X2 ++ 32 :: X3)))⟩) w' := fun w' => by
              have := add_run (114 :: 111 :: 117 :: 116 :: 101 :: 32 :: (X1 ++ 47 :: (X2 ++ [32]))) (X3) (by (try simp only [List.length_append, List.length_cons, List.length_nil]) <;> omega) (by (try simp only [List.length_append, List.length_cons, List.length_nil]) <;> omega) w'
              simpa using this
            have r6 : ∀ w', (Op.stringOp .add ⟨List.toArray (114 :: 111 :: 117 :: 116 :: 101 :: 32 :: (X1 ++ 47 :: (X2 ++ 32 :: X3)))⟩ ⟨List.toArray ([10])⟩).run Tryd.prog w' = .ok (.string ⟨List.toArray (114 :: 111 :: 117 :: 116 :: 101 :: 32 :: (X1 ++ 47 :: (X2 ++ 32 :: (X3 ++ [10]))))⟩) w' := fun w' => by
              have := add_run (114 :: 111 :: 117 :: 116 :: 101 :: 32 :: (X1 ++ 47 :: (X2 ++ 32 :: X3))) ([10]) (by (try simp only [List.length_append, List.length_cons, List.length_nil]) <;> omega) (by (try simp only [List.length_append, List.length_cons, List.length_nil]) <;> omega) w'
              simpa using this
            have r7 : ∀ w', (Op.stringOp .add ⟨List.toArray (L)⟩ ⟨List.toArray (114 :: 111 :: 117 :: 116 :: 101 :: 32 :: (X1 ++ 47 :: (X2 ++ 32 :: (X3 ++ [10]))))⟩).run Tryd.prog w' = .ok (.string ⟨List.toArray (L ++ 114 :: 111 :: 117 :: 116 :: 101 :: 32 :: (X1 ++ 47 :: (X2 ++ 32 :: (X3 ++ [10]))))⟩) w' := fun w' => by
              have := add_run (L) (114 :: 111 :: 117 :: 116 :: 101 :: 32 :: (X1 ++ 47 :: (X2 ++ 32 :: (X3 ++ [10])))) (by (try simp only [List.length_append, List.length_cons, List.length_nil]) <;> omega) (by (try simp only [List.length_append, List.length_cons, List.length_nil]) <;> omega) w'
              simpa using this
            have hwz := HBF.out.size
            have HB4 := hide (HBF.out.alloc hwz (.cells #[.int .i64 rv, .int .i64 rb, .int .i64 rp] 107))
            obtain ⟨y0, y1, y2⟩ := cells3f (heap_alloc_new wr (.cells #[.int .i64 rv, .int .i64 rb, .int .i64 rp] 107))
            clear HBF hLl hJlf l1 l2 l3 hJl
            go_wp2_with fail
            generalize wr.alloc (.cells #[.int .i64 rv, .int .i64 rb, .int .i64 rp] 107) = w4 at *
            go_quiet (first | (go_at_call_of 41 (Value.int .i64 rv); exact Calls.quiet_of_same (I1.out _)) | (go_at_call_of 41 (Value.int .i64 rb); exact Calls.quiet_of_same (I2.out _)) | (go_at_call_of 41 (Value.int .i64 rp); exact Calls.quiet_of_same (I3.out _)))
            have HB5 := hide (HB4.out.trans ((below_drewN w4 nq).mono HB4.out.size))
            go_wp2_with fail
            go_roundw
            case rel => exact ⟨n + 1, _, by omega, by go_num, rfl, by simpa using HL2, HB5⟩
            case measure => simp [intOf]; omega
          case neg =>
            obtain rfl : n = tn := by omega
            have hall : ts.take n = ts := List.take_of_length_le (by omega)
            rw [hall] at HL
            have HFIN := hide (show L = DT by rw [HL.out, HJ.out, HDT.out, List.append_assoc])
            have HBZ := hide (HBR.out.trans (HBF.out.mono HBR.out.size))
            clear HL HJ HDT HBF hall
            go_wp2
            go_ret
            exact ⟨by rw [← HFIN.out]; rfl, HBZ.out⟩
  · -- a nat
    have lL := comT_len (xs := poolL pool) (fun x hx => by have := poolL_lt pool x hx; omega)
    have hpl := poolL_len pool
    have hp0 := HP0.out hk
    have hpl2 : pool < 256 := HD.out.pl
    have HPO := hide (fun w => pool_walk pool w hpl2)
    have HLW := hide (fun A c w (hI : IntsAt w w.heap.size A (poolL pool).length ((poolL pool).map fun (k : Nat) => (k : Int))) => list_walk (poolL pool) A (poolL pool).length c w hI (fun x hx => by have := poolL_lt pool x hx; omega) hpl hp0)
    have HH' := hide (show HT = WK ++ 32 :: (nm ++ 32 :: (X ++ 32 :: (comT (poolL pool) ++ [10]))) by rw [HHD.out, HTL.out, if_neg (by omega), if_pos hk])
    obtain ⟨L, hL⟩ : ∃ L, comT (poolL pool) = L := ⟨_, rfl⟩
    rw [hL] at lL HLW HH'
    have HH := HH'
    subst hk
    have s3 : ∀ w', (Op.stringOp .add ⟨List.toArray ([32])⟩ ⟨List.toArray (X)⟩).run Tryd.prog w' = .ok (.string ⟨List.toArray (32 :: X)⟩) w' := fun w' => by
      have := add_run ([32]) (X) (by (try simp only [List.length_append, List.length_cons, List.length_nil]) <;> omega) (by (try simp only [List.length_append, List.length_cons, List.length_nil]) <;> omega) w'
      simpa using this
    have s4 : ∀ w', (Op.stringOp .add ⟨List.toArray (32 :: X)⟩ ⟨List.toArray ([32])⟩).run Tryd.prog w' = .ok (.string ⟨List.toArray (32 :: (X ++ [32]))⟩) w' := fun w' => by
      have := add_run (32 :: X) ([32]) (by (try simp only [List.length_append, List.length_cons, List.length_nil]) <;> omega) (by (try simp only [List.length_append, List.length_cons, List.length_nil]) <;> omega) w'
      simpa using this
    have s5 : ∀ w', (Op.stringOp .add ⟨List.toArray (32 :: (X ++ [32]))⟩ ⟨List.toArray (L)⟩).run Tryd.prog w' = .ok (.string ⟨List.toArray (32 :: (X ++ 32 :: L))⟩) w' := fun w' => by
      have := add_run (32 :: (X ++ [32])) (L) (by (try simp only [List.length_append, List.length_cons, List.length_nil]) <;> omega) (by (try simp only [List.length_append, List.length_cons, List.length_nil]) <;> omega) w'
      simpa using this
    have s6 : ∀ w', (Op.stringOp .add ⟨List.toArray (WK ++ 32 :: nm)⟩ ⟨List.toArray (32 :: (X ++ 32 :: L))⟩).run Tryd.prog w' = .ok (.string ⟨List.toArray (WK ++ 32 :: (nm ++ 32 :: (X ++ 32 :: L)))⟩) w' := fun w' => by
      have := add_run (WK ++ 32 :: nm) (32 :: (X ++ 32 :: L)) (by (try simp only [List.length_append, List.length_cons, List.length_nil]) <;> omega) (by (try simp only [List.length_append, List.length_cons, List.length_nil]) <;> omega) w'
      simpa using this
    have s7 : ∀ w', (Op.stringOp .add ⟨List.toArray (WK ++ 32 :: (nm ++ 32 :: (X ++ 32 :: L)))⟩ ⟨List.toArray ([10])⟩).run Tryd.prog w' = .ok (.string ⟨List.toArray (WK ++ 32 :: (nm ++ 32 :: (X ++ 32 :: (L ++ [10]))))⟩) w' := fun w' => by
      have := add_run (WK ++ 32 :: (nm ++ 32 :: (X ++ 32 :: L))) ([10]) (by (try simp only [List.length_append, List.length_cons, List.length_nil]) <;> omega) (by (try simp only [List.length_append, List.length_cons, List.length_nil]) <;> omega) w'
      simpa using this
    obtain ⟨PN, hPN⟩ : ∃ n, (poolL pool).length = n := ⟨_, rfl⟩
    rw [hPN] at HPO HLW
    clear HHD HTL lX lL hL hpl hp0 hPN HH' HP0
    go_wp2_with fail
    clear c0 c1 c4 c5 c6
    have p0 := c2
    have p1 := c3
    have HPP := hide (fun (w' : World) (hb : Below w2.heap.size w2 w') => show w'.cell? ⟨W.heap.size, 2, none⟩ = some (.int .i64 addr) ∧ w'.cell? ⟨W.heap.size, 3, none⟩ = some (.int .u8 (pool : Int)) from ⟨(hb.cell (p := ⟨W.heap.size, 2, none⟩) (heap_lt HX2.out)).trans c2, (hb.cell (p := ⟨W.heap.size, 3, none⟩) (heap_lt HX2.out)).trans c3⟩)
    clear c2 c3
    go_region_held3 (fun w' => w'.cell? ⟨W.heap.size, 2, none⟩ = some (.int .i64 addr) ∧ w'.cell? ⟨W.heap.size, 3, none⟩ = some (.int .u8 (pool : Int))) (go_keep) (first | (go_at_call 41; refine (HIA.out _).mono ?_; rintro e w5 ⟨rfl, rfl⟩) | (go_at_call 90; refine (HPO.out _).mono ?_; rintro e w3 ⟨A, c, rfl, hI, hb⟩; have HI3 := hide hI; have HB3 := hide (show Below w2.heap.size w2 w3 from (by first | exact hb | exact (below_drewN w2 _).trans hb)); have p0 := (HPP.out _ HB3.out).1; have p1 := (HPP.out _ HB3.out).2; clear hI hb) | (go_at_call 89; refine (HLW.out _ _ _ (by first | exact HI3.out | exact HI3.out.below (below_drewN w3 _) (Nat.le_refl _))).mono ?_; rintro e w4 ⟨rfl, hb⟩; have HB4 := hide (show Below w3.heap.size w3 w4 from (by first | exact hb | exact (below_drewN w3 _).trans hb)); have HB24 := hide (HB3.out.trans (HB4.out.mono HB3.out.size)); have p0 := (HPP.out _ HB24.out).1; have p1 := (HPP.out _ HB24.out).2; clear hb))
    have HX4 := hide ((HB24.out.block W.heap.size (heap_lt HX2.out)).trans HX2.out)
    have HBX := hide (HB2.out.trans (HB24.out.mono HB2.out.size))
    rename_i hheld
    clear hheld p0 p1 HB24 HB4 HB3 HI3 HPO HLW HPP HX2 HB2 HIA
    obtain ⟨c0, c1, c2, c3, c4, c5, c6⟩ := cells7f HX4.out
    go_wp2_with fail
    rw [← HH.out]
    clear HH
    obtain ⟨c0, c1, c2, c3, c4, c5, c6⟩ := cells7f HX4.out
    clear c0 c1 c2 c3 c4
    have hrn := HD.out.rs.1
    have htn := HD.out.ts.1
    simp only at hrn htn
    have hrn8 : rn ≤ 8 := by have := HRL.out; omega
    have htn8 : tn ≤ 8 := by have := HTT.out; omega
    go_wp2_with fail
    go_loopw [3, 57] (fun v i wr => ∃ (k : Nat) (J : List UInt8), k ≤ rn ∧ i = .int .i64 (k : Int) ∧ v = .string ⟨J.toArray⟩ ∧ Hid (J = HT ++ (rs.take k).flatMap ruleT) ∧ Hid (Below w4.heap.size w4 wr)) (fun _ i _ => rn - (intOf i).toNat)
    case atStart => exact ⟨0, HT, Nat.zero_le _, rfl, rfl, hide (by simp), hide (Below.refl _ _)⟩
    case round =>
      obtain ⟨k, J, hk, rfl, rfl, HJ, HBW⟩ := hrel
      have hJl0 := flat_len ruleT 299 (rs.take k) (fun x _ => ruleT_len x)
      have hJl : J.length ≤ 3000 := by
        rw [HJ.out, List.length_append]
        have := HRL.out
        rw [List.length_take] at hJl0
        omega
      have hbW : Below W.heap.size W wr := HBX.out.trans (HBW.out.mono HBX.out.size)
      by_cases hlt : k < rn
      case pos =>
        obtain ⟨r, hr⟩ : ∃ r, rs[k]? = some r := ⟨_, List.getElem?_eq_getElem (by omega)⟩
        have hrs := HD.out.rs
        simp only at hrs
        have hmo : r.m.ok := hrs.okAt hr
        obtain ⟨bb, oo, rfl, hbb, hgg⟩ := hrs.2.2 (by omega)
        obtain ⟨q0, q1, q2, q3, q4⟩ := (hgg k r hr).below hbW hbb
        clear hgg hbW hrs
        obtain ⟨pm, m⟩ := r
        simp only at hmo q0 q1 q2 q3 q4
        cases pm
        · have HM := hide (fun w => matchPrint_walk m hmo w)
          have lM := matchT_len m
          have HRT := hide (show ruleT ⟨false, m⟩ = [100, 101, 110, 121, 32] ++ (matchT m ++ [10]) from rfl)
          have HTK := hide (flat_take ruleT hr)
          obtain ⟨M, hM⟩ : ∃ M, matchT m = M := ⟨_, rfl⟩
          rw [hM] at HM lM HRT
          have HJ2 := hide (show J ++ ([100, 101, 110, 121, 32] ++ (M ++ [10])) = HT ++ (rs.take (k + 1)).flatMap ruleT by rw [HTK.out, HJ.out, HRT.out, List.append_assoc])
          obtain ⟨a, b', c, d⟩ := m
          simp only at HM
          clear hM HTK HRT HJ hr hmo hJl0
          have a1 : ∀ w', (Op.stringOp .add ⟨List.toArray (J)⟩ ⟨List.toArray ([100, 101, 110, 121, 32])⟩).run Tryd.prog w' = .ok (.string ⟨List.toArray (J ++ [100, 101, 110, 121, 32])⟩) w' := fun w' => by
            have := add_run (J) ([100, 101, 110, 121, 32]) (by (try simp only [List.length_append, List.length_cons, List.length_nil]) <;> omega) (by (try simp only [List.length_append, List.length_cons, List.length_nil]) <;> omega) w'
            simpa using this
          have a2 : ∀ w', (Op.stringOp .add ⟨List.toArray (M)⟩ ⟨List.toArray ([10])⟩).run Tryd.prog w' = .ok (.string ⟨List.toArray (M ++ [10])⟩) w' := fun w' => by
            have := add_run (M) ([10]) (by (try simp only [List.length_append, List.length_cons, List.length_nil]) <;> omega) (by (try simp only [List.length_append, List.length_cons, List.length_nil]) <;> omega) w'
            simpa using this
          have a3 : ∀ w', (Op.stringOp .add ⟨List.toArray (J ++ [100, 101, 110, 121, 32])⟩ ⟨List.toArray (M ++ [10])⟩).run Tryd.prog w' = .ok (.string ⟨List.toArray (J ++ ([100, 101, 110, 121, 32] ++ (M ++ [10])))⟩) w' := fun w' => by
            have := add_run (J ++ [100, 101, 110, 121, 32]) (M ++ [10]) (by (try simp only [List.length_append, List.length_cons, List.length_nil]) <;> omega) (by (try simp only [List.length_append, List.length_cons, List.length_nil]) <;> omega) w'
            simpa using this
          have hwz := HBW.out.size
          have HB4 := hide (HBW.out.alloc hwz (.cells #[.bool false, .int .u16 (a : Int), .int .u16 (b' : Int), .int .u8 (c : Int), .int .u8 (d : Int)] 105))
          obtain ⟨y0, y1, y2, y3, y4⟩ := cells5f (heap_alloc_new wr (.cells #[.bool false, .int .u16 (a : Int), .int .u16 (b' : Int), .int .u8 (c : Int), .int .u8 (d : Int)] 105))
          clear HBW hJl lM
          go_wp2_with fail
          refine (HM.out _).mono ?_
          rintro e w5 ⟨rfl, hb5⟩
          have HB5 := hide (HB4.out.trans (hb5.mono HB4.out.size))
          clear hb5 HB4 y0 y1 y2 y3 y4 q0 q1 q2 q3 q4
          go_wp2_with fail
          go_roundw
          case rel => exact ⟨k + 1, _, by omega, by go_num, rfl, by simpa using HJ2, HB5⟩
          case measure => simp [intOf]; omega
        · have HM := hide (fun w => matchPrint_walk m hmo w)
          have lM := matchT_len m
          have HRT := hide (show ruleT ⟨true, m⟩ = [112, 101, 114, 109, 105, 116, 32] ++ (matchT m ++ [10]) from rfl)
          have HTK := hide (flat_take ruleT hr)
          obtain ⟨M, hM⟩ : ∃ M, matchT m = M := ⟨_, rfl⟩
          rw [hM] at HM lM HRT
          have HJ2 := hide (show J ++ ([112, 101, 114, 109, 105, 116, 32] ++ (M ++ [10])) = HT ++ (rs.take (k + 1)).flatMap ruleT by rw [HTK.out, HJ.out, HRT.out, List.append_assoc])
          obtain ⟨a, b', c, d⟩ := m
          simp only at HM
          clear hM HTK HRT HJ hr hmo hJl0
          have a1 : ∀ w', (Op.stringOp .add ⟨List.toArray (J)⟩ ⟨List.toArray ([112, 101, 114, 109, 105, 116, 32])⟩).run Tryd.prog w' = .ok (.string ⟨List.toArray (J ++ [112, 101, 114, 109, 105, 116, 32])⟩) w' := fun w' => by
            have := add_run (J) ([112, 101, 114, 109, 105, 116, 32]) (by (try simp only [List.length_append, List.length_cons, List.length_nil]) <;> omega) (by (try simp only [List.length_append, List.length_cons, List.length_nil]) <;> omega) w'
            simpa using this
          have a2 : ∀ w', (Op.stringOp .add ⟨List.toArray (M)⟩ ⟨List.toArray ([10])⟩).run Tryd.prog w' = .ok (.string ⟨List.toArray (M ++ [10])⟩) w' := fun w' => by
            have := add_run (M) ([10]) (by (try simp only [List.length_append, List.length_cons, List.length_nil]) <;> omega) (by (try simp only [List.length_append, List.length_cons, List.length_nil]) <;> omega) w'
            simpa using this
          have a3 : ∀ w', (Op.stringOp .add ⟨List.toArray (J ++ [112, 101, 114, 109, 105, 116, 32])⟩ ⟨List.toArray (M ++ [10])⟩).run Tryd.prog w' = .ok (.string ⟨List.toArray (J ++ ([112, 101, 114, 109, 105, 116, 32] ++ (M ++ [10])))⟩) w' := fun w' => by
            have := add_run (J ++ [112, 101, 114, 109, 105, 116, 32]) (M ++ [10]) (by (try simp only [List.length_append, List.length_cons, List.length_nil]) <;> omega) (by (try simp only [List.length_append, List.length_cons, List.length_nil]) <;> omega) w'
            simpa using this
          have hwz := HBW.out.size
          have HB4 := hide (HBW.out.alloc hwz (.cells #[.bool true, .int .u16 (a : Int), .int .u16 (b' : Int), .int .u8 (c : Int), .int .u8 (d : Int)] 105))
          obtain ⟨y0, y1, y2, y3, y4⟩ := cells5f (heap_alloc_new wr (.cells #[.bool true, .int .u16 (a : Int), .int .u16 (b' : Int), .int .u8 (c : Int), .int .u8 (d : Int)] 105))
          clear HBW hJl lM
          go_wp2_with fail
          refine (HM.out _).mono ?_
          rintro e w5 ⟨rfl, hb5⟩
          have HB5 := hide (HB4.out.trans (hb5.mono HB4.out.size))
          clear hb5 HB4 y0 y1 y2 y3 y4 q0 q1 q2 q3 q4
          go_wp2_with fail
          go_roundw
          case rel => exact ⟨k + 1, _, by omega, by go_num, rfl, by simpa using HJ2, HB5⟩
          case measure => simp [intOf]; omega
      case neg =>
        obtain rfl : k = rn := by omega
        have hall : rs.take k = rs := List.take_of_length_le (by omega)
        rw [hall] at HJ
        have HXR := hide ((HBW.out.block W.heap.size (heap_lt HX4.out)).trans HX4.out)
        have HBR := hide hbW
        obtain ⟨c0, c1, c2, c3, c4, c5, c6⟩ := cells7f HXR.out
        have hJlf : J.length ≤ 3000 := hJl
        clear hJl0 hbW HBW hall c0 c1 c2 c3 c4 c5
        obtain ⟨w7, hw7⟩ : ∃ w, w = wr := ⟨_, rfl⟩
        subst hw7
        go_wp2_with fail
        go_loopw [3, 77] (fun v i wf => ∃ (n : Nat) (L : List UInt8), n ≤ tn ∧ i = .int .i64 (n : Int) ∧ v = .string ⟨L.toArray⟩ ∧ Hid (L = J ++ (ts.take n).flatMap routeT) ∧ Hid (Below w7.heap.size w7 wf)) (fun _ i _ => tn - (intOf i).toNat)
        case atStart => exact ⟨0, J, Nat.zero_le _, rfl, rfl, hide (by simp), hide (Below.refl _ _)⟩
        case round =>
          obtain ⟨n, L, hn, rfl, rfl, HL, HBF⟩ := hrel
          have hLl : L.length ≤ 4000 := by
            have h15 := flat_len routeT 15 (ts.take n) (fun x hx => by
              have := HTO.out x (List.mem_of_mem_take hx)
              exact routeT_len this.1.2 this.2.1.2 this.2.2.2)
            rw [HL.out, List.length_append]
            have := HTT.out
            rw [List.length_take] at h15
            omega
          by_cases hlt2 : n < tn
          case pos =>
            obtain ⟨r, hr⟩ : ∃ r, ts[n]? = some r := ⟨_, List.getElem?_eq_getElem (by omega)⟩
            have hts := HD.out.ts
            simp only at hts
            have hrr := HTO.out r (List.mem_of_getElem? hr)
            obtain ⟨bb, oo, rfl, hbb, hgg⟩ := hts.2 (by omega)
            have hbF : Below W.heap.size W wr := HBR.out.trans (HBF.out.mono HBR.out.size)
            have q0 : wr.cell? ⟨bb, oo + n * 3, none⟩ = some (.int .i64 r.v) := (hbF.cell (p := ⟨bb, oo + n * 3, none⟩) hbb).trans (hgg n r hr 0 _ rfl)
            have q1 : wr.cell? ⟨bb, oo + n * 3 + 1, none⟩ = some (.int .i64 r.b) := (hbF.cell (p := ⟨bb, oo + n * 3 + 1, none⟩) hbb).trans (hgg n r hr 1 _ rfl)
            have q2 : wr.cell? ⟨bb, oo + n * 3 + 2, none⟩ = some (.int .i64 r.p) := (hbF.cell (p := ⟨bb, oo + n * 3 + 2, none⟩) hbb).trans (hgg n r hr 2 _ rfl)
            clear hgg hbF hts
            have HRT := hide (show routeT r = [114, 111, 117, 116, 101, 32] ++ (Lib.decDigits r.v.toNat ++ 47 :: (Lib.decDigits r.b.toNat ++ 32 :: (Lib.decDigits r.p.toNat ++ [10]))) from rfl)
            have HTK := hide (flat_take routeT hr)
            obtain ⟨rv, rb, rp⟩ := r
            simp only at q0 q1 q2 hrr HRT
            have I1 := hide (fun w => show Calls Tryd.prog 41 #[.int .i64 rv] w (fun e w' => e = .returned (.string ⟨(Lib.decDigits (rv).toNat).toArray⟩) ∧ w' = w) from by
              have h := Tryd.strconv_Itoa_small (rv).toNat (by have := hrr.1; omega) w
              rw [show (((rv).toNat : Nat) : Int) = rv by have := hrr.1; omega] at h
              exact h)
            have I2 := hide (fun w => show Calls Tryd.prog 41 #[.int .i64 rb] w (fun e w' => e = .returned (.string ⟨(Lib.decDigits (rb).toNat).toArray⟩) ∧ w' = w) from by
              have h := Tryd.strconv_Itoa_small (rb).toNat (by have := hrr.2.1; omega) w
              rw [show (((rb).toNat : Nat) : Int) = rb by have := hrr.2.1; omega] at h
              exact h)
            have I3 := hide (fun w => show Calls Tryd.prog 41 #[.int .i64 rp] w (fun e w' => e = .returned (.string ⟨(Lib.decDigits (rp).toNat).toArray⟩) ∧ w' = w) from by
              have h := Tryd.strconv_Itoa_small (rp).toNat (by have := hrr.2.2; omega) w
              rw [show (((rp).toNat : Nat) : Int) = rp by have := hrr.2.2; omega] at h
              exact h)
            have l1 := dec_len2 (show rv.toNat < 100 by omega)
            have l2 := dec_len2 (show rb.toNat < 100 by omega)
            have l3 := dec_len2 (show rp.toNat < 100 by omega)
            generalize Lib.decDigits rv.toNat = X1 at *
            generalize Lib.decDigits rb.toNat = X2 at *
            generalize Lib.decDigits rp.toNat = X3 at *
            have HL2 := hide (show L ++ ([114, 111, 117, 116, 101, 32] ++ (X1 ++ 47 :: (X2 ++ 32 :: (X3 ++ [10])))) = J ++ (ts.take (n + 1)).flatMap routeT by rw [HTK.out, HL.out, HRT.out, List.append_assoc])
            clear HTK HRT HL hr hrr
            have r1 : ∀ w', (Op.stringOp .add ⟨List.toArray ([114, 111, 117, 116, 101, 32])⟩ ⟨List.toArray (X1)⟩).run Tryd.prog w' = .ok (.string ⟨List.toArray (114 :: 111 :: 117 :: 116 :: 101 :: 32 :: X1)⟩) w' := fun w' => by
              have := add_run ([114, 111, 117, 116, 101, 32]) (X1) (by (try simp only [List.length_append, List.length_cons, List.length_nil]) <;> omega) (by (try simp only [List.length_append, List.length_cons, List.length_nil]) <;> omega) w'
              simpa using this
            have r2 : ∀ w', (Op.stringOp .add ⟨List.toArray (114 :: 111 :: 117 :: 116 :: 101 :: 32 :: X1)⟩ ⟨List.toArray ([47])⟩).run Tryd.prog w' = .ok (.string ⟨List.toArray (114 :: 111 :: 117 :: 116 :: 101 :: 32 :: (X1 ++ [47]))⟩) w' := fun w' => by
              have := add_run (114 :: 111 :: 117 :: 116 :: 101 :: 32 :: X1) ([47]) (by (try simp only [List.length_append, List.length_cons, List.length_nil]) <;> omega) (by (try simp only [List.length_append, List.length_cons, List.length_nil]) <;> omega) w'
              simpa using this
            have r3 : ∀ w', (Op.stringOp .add ⟨List.toArray (114 :: 111 :: 117 :: 116 :: 101 :: 32 :: (X1 ++ [47]))⟩ ⟨List.toArray (X2)⟩).run Tryd.prog w' = .ok (.string ⟨List.toArray (114 :: 111 :: 117 :: 116 :: 101 :: 32 :: (X1 ++ 47 :: X2))⟩) w' := fun w' => by
              have := add_run (114 :: 111 :: 117 :: 116 :: 101 :: 32 :: (X1 ++ [47])) (X2) (by (try simp only [List.length_append, List.length_cons, List.length_nil]) <;> omega) (by (try simp only [List.length_append, List.length_cons, List.length_nil]) <;> omega) w'
              simpa using this
            have r4 : ∀ w', (Op.stringOp .add ⟨List.toArray (114 :: 111 :: 117 :: 116 :: 101 :: 32 :: (X1 ++ 47 :: X2))⟩ ⟨List.toArray ([32])⟩).run Tryd.prog w' = .ok (.string ⟨List.toArray (114 :: 111 :: 117 :: 116 :: 101 :: 32 :: (X1 ++ 47 :: (X2 ++ [32])))⟩) w' := fun w' => by
              have := add_run (114 :: 111 :: 117 :: 116 :: 101 :: 32 :: (X1 ++ 47 :: X2)) ([32]) (by (try simp only [List.length_append, List.length_cons, List.length_nil]) <;> omega) (by (try simp only [List.length_append, List.length_cons, List.length_nil]) <;> omega) w'
              simpa using this
            have r5 : ∀ w', (Op.stringOp .add ⟨List.toArray (114 :: 111 :: 117 :: 116 :: 101 :: 32 :: (X1 ++ 47 :: (X2 ++ [32])))⟩ ⟨List.toArray (X3)⟩).run Tryd.prog w' = .ok (.string ⟨List.toArray (114 :: 111 :: 117 :: 116 :: 101 :: 32 :: (X1 ++ 47 :: (X2 ++ 32 :: X3)))⟩) w' := fun w' => by
              have := add_run (114 :: 111 :: 117 :: 116 :: 101 :: 32 :: (X1 ++ 47 :: (X2 ++ [32]))) (X3) (by (try simp only [List.length_append, List.length_cons, List.length_nil]) <;> omega) (by (try simp only [List.length_append, List.length_cons, List.length_nil]) <;> omega) w'
              simpa using this
            have r6 : ∀ w', (Op.stringOp .add ⟨List.toArray (114 :: 111 :: 117 :: 116 :: 101 :: 32 :: (X1 ++ 47 :: (X2 ++ 32 :: X3)))⟩ ⟨List.toArray ([10])⟩).run Tryd.prog w' = .ok (.string ⟨List.toArray (114 :: 111 :: 117 :: 116 :: 101 :: 32 :: (X1 ++ 47 :: (X2 ++ 32 :: (X3 ++ [10]))))⟩) w' := fun w' => by
              have := add_run (114 :: 111 :: 117 :: 116 :: 101 :: 32 :: (X1 ++ 47 :: (X2 ++ 32 :: X3))) ([10]) (by (try simp only [List.length_append, List.length_cons, List.length_nil]) <;> omega) (by (try simp only [List.length_append, List.length_cons, List.length_nil]) <;> omega) w'
              simpa using this
            have r7 : ∀ w', (Op.stringOp .add ⟨List.toArray (L)⟩ ⟨List.toArray (114 :: 111 :: 117 :: 116 :: 101 :: 32 :: (X1 ++ 47 :: (X2 ++ 32 :: (X3 ++ [10]))))⟩).run Tryd.prog w' = .ok (.string ⟨List.toArray (L ++ 114 :: 111 :: 117 :: 116 :: 101 :: 32 :: (X1 ++ 47 :: (X2 ++ 32 :: (X3 ++ [10]))))⟩) w' := fun w' => by
              have := add_run (L) (114 :: 111 :: 117 :: 116 :: 101 :: 32 :: (X1 ++ 47 :: (X2 ++ 32 :: (X3 ++ [10])))) (by (try simp only [List.length_append, List.length_cons, List.length_nil]) <;> omega) (by (try simp only [List.length_append, List.length_cons, List.length_nil]) <;> omega) w'
              simpa using this
            have hwz := HBF.out.size
            have HB4 := hide (HBF.out.alloc hwz (.cells #[.int .i64 rv, .int .i64 rb, .int .i64 rp] 107))
            obtain ⟨y0, y1, y2⟩ := cells3f (heap_alloc_new wr (.cells #[.int .i64 rv, .int .i64 rb, .int .i64 rp] 107))
            clear HBF hLl hJlf l1 l2 l3 hJl
            go_wp2_with fail
            generalize wr.alloc (.cells #[.int .i64 rv, .int .i64 rb, .int .i64 rp] 107) = w4 at *
            go_quiet (first | (go_at_call_of 41 (Value.int .i64 rv); exact Calls.quiet_of_same (I1.out _)) | (go_at_call_of 41 (Value.int .i64 rb); exact Calls.quiet_of_same (I2.out _)) | (go_at_call_of 41 (Value.int .i64 rp); exact Calls.quiet_of_same (I3.out _)))
            have HB5 := hide (HB4.out.trans ((below_drewN w4 nq).mono HB4.out.size))
            go_wp2_with fail
            go_roundw
            case rel => exact ⟨n + 1, _, by omega, by go_num, rfl, by simpa using HL2, HB5⟩
            case measure => simp [intOf]; omega
          case neg =>
            obtain rfl : n = tn := by omega
            have hall : ts.take n = ts := List.take_of_length_le (by omega)
            rw [hall] at HL
            have HFIN := hide (show L = DT by rw [HL.out, HJ.out, HDT.out, List.append_assoc])
            have HBZ := hide (HBR.out.trans (HBF.out.mono HBR.out.size))
            clear HL HJ HDT HBF hall
            go_wp2
            go_ret
            exact ⟨by rw [← HFIN.out]; rfl, HBZ.out⟩
  · -- a balancer
    have hbs := HBS.out
    have hbn := HB0.out hk
    have hb3 := HBL.out
    have lL := comT_len (xs := bs.map Int.toNat) (fun x hx => by
      obtain ⟨y, hy, rfl⟩ := List.mem_map.1 hx
      have := hbs y hy; omega)
    rw [List.length_map] at lL
    have HLW := hide (fun w (hb : Below W.heap.size W w) => list_walk (bs.map Int.toNat) bA bn bc w (by
        rw [backs_nat hbs]; exact HD.out.bs.below hb hb.size) (fun x hx => by
        obtain ⟨y, hy, rfl⟩ := List.mem_map.1 hx
        have := hbs y hy; omega) (by have := HD.out.bs.1; simp only at this; omega) (by have := HD.out.bs.1; simp only at this; omega))
    have HH' := hide (show HT = WK ++ 32 :: (nm ++ 32 :: (X ++ 32 :: (comT (bs.map Int.toNat) ++ [10]))) by rw [HHD.out, HTL.out, if_neg (by omega), if_neg (by omega), if_pos hk])
    obtain ⟨L, hL⟩ : ∃ L, comT (bs.map Int.toNat) = L := ⟨_, rfl⟩
    rw [hL] at lL HLW HH'
    have HH := HH'
    subst hk
    have s3 : ∀ w', (Op.stringOp .add ⟨List.toArray ([32])⟩ ⟨List.toArray (X)⟩).run Tryd.prog w' = .ok (.string ⟨List.toArray (32 :: X)⟩) w' := fun w' => by
      have := add_run ([32]) (X) (by (try simp only [List.length_append, List.length_cons, List.length_nil]) <;> omega) (by (try simp only [List.length_append, List.length_cons, List.length_nil]) <;> omega) w'
      simpa using this
    have s4 : ∀ w', (Op.stringOp .add ⟨List.toArray (32 :: X)⟩ ⟨List.toArray ([32])⟩).run Tryd.prog w' = .ok (.string ⟨List.toArray (32 :: (X ++ [32]))⟩) w' := fun w' => by
      have := add_run (32 :: X) ([32]) (by (try simp only [List.length_append, List.length_cons, List.length_nil]) <;> omega) (by (try simp only [List.length_append, List.length_cons, List.length_nil]) <;> omega) w'
      simpa using this
    have s5 : ∀ w', (Op.stringOp .add ⟨List.toArray (32 :: (X ++ [32]))⟩ ⟨List.toArray (L)⟩).run Tryd.prog w' = .ok (.string ⟨List.toArray (32 :: (X ++ 32 :: L))⟩) w' := fun w' => by
      have := add_run (32 :: (X ++ [32])) (L) (by (try simp only [List.length_append, List.length_cons, List.length_nil]) <;> omega) (by (try simp only [List.length_append, List.length_cons, List.length_nil]) <;> omega) w'
      simpa using this
    have s6 : ∀ w', (Op.stringOp .add ⟨List.toArray (WK ++ 32 :: nm)⟩ ⟨List.toArray (32 :: (X ++ 32 :: L))⟩).run Tryd.prog w' = .ok (.string ⟨List.toArray (WK ++ 32 :: (nm ++ 32 :: (X ++ 32 :: L)))⟩) w' := fun w' => by
      have := add_run (WK ++ 32 :: nm) (32 :: (X ++ 32 :: L)) (by (try simp only [List.length_append, List.length_cons, List.length_nil]) <;> omega) (by (try simp only [List.length_append, List.length_cons, List.length_nil]) <;> omega) w'
      simpa using this
    have s7 : ∀ w', (Op.stringOp .add ⟨List.toArray (WK ++ 32 :: (nm ++ 32 :: (X ++ 32 :: L)))⟩ ⟨List.toArray ([10])⟩).run Tryd.prog w' = .ok (.string ⟨List.toArray (WK ++ 32 :: (nm ++ 32 :: (X ++ 32 :: (L ++ [10]))))⟩) w' := fun w' => by
      have := add_run (WK ++ 32 :: (nm ++ 32 :: (X ++ 32 :: L))) ([10]) (by (try simp only [List.length_append, List.length_cons, List.length_nil]) <;> omega) (by (try simp only [List.length_append, List.length_cons, List.length_nil]) <;> omega) w'
      simpa using this
    clear HHD HTL lX lL hL hbs hbn hb3 HH' HB0
    go_wp2_with fail
    refine wp_region_abs (by kernel_rfl) (by kernel_rfl) ?_
    intro T hT gt hg1 hgi
    have HC := hide (fun t => cells7f (((hg1 t).block W.heap.size (heap_lt HX2.out)).trans HX2.out))
    have k2 : ∀ t, (gt t).cell? ⟨W.heap.size, 2, none⟩ = some (.int .i64 addr) := fun t => (HC.out t).2.2.1
    have k4 : ∀ t, (gt t).cell? ⟨W.heap.size, 4, none⟩ = some (.slice bA bn bc) := fun t => (HC.out t).2.2.2.2.1
    have HGT := hide hg1
    have HGI := hide hgi
    clear hg1 hgi HC c0 c1 c2 c3 c4 c5 c6
    repeat (go_big_quiet_step ((first | (go_at_call 41; exact inAbsSame (HIA.out _)) | (go_at_call 89; exact inAbs HGT.out HGI.out (HLW.out _ (HB2.out.trans ((HGT.out _).mono HB2.out.size)))))))
    refine wpQuiet_nil ?_
    intro _ hw'
    obtain ⟨t, rfl⟩ := hw'
    have HX3 := hide (((HGT.out t).block W.heap.size (heap_lt HX2.out)).trans HX2.out)
    have HB3 := hide (HB2.out.trans ((HGT.out t).mono HB2.out.size))
    generalize gt t = w3 at *
    clear HGT HGI k2 k4 HX2 HB2 HLW HIA
    obtain ⟨c0, c1, c2, c3, c4, c5, c6⟩ := cells7f HX3.out
    go_wp2_with fail
    rw [← HH.out]
    clear HH
    obtain ⟨c0, c1, c2, c3, c4, c5, c6⟩ := cells7f HX3.out
    clear c0 c1 c2 c3 c4
    have hrn := HD.out.rs.1
    have htn := HD.out.ts.1
    simp only at hrn htn
    have hrn8 : rn ≤ 8 := by have := HRL.out; omega
    have htn8 : tn ≤ 8 := by have := HTT.out; omega
    go_wp2_with fail
    go_loopw [3, 57] (fun v i wr => ∃ (k : Nat) (J : List UInt8), k ≤ rn ∧ i = .int .i64 (k : Int) ∧ v = .string ⟨J.toArray⟩ ∧ Hid (J = HT ++ (rs.take k).flatMap ruleT) ∧ Hid (Below w3.heap.size w3 wr)) (fun _ i _ => rn - (intOf i).toNat)
    case atStart => exact ⟨0, HT, Nat.zero_le _, rfl, rfl, hide (by simp), hide (Below.refl _ _)⟩
    case round =>
      obtain ⟨k, J, hk, rfl, rfl, HJ, HBW⟩ := hrel
      have hJl0 := flat_len ruleT 299 (rs.take k) (fun x _ => ruleT_len x)
      have hJl : J.length ≤ 3000 := by
        rw [HJ.out, List.length_append]
        have := HRL.out
        rw [List.length_take] at hJl0
        omega
      have hbW : Below W.heap.size W wr := HB3.out.trans (HBW.out.mono HB3.out.size)
      by_cases hlt : k < rn
      case pos =>
        obtain ⟨r, hr⟩ : ∃ r, rs[k]? = some r := ⟨_, List.getElem?_eq_getElem (by omega)⟩
        have hrs := HD.out.rs
        simp only at hrs
        have hmo : r.m.ok := hrs.okAt hr
        obtain ⟨bb, oo, rfl, hbb, hgg⟩ := hrs.2.2 (by omega)
        obtain ⟨q0, q1, q2, q3, q4⟩ := (hgg k r hr).below hbW hbb
        clear hgg hbW hrs
        obtain ⟨pm, m⟩ := r
        simp only at hmo q0 q1 q2 q3 q4
        cases pm
        · have HM := hide (fun w => matchPrint_walk m hmo w)
          have lM := matchT_len m
          have HRT := hide (show ruleT ⟨false, m⟩ = [100, 101, 110, 121, 32] ++ (matchT m ++ [10]) from rfl)
          have HTK := hide (flat_take ruleT hr)
          obtain ⟨M, hM⟩ : ∃ M, matchT m = M := ⟨_, rfl⟩
          rw [hM] at HM lM HRT
          have HJ2 := hide (show J ++ ([100, 101, 110, 121, 32] ++ (M ++ [10])) = HT ++ (rs.take (k + 1)).flatMap ruleT by rw [HTK.out, HJ.out, HRT.out, List.append_assoc])
          obtain ⟨a, b', c, d⟩ := m
          simp only at HM
          clear hM HTK HRT HJ hr hmo hJl0
          have a1 : ∀ w', (Op.stringOp .add ⟨List.toArray (J)⟩ ⟨List.toArray ([100, 101, 110, 121, 32])⟩).run Tryd.prog w' = .ok (.string ⟨List.toArray (J ++ [100, 101, 110, 121, 32])⟩) w' := fun w' => by
            have := add_run (J) ([100, 101, 110, 121, 32]) (by (try simp only [List.length_append, List.length_cons, List.length_nil]) <;> omega) (by (try simp only [List.length_append, List.length_cons, List.length_nil]) <;> omega) w'
            simpa using this
          have a2 : ∀ w', (Op.stringOp .add ⟨List.toArray (M)⟩ ⟨List.toArray ([10])⟩).run Tryd.prog w' = .ok (.string ⟨List.toArray (M ++ [10])⟩) w' := fun w' => by
            have := add_run (M) ([10]) (by (try simp only [List.length_append, List.length_cons, List.length_nil]) <;> omega) (by (try simp only [List.length_append, List.length_cons, List.length_nil]) <;> omega) w'
            simpa using this
          have a3 : ∀ w', (Op.stringOp .add ⟨List.toArray (J ++ [100, 101, 110, 121, 32])⟩ ⟨List.toArray (M ++ [10])⟩).run Tryd.prog w' = .ok (.string ⟨List.toArray (J ++ ([100, 101, 110, 121, 32] ++ (M ++ [10])))⟩) w' := fun w' => by
            have := add_run (J ++ [100, 101, 110, 121, 32]) (M ++ [10]) (by (try simp only [List.length_append, List.length_cons, List.length_nil]) <;> omega) (by (try simp only [List.length_append, List.length_cons, List.length_nil]) <;> omega) w'
            simpa using this
          have hwz := HBW.out.size
          have HB4 := hide (HBW.out.alloc hwz (.cells #[.bool false, .int .u16 (a : Int), .int .u16 (b' : Int), .int .u8 (c : Int), .int .u8 (d : Int)] 105))
          obtain ⟨y0, y1, y2, y3, y4⟩ := cells5f (heap_alloc_new wr (.cells #[.bool false, .int .u16 (a : Int), .int .u16 (b' : Int), .int .u8 (c : Int), .int .u8 (d : Int)] 105))
          clear HBW hJl lM
          go_wp2_with fail
          refine (HM.out _).mono ?_
          rintro e w5 ⟨rfl, hb5⟩
          have HB5 := hide (HB4.out.trans (hb5.mono HB4.out.size))
          clear hb5 HB4 y0 y1 y2 y3 y4 q0 q1 q2 q3 q4
          go_wp2_with fail
          go_roundw
          case rel => exact ⟨k + 1, _, by omega, by go_num, rfl, by simpa using HJ2, HB5⟩
          case measure => simp [intOf]; omega
        · have HM := hide (fun w => matchPrint_walk m hmo w)
          have lM := matchT_len m
          have HRT := hide (show ruleT ⟨true, m⟩ = [112, 101, 114, 109, 105, 116, 32] ++ (matchT m ++ [10]) from rfl)
          have HTK := hide (flat_take ruleT hr)
          obtain ⟨M, hM⟩ : ∃ M, matchT m = M := ⟨_, rfl⟩
          rw [hM] at HM lM HRT
          have HJ2 := hide (show J ++ ([112, 101, 114, 109, 105, 116, 32] ++ (M ++ [10])) = HT ++ (rs.take (k + 1)).flatMap ruleT by rw [HTK.out, HJ.out, HRT.out, List.append_assoc])
          obtain ⟨a, b', c, d⟩ := m
          simp only at HM
          clear hM HTK HRT HJ hr hmo hJl0
          have a1 : ∀ w', (Op.stringOp .add ⟨List.toArray (J)⟩ ⟨List.toArray ([112, 101, 114, 109, 105, 116, 32])⟩).run Tryd.prog w' = .ok (.string ⟨List.toArray (J ++ [112, 101, 114, 109, 105, 116, 32])⟩) w' := fun w' => by
            have := add_run (J) ([112, 101, 114, 109, 105, 116, 32]) (by (try simp only [List.length_append, List.length_cons, List.length_nil]) <;> omega) (by (try simp only [List.length_append, List.length_cons, List.length_nil]) <;> omega) w'
            simpa using this
          have a2 : ∀ w', (Op.stringOp .add ⟨List.toArray (M)⟩ ⟨List.toArray ([10])⟩).run Tryd.prog w' = .ok (.string ⟨List.toArray (M ++ [10])⟩) w' := fun w' => by
            have := add_run (M) ([10]) (by (try simp only [List.length_append, List.length_cons, List.length_nil]) <;> omega) (by (try simp only [List.length_append, List.length_cons, List.length_nil]) <;> omega) w'
            simpa using this
          have a3 : ∀ w', (Op.stringOp .add ⟨List.toArray (J ++ [112, 101, 114, 109, 105, 116, 32])⟩ ⟨List.toArray (M ++ [10])⟩).run Tryd.prog w' = .ok (.string ⟨List.toArray (J ++ ([112, 101, 114, 109, 105, 116, 32] ++ (M ++ [10])))⟩) w' := fun w' => by
            have := add_run (J ++ [112, 101, 114, 109, 105, 116, 32]) (M ++ [10]) (by (try simp only [List.length_append, List.length_cons, List.length_nil]) <;> omega) (by (try simp only [List.length_append, List.length_cons, List.length_nil]) <;> omega) w'
            simpa using this
          have hwz := HBW.out.size
          have HB4 := hide (HBW.out.alloc hwz (.cells #[.bool true, .int .u16 (a : Int), .int .u16 (b' : Int), .int .u8 (c : Int), .int .u8 (d : Int)] 105))
          obtain ⟨y0, y1, y2, y3, y4⟩ := cells5f (heap_alloc_new wr (.cells #[.bool true, .int .u16 (a : Int), .int .u16 (b' : Int), .int .u8 (c : Int), .int .u8 (d : Int)] 105))
          clear HBW hJl lM
          go_wp2_with fail
          refine (HM.out _).mono ?_
          rintro e w5 ⟨rfl, hb5⟩
          have HB5 := hide (HB4.out.trans (hb5.mono HB4.out.size))
          clear hb5 HB4 y0 y1 y2 y3 y4 q0 q1 q2 q3 q4
          go_wp2_with fail
          go_roundw
          case rel => exact ⟨k + 1, _, by omega, by go_num, rfl, by simpa using HJ2, HB5⟩
          case measure => simp [intOf]; omega
      case neg =>
        obtain rfl : k = rn := by omega
        have hall : rs.take k = rs := List.take_of_length_le (by omega)
        rw [hall] at HJ
        have HXR := hide ((HBW.out.block W.heap.size (heap_lt HX3.out)).trans HX3.out)
        have HBR := hide hbW
        obtain ⟨c0, c1, c2, c3, c4, c5, c6⟩ := cells7f HXR.out
        have hJlf : J.length ≤ 3000 := hJl
        clear hJl0 hbW HBW hall c0 c1 c2 c3 c4 c5
        obtain ⟨w7, hw7⟩ : ∃ w, w = wr := ⟨_, rfl⟩
        subst hw7
        go_wp2_with fail
        go_loopw [3, 77] (fun v i wf => ∃ (n : Nat) (L : List UInt8), n ≤ tn ∧ i = .int .i64 (n : Int) ∧ v = .string ⟨L.toArray⟩ ∧ Hid (L = J ++ (ts.take n).flatMap routeT) ∧ Hid (Below w7.heap.size w7 wf)) (fun _ i _ => tn - (intOf i).toNat)
        case atStart => exact ⟨0, J, Nat.zero_le _, rfl, rfl, hide (by simp), hide (Below.refl _ _)⟩
        case round =>
          obtain ⟨n, L, hn, rfl, rfl, HL, HBF⟩ := hrel
          have hLl : L.length ≤ 4000 := by
            have h15 := flat_len routeT 15 (ts.take n) (fun x hx => by
              have := HTO.out x (List.mem_of_mem_take hx)
              exact routeT_len this.1.2 this.2.1.2 this.2.2.2)
            rw [HL.out, List.length_append]
            have := HTT.out
            rw [List.length_take] at h15
            omega
          by_cases hlt2 : n < tn
          case pos =>
            obtain ⟨r, hr⟩ : ∃ r, ts[n]? = some r := ⟨_, List.getElem?_eq_getElem (by omega)⟩
            have hts := HD.out.ts
            simp only at hts
            have hrr := HTO.out r (List.mem_of_getElem? hr)
            obtain ⟨bb, oo, rfl, hbb, hgg⟩ := hts.2 (by omega)
            have hbF : Below W.heap.size W wr := HBR.out.trans (HBF.out.mono HBR.out.size)
            have q0 : wr.cell? ⟨bb, oo + n * 3, none⟩ = some (.int .i64 r.v) := (hbF.cell (p := ⟨bb, oo + n * 3, none⟩) hbb).trans (hgg n r hr 0 _ rfl)
            have q1 : wr.cell? ⟨bb, oo + n * 3 + 1, none⟩ = some (.int .i64 r.b) := (hbF.cell (p := ⟨bb, oo + n * 3 + 1, none⟩) hbb).trans (hgg n r hr 1 _ rfl)
            have q2 : wr.cell? ⟨bb, oo + n * 3 + 2, none⟩ = some (.int .i64 r.p) := (hbF.cell (p := ⟨bb, oo + n * 3 + 2, none⟩) hbb).trans (hgg n r hr 2 _ rfl)
            clear hgg hbF hts
            have HRT := hide (show routeT r = [114, 111, 117, 116, 101, 32] ++ (Lib.decDigits r.v.toNat ++ 47 :: (Lib.decDigits r.b.toNat ++ 32 :: (Lib.decDigits r.p.toNat ++ [10]))) from rfl)
            have HTK := hide (flat_take routeT hr)
            obtain ⟨rv, rb, rp⟩ := r
            simp only at q0 q1 q2 hrr HRT
            have I1 := hide (fun w => show Calls Tryd.prog 41 #[.int .i64 rv] w (fun e w' => e = .returned (.string ⟨(Lib.decDigits (rv).toNat).toArray⟩) ∧ w' = w) from by
              have h := Tryd.strconv_Itoa_small (rv).toNat (by have := hrr.1; omega) w
              rw [show (((rv).toNat : Nat) : Int) = rv by have := hrr.1; omega] at h
              exact h)
            have I2 := hide (fun w => show Calls Tryd.prog 41 #[.int .i64 rb] w (fun e w' => e = .returned (.string ⟨(Lib.decDigits (rb).toNat).toArray⟩) ∧ w' = w) from by
              have h := Tryd.strconv_Itoa_small (rb).toNat (by have := hrr.2.1; omega) w
              rw [show (((rb).toNat : Nat) : Int) = rb by have := hrr.2.1; omega] at h
              exact h)
            have I3 := hide (fun w => show Calls Tryd.prog 41 #[.int .i64 rp] w (fun e w' => e = .returned (.string ⟨(Lib.decDigits (rp).toNat).toArray⟩) ∧ w' = w) from by
              have h := Tryd.strconv_Itoa_small (rp).toNat (by have := hrr.2.2; omega) w
              rw [show (((rp).toNat : Nat) : Int) = rp by have := hrr.2.2; omega] at h
              exact h)
            have l1 := dec_len2 (show rv.toNat < 100 by omega)
            have l2 := dec_len2 (show rb.toNat < 100 by omega)
            have l3 := dec_len2 (show rp.toNat < 100 by omega)
            generalize Lib.decDigits rv.toNat = X1 at *
            generalize Lib.decDigits rb.toNat = X2 at *
            generalize Lib.decDigits rp.toNat = X3 at *
            have HL2 := hide (show L ++ ([114, 111, 117, 116, 101, 32] ++ (X1 ++ 47 :: (X2 ++ 32 :: (X3 ++ [10])))) = J ++ (ts.take (n + 1)).flatMap routeT by rw [HTK.out, HL.out, HRT.out, List.append_assoc])
            clear HTK HRT HL hr hrr
            have r1 : ∀ w', (Op.stringOp .add ⟨List.toArray ([114, 111, 117, 116, 101, 32])⟩ ⟨List.toArray (X1)⟩).run Tryd.prog w' = .ok (.string ⟨List.toArray (114 :: 111 :: 117 :: 116 :: 101 :: 32 :: X1)⟩) w' := fun w' => by
              have := add_run ([114, 111, 117, 116, 101, 32]) (X1) (by (try simp only [List.length_append, List.length_cons, List.length_nil]) <;> omega) (by (try simp only [List.length_append, List.length_cons, List.length_nil]) <;> omega) w'
              simpa using this
            have r2 : ∀ w', (Op.stringOp .add ⟨List.toArray (114 :: 111 :: 117 :: 116 :: 101 :: 32 :: X1)⟩ ⟨List.toArray ([47])⟩).run Tryd.prog w' = .ok (.string ⟨List.toArray (114 :: 111 :: 117 :: 116 :: 101 :: 32 :: (X1 ++ [47]))⟩) w' := fun w' => by
              have := add_run (114 :: 111 :: 117 :: 116 :: 101 :: 32 :: X1) ([47]) (by (try simp only [List.length_append, List.length_cons, List.length_nil]) <;> omega) (by (try simp only [List.length_append, List.length_cons, List.length_nil]) <;> omega) w'
              simpa using this
            have r3 : ∀ w', (Op.stringOp .add ⟨List.toArray (114 :: 111 :: 117 :: 116 :: 101 :: 32 :: (X1 ++ [47]))⟩ ⟨List.toArray (X2)⟩).run Tryd.prog w' = .ok (.string ⟨List.toArray (114 :: 111 :: 117 :: 116 :: 101 :: 32 :: (X1 ++ 47 :: X2))⟩) w' := fun w' => by
              have := add_run (114 :: 111 :: 117 :: 116 :: 101 :: 32 :: (X1 ++ [47])) (X2) (by (try simp only [List.length_append, List.length_cons, List.length_nil]) <;> omega) (by (try simp only [List.length_append, List.length_cons, List.length_nil]) <;> omega) w'
              simpa using this
            have r4 : ∀ w', (Op.stringOp .add ⟨List.toArray (114 :: 111 :: 117 :: 116 :: 101 :: 32 :: (X1 ++ 47 :: X2))⟩ ⟨List.toArray ([32])⟩).run Tryd.prog w' = .ok (.string ⟨List.toArray (114 :: 111 :: 117 :: 116 :: 101 :: 32 :: (X1 ++ 47 :: (X2 ++ [32])))⟩) w' := fun w' => by
              have := add_run (114 :: 111 :: 117 :: 116 :: 101 :: 32 :: (X1 ++ 47 :: X2)) ([32]) (by (try simp only [List.length_append, List.length_cons, List.length_nil]) <;> omega) (by (try simp only [List.length_append, List.length_cons, List.length_nil]) <;> omega) w'
              simpa using this
            have r5 : ∀ w', (Op.stringOp .add ⟨List.toArray (114 :: 111 :: 117 :: 116 :: 101 :: 32 :: (X1 ++ 47 :: (X2 ++ [32])))⟩ ⟨List.toArray (X3)⟩).run Tryd.prog w' = .ok (.string ⟨List.toArray (114 :: 111 :: 117 :: 116 :: 101 :: 32 :: (X1 ++ 47 :: (X2 ++ 32 :: X3)))⟩) w' := fun w' => by
              have := add_run (114 :: 111 :: 117 :: 116 :: 101 :: 32 :: (X1 ++ 47 :: (X2 ++ [32]))) (X3) (by (try simp only [List.length_append, List.length_cons, List.length_nil]) <;> omega) (by (try simp only [List.length_append, List.length_cons, List.length_nil]) <;> omega) w'
              simpa using this
            have r6 : ∀ w', (Op.stringOp .add ⟨List.toArray (114 :: 111 :: 117 :: 116 :: 101 :: 32 :: (X1 ++ 47 :: (X2 ++ 32 :: X3)))⟩ ⟨List.toArray ([10])⟩).run Tryd.prog w' = .ok (.string ⟨List.toArray (114 :: 111 :: 117 :: 116 :: 101 :: 32 :: (X1 ++ 47 :: (X2 ++ 32 :: (X3 ++ [10]))))⟩) w' := fun w' => by
              have := add_run (114 :: 111 :: 117 :: 116 :: 101 :: 32 :: (X1 ++ 47 :: (X2 ++ 32 :: X3))) ([10]) (by (try simp only [List.length_append, List.length_cons, List.length_nil]) <;> omega) (by (try simp only [List.length_append, List.length_cons, List.length_nil]) <;> omega) w'
              simpa using this
            have r7 : ∀ w', (Op.stringOp .add ⟨List.toArray (L)⟩ ⟨List.toArray (114 :: 111 :: 117 :: 116 :: 101 :: 32 :: (X1 ++ 47 :: (X2 ++ 32 :: (X3 ++ [10]))))⟩).run Tryd.prog w' = .ok (.string ⟨List.toArray (L ++ 114 :: 111 :: 117 :: 116 :: 101 :: 32 :: (X1 ++ 47 :: (X2 ++ 32 :: (X3 ++ [10]))))⟩) w' := fun w' => by
              have := add_run (L) (114 :: 111 :: 117 :: 116 :: 101 :: 32 :: (X1 ++ 47 :: (X2 ++ 32 :: (X3 ++ [10])))) (by (try simp only [List.length_append, List.length_cons, List.length_nil]) <;> omega) (by (try simp only [List.length_append, List.length_cons, List.length_nil]) <;> omega) w'
              simpa using this
            have hwz := HBF.out.size
            have HB4 := hide (HBF.out.alloc hwz (.cells #[.int .i64 rv, .int .i64 rb, .int .i64 rp] 107))
            obtain ⟨y0, y1, y2⟩ := cells3f (heap_alloc_new wr (.cells #[.int .i64 rv, .int .i64 rb, .int .i64 rp] 107))
            clear HBF hLl hJlf l1 l2 l3 hJl
            go_wp2_with fail
            generalize wr.alloc (.cells #[.int .i64 rv, .int .i64 rb, .int .i64 rp] 107) = w4 at *
            go_quiet (first | (go_at_call_of 41 (Value.int .i64 rv); exact Calls.quiet_of_same (I1.out _)) | (go_at_call_of 41 (Value.int .i64 rb); exact Calls.quiet_of_same (I2.out _)) | (go_at_call_of 41 (Value.int .i64 rp); exact Calls.quiet_of_same (I3.out _)))
            have HB5 := hide (HB4.out.trans ((below_drewN w4 nq).mono HB4.out.size))
            go_wp2_with fail
            go_roundw
            case rel => exact ⟨n + 1, _, by omega, by go_num, rfl, by simpa using HL2, HB5⟩
            case measure => simp [intOf]; omega
          case neg =>
            obtain rfl : n = tn := by omega
            have hall : ts.take n = ts := List.take_of_length_le (by omega)
            rw [hall] at HL
            have HFIN := hide (show L = DT by rw [HL.out, HJ.out, HDT.out, List.append_assoc])
            have HBZ := hide (HBR.out.trans (HBF.out.mono HBR.out.size))
            clear HL HJ HDT HBF hall
            go_wp2
            go_ret
            exact ⟨by rw [← HFIN.out]; rfl, HBZ.out⟩
end Go.Proofs.YtohbafigjpoijaaDoor
