/- wirekeep.chain: a host, a device, a host, in a row. -/
import Derived.Test.YtidikopjfpioaaaStepDrop
set_option linter.unusedVariables false
set_option linter.unusedSimpArgs false
namespace Go.Proofs.Ytidikopjfpioaaa
open Go.RowKit Go.Maps

def hostV (s : ByteArray) (a : Int) : DevV := ⟨s, 1, a, 0, none, 0, 0, [], none, 0, 0, [], none, 0, 0, []⟩
def chainD (d : Dev) : List Dev := [⟨⟨#[105, 110]⟩, 1, 1, 0, [], [], []⟩, ⟨⟨#[100]⟩, d.kind, d.addr, d.pool, d.backs, d.rules, d.routes⟩, ⟨⟨#[111, 117, 116]⟩, 1, 2, 0, [], [], []⟩]
def chainL : List LinkV := [⟨0, 0, 1, 0⟩, ⟨1, 1, 2, 0⟩]

theorem slAt_box {α : Type} {cells : α → List Value} {s : Nat} (hs : ∀ r, (cells r).length = s) {w : World} {N B : Nat} {l : List α} (h : BoxV w N (l.flatMap cells).toArray) (hN : N < B) : SlAt cells s w B (some ⟨N, 0, none⟩) l.length l :=
  ⟨rfl, fun _ => ⟨N, 0, rfl, hN, fun k r hr j v hv => by
    rw [Nat.zero_add]
    exact h.1 _ v (by simpa using flat_get hs l k r j v hr hv)⟩⟩
theorem hostAt (w : World) (B : Nat) (s : ByteArray) (a : Int) (hs : s.size ≤ maxLen) (ha : i64ok a) : DevAt w B (hostV s a) :=
  ⟨hs, by simp [hostV, i64ok], ha, by simp [hostV], ⟨rfl, fun x hx => by simp [hostV] at hx, fun h0 => absurd h0 (Nat.lt_irrefl _)⟩, ⟨rfl, fun r hr => by simp [hostV] at hr, fun h0 => absurd h0 (Nat.lt_irrefl _)⟩, ⟨rfl, fun h0 => absurd h0 (Nat.lt_irrefl _)⟩, fun r hr => by simp [hostV] at hr, by simp [hostV], by simp [hostV], by simp [hostV]⟩

set_option maxRecDepth 100000 in
set_option maxHeartbeats 4000000 in
theorem chain_walk (d : DevV) (W : World) (hd : DevAt W W.heap.size d) :
    Calls Try.prog 45 #[.agg #[.string d.name, .int .i64 d.kind, .int .i64 d.addr, .int .u8 d.pool, .slice d.bA d.bn d.bc, .slice d.rA d.rn d.rc, .slice d.tA d.tn d.tc]] W fun e W' => ∃ n : NetV, e = .returned n.val ∧ NetAt W' W'.heap.size n ∧ n.devs = chainD d.dev ∧ n.ls = chainL ∧ Below W.heap.size W W' := by
  go_enter Try.func45, Try.ntmps45
  go_wp2
  generalize hW : World.alloc _ _ = W4
  obtain ⟨hq, hb⟩ := boxesV (B := W4.heap.size) [(#[.string ⟨#[100]⟩, .int .i64 d.kind, .int .i64 d.addr, .int .u8 d.pool, .slice d.bA d.bn d.bc, .slice d.rA d.rn d.rc, .slice d.tA d.tn d.tc], 30),
    (#[.slice (some ⟨W.heap.size + 1 + 1, 0, none⟩) 3 3, .slice (some ⟨W.heap.size + 1 + 1 + 1, 0, none⟩) 2 2], 25),
    (([hostV ⟨#[105, 110]⟩ 1, ⟨⟨#[100]⟩, d.kind, d.addr, d.pool, d.bA, d.bn, d.bc, d.bs, d.rA, d.rn, d.rc, d.rs, d.tA, d.tn, d.tc, d.ts⟩, hostV ⟨#[111, 117, 116]⟩ 2].flatMap DevV.cells).toArray, 30),
    ((chainL.flatMap LinkV.cells).toArray, 32)] W (W' := W4) (by rw [← hW]; exact Below.refl _ _)
  have hs : W4.heap.size = W.heap.size + 4 := by rw [← hW]; simp
  clear hW
  have hbx := hq 1 _ _ rfl (by omega)
  have hbd := hq 2 _ _ rfl (by omega)
  have hbl := hq 3 _ _ rfl (by omega)
  have hbe := hb (by omega)
  obtain ⟨z0, z1⟩ : W4.cell? ⟨W.heap.size + 1, 0, none⟩ = some (.slice (some ⟨W.heap.size + 1 + 1, 0, none⟩) 3 3) ∧ W4.cell? ⟨W.heap.size + 1, 1, none⟩ = some (.slice (some ⟨W.heap.size + 1 + 1 + 1, 0, none⟩) 2 2) := ⟨hbx.1 0 _ rfl, hbx.1 1 _ rfl⟩
  refine bodyPost_ret (v := .agg #[.slice (some ⟨W.heap.size + 1 + 1, 0, none⟩) 3 3, .slice (some ⟨W.heap.size + 1 + 1 + 1, 0, none⟩) 2 2]) (by simp [results, Try.f45, go_sem, z0, z1]) rfl
    ⟨⟨some ⟨W.heap.size + 1 + 1, 0, none⟩, 3, 3, [hostV ⟨#[105, 110]⟩ 1, ⟨⟨#[100]⟩, d.kind, d.addr, d.pool, d.bA, d.bn, d.bc, d.bs, d.rA, d.rn, d.rc, d.rs, d.tA, d.tn, d.tc, d.ts⟩, hostV ⟨#[111, 117, 116]⟩ 2], some ⟨W.heap.size + 1 + 1 + 1, 0, none⟩, 2, 2, chainL⟩, rfl, ?_, rfl, rfl, hbe⟩
  have hd4 := hd.below hbe (show W.heap.size ≤ W4.heap.size by omega)
  refine ⟨slAt_box DevV.len hbd (by omega), fun x hx => ?_, slAt_box LinkV.len hbl (by omega), fun x hx => ?_, ⟨Nat.le_refl _, show (3 : Nat) ≤ maxLen by unfold maxLen; omega⟩, ⟨Nat.le_refl _, show (2 : Nat) ≤ maxLen by unfold maxLen; omega⟩⟩
  · simp only [List.mem_cons, List.not_mem_nil, or_false] at hx
    rcases hx with rfl | rfl | rfl
    · exact hostAt _ _ _ _ (by unfold maxLen; decide) (by unfold i64ok; omega)
    · exact ⟨show (1 : Nat) ≤ maxLen by unfold maxLen; omega, hd4.kd, hd4.ad, hd4.pl, hd4.bs, hd4.rs, hd4.ts, hd4.tok, hd4.cb, hd4.cr, hd4.ct⟩
    · exact hostAt _ _ _ _ (by unfold maxLen; decide) (by unfold i64ok; omega)
  · simp only [chainL, List.mem_cons, List.not_mem_nil, or_false] at hx
    rcases hx with rfl | rfl <;> simp [LinkV.ok, i64ok]
end Go.Proofs.Ytidikopjfpioaaa
