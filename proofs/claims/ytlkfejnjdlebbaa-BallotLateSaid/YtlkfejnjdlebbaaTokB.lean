/- Contracts of the sequencer's Answer and what it calls. No condition. -/
import Derived.Test.YtlkfejnjdlebbaaTokA
import Derived.Test.YtlkfejnjdlebbaaMap
namespace Go.Proofs.Ytlkfejnjdlebbaa
open Go.RowKit

structure Slc where
  a : Option Addr
  len : Nat
  cap : Nat
def Slc.nil : Slc := ⟨none, 0, 0⟩
abbrev Slc.val (s : Slc) : Value := .slice s.a s.len s.cap

/-- A message, as its cells. -/
structure Msg where
  frm : Int
  to : Int
  num : Int
  rep : Bool
  kind : Int
  ep : Int
  at_ : Int
  what : Int
  data : Slc
  rnd : Int
  who : Int
  val : Slc
  err : Int
  tail : Int
  low : Int
  back : Int

abbrev Msg.cells (m : Msg) : Array Value := #[.int .i64 m.frm, .int .i64 m.to, .int .i64 m.num, .bool m.rep, .int .i64 m.kind, .int .i64 m.ep, .int .i64 m.at_, .int .i64 m.what,
  .slice m.data.a m.data.len m.data.cap, .int .i64 m.rnd, .int .i64 m.who, .slice m.val.a m.val.len m.val.cap, .int .i64 m.err, .int .i64 m.tail, .int .i64 m.low, .int .i64 m.back]

def Msg.reply (m : Msg) (e : Int) : Msg :=
  { frm := m.to, to := m.frm, num := m.num, rep := true, kind := m.kind, ep := m.ep, at_ := m.at_, what := 0, data := ⟨none, 0, 0⟩, rnd := 0, who := 0, val := ⟨none, 0, 0⟩, err := e, tail := 0, low := 0, back := 0 }
def Msg.none : Msg :=
  { frm := 0, to := 0, num := 0, rep := false, kind := 0, ep := 0, at_ := 0, what := 0, data := ⟨.none, 0, 0⟩, rnd := 0, who := 0, val := ⟨.none, 0, 0⟩, err := 0, tail := 0, low := 0, back := 0 }

set_option maxHeartbeats 1000000 in
theorem reply_any (m : Msg) (e : Int) (w : World) :
    Calls Try.prog 20 #[.agg m.cells, .int .i64 e] w fun en w' => en = .returned (.agg (m.reply e).cells) ∧ Mod [] w w' := by
  unfold Msg.cells
  go_enter Try.func20, Try.ntmps20
  go_wp2
  exact bodyPost_ret (v := .agg (m.reply e).cells) (results_cell_row rfl _ _ (w.heap.size + 1) 33 (m.reply e).cells (0, 0) _ rfl (by rw [hp_alloc, if_pos (by simp)]; rfl) Try.underlying33 rfl (by kernel_rfl)) rfl ⟨rfl, ((Mod.refl [] w).alloc _).alloc _⟩

end Go.Proofs.Ytlkfejnjdlebbaa
